/- Parts Us Ut Uu Uv, put together. -/
import Derived.Test.YtpfnnmcokbolhaaGreatMd3
import Derived.Test.YtpfnnmcokbolhaaGreatMd8
import Derived.Test.YtpfnnmcokbolhaaGreatMd19
import Derived.Test.YtpfnnmcokbolhaaGreatMd22
import Derived.Deep.Slices
import Derived.OpenShut
import Derived.ProofKit
/- The twin's do: the switch. -/
namespace Go.Proofs.YtpfnnmcokbolhaaGreat
open Go.RowKit
set_option pp.deepTerms true
theorem TwR.mono {w W : World} {t b p k : Nat} {sz ca : Int} {n m : Nat} {N : Nt} {F : List Asr} (h : TwR w W t b p k sz ca n N F) (hm : n ≤ m) : TwR w W t b p k sz ca m N F := by
  obtain ⟨T, Z, h1, h2, h3⟩ := h
  exact ⟨T, Z, h1, h2.mono hm, h3⟩
theorem TwR.lose {w W : World} {t b p k : Nat} {sz ca : Int} {n : Nat} {N : Nt} {F : List Asr} {A : Asr} (h : TwR w W t b p k sz ca n N (A :: F)) : TwR w W t b p k sz ca n N F := by
  obtain ⟨T, Z, ⟨lv, pv, ml, h0, h1⟩, h2, h3⟩ := h
  exact ⟨T, Z, ⟨lv, pv, ml, h0, tw_lose h1⟩, h2, h3⟩
theorem Rdi.cut {w : World} {ao : Option Addr} {n c k : Nat} {xs : List Int} (h : Rdi w (.slice ao n c) xs) (hk : k ≤ xs.length) : Rdi w (.slice ao k c) (xs.take k) := Rdi.take h hk
section
variable {w W : World} {F G : List Asr} {t b p k g c : Nat} {sz ca many : Int} {C : Ch} {lv pv : Value} {ml l : List Mv} {x : Mv} {Q : List (Int × Pf)} {A : Asr} {T : Tw} {Z : List (Md × Af)} {n : Nat} {o : Op25} {sv av : Value} {last : Bool} {B0 : Nat}
set_option maxRecDepth 100000 in
set_option maxHeartbeats 4000000 in
theorem tdo_sw0 {n' : Nat} {N' : Nt} {K : Act → World → Prop} {lm B10 : Nat} {v1 v2 kv : Int} {u2 u6 u7 u8 u11 u12 u13 u14 u15 u16 u17 u18 u19 u20 u21 u22 u23 u24 u25 u26 u27 u28 u29 u30 u31 u32 u33 u34 u35 u36 u37 u38 u39 u40 u41 u42 u43 u44 u45 u46 u47 u48 u49 u50 u51 u52 u53 u54 u55 u56 u57 u58 u59 u60 u61 u62 u63 u64 u65 u66 u67 u68 u69 u70 u71 u72 u73 u74 u75 u76 u77 u78 u80 u81 u82 u83 u84 u85 u86 u87 u88 u89 u90 u91 u92 u93 u94 u95 u96 u97 u98 u99 u100 u101 u102 u103 u104 u105 u106 u107 u108 u109 u110 u111 u112 u113 u114 u115 u116 u117 u118 u119 u120 u121 u122 u123 u124 u125 u126 u127 u128 u129 u130 u131 u132 u133 u134 u135 u136 u137 u138 u139 u140 u141 u142 u143 u144 u145 u146 u147 u148 u149 u150 u151 u152 u153 u154 u155 u156 u157 u158 u159 u160 u161 u162 u163 u164 u165 u166 u167 u168 u169 u170 u171 u172 u173 u174 u175 u176 u177 u178 u179 u180 u181 u182 u183 u184 u185 u186 u187 u188 u189 u190 u191 u192 u193 u194 u195 u196 u197 u198 u199 u200 u201 u202 u203 u204 u205 u206 u207 u208 u209 u210 u211 u212 u213 u214 u215 u216 u217 u218 u219 u220 u221 u222 u223 u224 u225 u226 u227 u228 u229 u230 u231 u232 u233 u234 u235 u236 u237 u238 u239 u240 u241 u242 u243 u244 u245 u246 u247 u248 u249 u250 u251 u252 u253 u254 u255 u256 u257 u258 u259 u260 u261 u262 u263 u264 u265 u266 u267 u268 u269 u270 u271 u272 u273 u274 u275 u276 u277 u278 u279 u280 u281 u282 u283 u284 u285 u286 u287 u288 u289 u290 u291 u292 u293 u294 u295 u296 u297 u298 u299 u300 u301 u302 u303 u304 u305 u306 u307 u308 u309 u310 u311 u312 u313 u314 u315 u316 u317 u318 u319 u320 u321 u322 u323 u324 u325 u326 u327 u328 u329 u330 u331 u332 u333 u334 u335 u336 u337 u338 : Value} (H0 : Hid (Sep w (twL t b (.slice (some ⟨g, 0, none⟩) (l.length + 1 : Nat) c) pv (x :: l) Q many ++ chP b p k sz ca C (bx B10 (.cells #[.int .i64 v1, .int .i64 v2] 34) :: bx B0 (.cells #[.int .i64 o.kind, .int .i64 o.n, sv, .int .i64 o.l.args, .int .i64 o.l.res, .int .i64 o.l.height, av, .int .i64 o.v.1, .int .i64 o.v.2, .bool last] 36) :: F)) W)) (hs : Sim sz ca n ⟨C, (x :: l).map (·.m), Q, many⟩ Z) (hn : n ≤ 280) (hn' : n + 1 ≤ n') (hlm : l.length = lm) (hv : o.val = (v1, v2)) (hN : stepN (Tw.N ⟨C, (x :: l).map (·.m), Q, many⟩) o = N') (hK : Hid (∀ (tm : Array Value) (W' : World), tm.size = 339 → TwR w W' t b p k sz ca n' N' F → K ⟨tm, []⟩ W')) (hsl : ∀ W', Sep w F W' → Rdi W' sv o.l.slots) (hcap : SlOk sv) (hlen : o.l.slots.length ≤ 100) (hkv : kv = 0) (hki : o.kind = kv) :
    Code.wp Tryz.prog (pieceOf (Tryz.f8.body.getD .skip) [1, 1, 1, 1, 1, 1, 0, 1]) (Exit.then K (bodyPost Tryz.prog Tryz.f8 (fun e w' => TwR w w' t b p k sz ca n' N' F ∧ e = .returned (.bool true)))) ⟨#[.pointer (some ⟨t, 0, none⟩), (.agg #[.int .i64 o.kind, .int .i64 o.n, sv, .int .i64 o.l.args, .int .i64 o.l.res, .int .i64 o.l.height, av, .int .i64 o.v.1, .int .i64 o.v.2, .bool last]), u2, .pointer (some ⟨B0, 0, none⟩), .bool false, .int .i64 ((lm : Int) + 1), u6, u7, u8, .pointer (some ⟨g, lm * 7, none⟩), .pointer (some ⟨B10, 0, none⟩), u11, u12, u13, u14, u15, u16, u17, u18, u19, u20, u21, u22, u23, u24, u25, u26, u27, u28, u29, u30, u31, u32, u33, u34, u35, u36, u37, u38, u39, u40, u41, u42, u43, u44, u45, u46, u47, u48, u49, u50, u51, u52, u53, u54, u55, u56, u57, u58, u59, u60, u61, u62, u63, u64, u65, u66, u67, u68, u69, u70, u71, u72, u73, u74, u75, u76, u77, u78, .int .i64 kv, u80, u81, u82, u83, u84, u85, u86, u87, u88, u89, u90, u91, u92, u93, u94, u95, u96, u97, u98, u99, u100, u101, u102, u103, u104, u105, u106, u107, u108, u109, u110, u111, u112, u113, u114, u115, u116, u117, u118, u119, u120, u121, u122, u123, u124, u125, u126, u127, u128, u129, u130, u131, u132, u133, u134, u135, u136, u137, u138, u139, u140, u141, u142, u143, u144, u145, u146, u147, u148, u149, u150, u151, u152, u153, u154, u155, u156, u157, u158, u159, u160, u161, u162, u163, u164, u165, u166, u167, u168, u169, u170, u171, u172, u173, u174, u175, u176, u177, u178, u179, u180, u181, u182, u183, u184, u185, u186, u187, u188, u189, u190, u191, u192, u193, u194, u195, u196, u197, u198, u199, u200, u201, u202, u203, u204, u205, u206, u207, u208, u209, u210, u211, u212, u213, u214, u215, u216, u217, u218, u219, u220, u221, u222, u223, u224, u225, u226, u227, u228, u229, u230, u231, u232, u233, u234, u235, u236, u237, u238, u239, u240, u241, u242, u243, u244, u245, u246, u247, u248, u249, u250, u251, u252, u253, u254, u255, u256, u257, u258, u259, u260, u261, u262, u263, u264, u265, u266, u267, u268, u269, u270, u271, u272, u273, u274, u275, u276, u277, u278, u279, u280, u281, u282, u283, u284, u285, u286, u287, u288, u289, u290, u291, u292, u293, u294, u295, u296, u297, u298, u299, u300, u301, u302, u303, u304, u305, u306, u307, u308, u309, u310, u311, u312, u313, u314, u315, u316, u317, u318, u319, u320, u321, u322, u323, u324, u325, u326, u327, u328, u329, u330, u331, u332, u333, u334, u335, u336, u337, u338], []⟩ W := by
  conv => arg 2; whnf
  subst hkv
  have hK' := hK
  have HKI := Hid.mk hki
  clear hki
  go_upto_if 80 with (fail)
  refine wp_cond_true rfl ?_
  exact tdo_call H0 hs hn hn' hlm hv hN hK' HKI.out hsl hcap hlen
set_option maxRecDepth 100000 in
set_option maxHeartbeats 4000000 in
theorem tdo_sw2 {n' : Nat} {N' : Nt} {K : Act → World → Prop} {lm B10 : Nat} {v1 v2 kv : Int} {u2 u6 u7 u8 u11 u12 u13 u14 u15 u16 u17 u18 u19 u20 u21 u22 u23 u24 u25 u26 u27 u28 u29 u30 u31 u32 u33 u34 u35 u36 u37 u38 u39 u40 u41 u42 u43 u44 u45 u46 u47 u48 u49 u50 u51 u52 u53 u54 u55 u56 u57 u58 u59 u60 u61 u62 u63 u64 u65 u66 u67 u68 u69 u70 u71 u72 u73 u74 u75 u76 u77 u78 u80 u81 u82 u83 u84 u85 u86 u87 u88 u89 u90 u91 u92 u93 u94 u95 u96 u97 u98 u99 u100 u101 u102 u103 u104 u105 u106 u107 u108 u109 u110 u111 u112 u113 u114 u115 u116 u117 u118 u119 u120 u121 u122 u123 u124 u125 u126 u127 u128 u129 u130 u131 u132 u133 u134 u135 u136 u137 u138 u139 u140 u141 u142 u143 u144 u145 u146 u147 u148 u149 u150 u151 u152 u153 u154 u155 u156 u157 u158 u159 u160 u161 u162 u163 u164 u165 u166 u167 u168 u169 u170 u171 u172 u173 u174 u175 u176 u177 u178 u179 u180 u181 u182 u183 u184 u185 u186 u187 u188 u189 u190 u191 u192 u193 u194 u195 u196 u197 u198 u199 u200 u201 u202 u203 u204 u205 u206 u207 u208 u209 u210 u211 u212 u213 u214 u215 u216 u217 u218 u219 u220 u221 u222 u223 u224 u225 u226 u227 u228 u229 u230 u231 u232 u233 u234 u235 u236 u237 u238 u239 u240 u241 u242 u243 u244 u245 u246 u247 u248 u249 u250 u251 u252 u253 u254 u255 u256 u257 u258 u259 u260 u261 u262 u263 u264 u265 u266 u267 u268 u269 u270 u271 u272 u273 u274 u275 u276 u277 u278 u279 u280 u281 u282 u283 u284 u285 u286 u287 u288 u289 u290 u291 u292 u293 u294 u295 u296 u297 u298 u299 u300 u301 u302 u303 u304 u305 u306 u307 u308 u309 u310 u311 u312 u313 u314 u315 u316 u317 u318 u319 u320 u321 u322 u323 u324 u325 u326 u327 u328 u329 u330 u331 u332 u333 u334 u335 u336 u337 u338 : Value} (H0 : Hid (Sep w (twL t b (.slice (some ⟨g, 0, none⟩) (l.length + 1 : Nat) c) pv (x :: l) Q many ++ chP b p k sz ca C (bx B10 (.cells #[.int .i64 v1, .int .i64 v2] 34) :: bx B0 (.cells #[.int .i64 o.kind, .int .i64 o.n, sv, .int .i64 o.l.args, .int .i64 o.l.res, .int .i64 o.l.height, av, .int .i64 o.v.1, .int .i64 o.v.2, .bool last] 36) :: F)) W)) (hs : Sim sz ca n ⟨C, (x :: l).map (·.m), Q, many⟩ Z) (hn : n ≤ 280) (hn' : n + 1 ≤ n') (hlm : l.length = lm) (hv : o.val = (v1, v2)) (hN : stepN (Tw.N ⟨C, (x :: l).map (·.m), Q, many⟩) o = N') (hK : Hid (∀ (tm : Array Value) (W' : World), tm.size = 339 → TwR w W' t b p k sz ca n' N' F → K ⟨tm, []⟩ W')) (hsl : ∀ W', Sep w F W' → Rdi W' sv o.l.slots) (hcap : SlOk sv) (hlen : o.l.slots.length ≤ 100) (hkv : kv = 2) (hki : o.kind = kv) :
    Code.wp Tryz.prog (pieceOf (Tryz.f8.body.getD .skip) [1, 1, 1, 1, 1, 1, 0, 1]) (Exit.then K (bodyPost Tryz.prog Tryz.f8 (fun e w' => TwR w w' t b p k sz ca n' N' F ∧ e = .returned (.bool true)))) ⟨#[.pointer (some ⟨t, 0, none⟩), (.agg #[.int .i64 o.kind, .int .i64 o.n, sv, .int .i64 o.l.args, .int .i64 o.l.res, .int .i64 o.l.height, av, .int .i64 o.v.1, .int .i64 o.v.2, .bool last]), u2, .pointer (some ⟨B0, 0, none⟩), .bool false, .int .i64 ((lm : Int) + 1), u6, u7, u8, .pointer (some ⟨g, lm * 7, none⟩), .pointer (some ⟨B10, 0, none⟩), u11, u12, u13, u14, u15, u16, u17, u18, u19, u20, u21, u22, u23, u24, u25, u26, u27, u28, u29, u30, u31, u32, u33, u34, u35, u36, u37, u38, u39, u40, u41, u42, u43, u44, u45, u46, u47, u48, u49, u50, u51, u52, u53, u54, u55, u56, u57, u58, u59, u60, u61, u62, u63, u64, u65, u66, u67, u68, u69, u70, u71, u72, u73, u74, u75, u76, u77, u78, .int .i64 kv, u80, u81, u82, u83, u84, u85, u86, u87, u88, u89, u90, u91, u92, u93, u94, u95, u96, u97, u98, u99, u100, u101, u102, u103, u104, u105, u106, u107, u108, u109, u110, u111, u112, u113, u114, u115, u116, u117, u118, u119, u120, u121, u122, u123, u124, u125, u126, u127, u128, u129, u130, u131, u132, u133, u134, u135, u136, u137, u138, u139, u140, u141, u142, u143, u144, u145, u146, u147, u148, u149, u150, u151, u152, u153, u154, u155, u156, u157, u158, u159, u160, u161, u162, u163, u164, u165, u166, u167, u168, u169, u170, u171, u172, u173, u174, u175, u176, u177, u178, u179, u180, u181, u182, u183, u184, u185, u186, u187, u188, u189, u190, u191, u192, u193, u194, u195, u196, u197, u198, u199, u200, u201, u202, u203, u204, u205, u206, u207, u208, u209, u210, u211, u212, u213, u214, u215, u216, u217, u218, u219, u220, u221, u222, u223, u224, u225, u226, u227, u228, u229, u230, u231, u232, u233, u234, u235, u236, u237, u238, u239, u240, u241, u242, u243, u244, u245, u246, u247, u248, u249, u250, u251, u252, u253, u254, u255, u256, u257, u258, u259, u260, u261, u262, u263, u264, u265, u266, u267, u268, u269, u270, u271, u272, u273, u274, u275, u276, u277, u278, u279, u280, u281, u282, u283, u284, u285, u286, u287, u288, u289, u290, u291, u292, u293, u294, u295, u296, u297, u298, u299, u300, u301, u302, u303, u304, u305, u306, u307, u308, u309, u310, u311, u312, u313, u314, u315, u316, u317, u318, u319, u320, u321, u322, u323, u324, u325, u326, u327, u328, u329, u330, u331, u332, u333, u334, u335, u336, u337, u338], []⟩ W := by
  conv => arg 2; whnf
  subst hkv
  have hK' := hK
  have HKI := Hid.mk hki
  clear hki
  go_upto_if 161 with (fail)
  refine wp_cond_true rfl ?_
  exact tdo_ret H0 hs hn hn' hlm hv hN hK' HKI.out
set_option maxRecDepth 100000 in
set_option maxHeartbeats 4000000 in
theorem tdo_sw3 {n' : Nat} {N' : Nt} {K : Act → World → Prop} {lm B10 : Nat} {v1 v2 kv : Int} {u2 u6 u7 u8 u11 u12 u13 u14 u15 u16 u17 u18 u19 u20 u21 u22 u23 u24 u25 u26 u27 u28 u29 u30 u31 u32 u33 u34 u35 u36 u37 u38 u39 u40 u41 u42 u43 u44 u45 u46 u47 u48 u49 u50 u51 u52 u53 u54 u55 u56 u57 u58 u59 u60 u61 u62 u63 u64 u65 u66 u67 u68 u69 u70 u71 u72 u73 u74 u75 u76 u77 u78 u80 u81 u82 u83 u84 u85 u86 u87 u88 u89 u90 u91 u92 u93 u94 u95 u96 u97 u98 u99 u100 u101 u102 u103 u104 u105 u106 u107 u108 u109 u110 u111 u112 u113 u114 u115 u116 u117 u118 u119 u120 u121 u122 u123 u124 u125 u126 u127 u128 u129 u130 u131 u132 u133 u134 u135 u136 u137 u138 u139 u140 u141 u142 u143 u144 u145 u146 u147 u148 u149 u150 u151 u152 u153 u154 u155 u156 u157 u158 u159 u160 u161 u162 u163 u164 u165 u166 u167 u168 u169 u170 u171 u172 u173 u174 u175 u176 u177 u178 u179 u180 u181 u182 u183 u184 u185 u186 u187 u188 u189 u190 u191 u192 u193 u194 u195 u196 u197 u198 u199 u200 u201 u202 u203 u204 u205 u206 u207 u208 u209 u210 u211 u212 u213 u214 u215 u216 u217 u218 u219 u220 u221 u222 u223 u224 u225 u226 u227 u228 u229 u230 u231 u232 u233 u234 u235 u236 u237 u238 u239 u240 u241 u242 u243 u244 u245 u246 u247 u248 u249 u250 u251 u252 u253 u254 u255 u256 u257 u258 u259 u260 u261 u262 u263 u264 u265 u266 u267 u268 u269 u270 u271 u272 u273 u274 u275 u276 u277 u278 u279 u280 u281 u282 u283 u284 u285 u286 u287 u288 u289 u290 u291 u292 u293 u294 u295 u296 u297 u298 u299 u300 u301 u302 u303 u304 u305 u306 u307 u308 u309 u310 u311 u312 u313 u314 u315 u316 u317 u318 u319 u320 u321 u322 u323 u324 u325 u326 u327 u328 u329 u330 u331 u332 u333 u334 u335 u336 u337 u338 : Value} (H0 : Hid (Sep w (twL t b (.slice (some ⟨g, 0, none⟩) (l.length + 1 : Nat) c) pv (x :: l) Q many ++ chP b p k sz ca C (bx B10 (.cells #[.int .i64 v1, .int .i64 v2] 34) :: bx B0 (.cells #[.int .i64 o.kind, .int .i64 o.n, sv, .int .i64 o.l.args, .int .i64 o.l.res, .int .i64 o.l.height, av, .int .i64 o.v.1, .int .i64 o.v.2, .bool last] 36) :: F)) W)) (hs : Sim sz ca n ⟨C, (x :: l).map (·.m), Q, many⟩ Z) (hn : n ≤ 280) (hn' : n ≤ n') (hlm : l.length = lm) (hv : o.val = (v1, v2)) (hN : stepN (Tw.N ⟨C, (x :: l).map (·.m), Q, many⟩) o = N') (hK : Hid (∀ (tm : Array Value) (W' : World), tm.size = 339 → TwR w W' t b p k sz ca n' N' F → K ⟨tm, []⟩ W')) (hsl : ∀ W', Sep w F W' → Rdi W' sv o.l.slots) (hcap : SlOk sv) (hlen : o.l.slots.length ≤ 100) (hkv : kv = 3) (hki : o.kind = kv) :
    Code.wp Tryz.prog (pieceOf (Tryz.f8.body.getD .skip) [1, 1, 1, 1, 1, 1, 0, 1]) (Exit.then K (bodyPost Tryz.prog Tryz.f8 (fun e w' => TwR w w' t b p k sz ca n' N' F ∧ e = .returned (.bool true)))) ⟨#[.pointer (some ⟨t, 0, none⟩), (.agg #[.int .i64 o.kind, .int .i64 o.n, sv, .int .i64 o.l.args, .int .i64 o.l.res, .int .i64 o.l.height, av, .int .i64 o.v.1, .int .i64 o.v.2, .bool last]), u2, .pointer (some ⟨B0, 0, none⟩), .bool false, .int .i64 ((lm : Int) + 1), u6, u7, u8, .pointer (some ⟨g, lm * 7, none⟩), .pointer (some ⟨B10, 0, none⟩), u11, u12, u13, u14, u15, u16, u17, u18, u19, u20, u21, u22, u23, u24, u25, u26, u27, u28, u29, u30, u31, u32, u33, u34, u35, u36, u37, u38, u39, u40, u41, u42, u43, u44, u45, u46, u47, u48, u49, u50, u51, u52, u53, u54, u55, u56, u57, u58, u59, u60, u61, u62, u63, u64, u65, u66, u67, u68, u69, u70, u71, u72, u73, u74, u75, u76, u77, u78, .int .i64 kv, u80, u81, u82, u83, u84, u85, u86, u87, u88, u89, u90, u91, u92, u93, u94, u95, u96, u97, u98, u99, u100, u101, u102, u103, u104, u105, u106, u107, u108, u109, u110, u111, u112, u113, u114, u115, u116, u117, u118, u119, u120, u121, u122, u123, u124, u125, u126, u127, u128, u129, u130, u131, u132, u133, u134, u135, u136, u137, u138, u139, u140, u141, u142, u143, u144, u145, u146, u147, u148, u149, u150, u151, u152, u153, u154, u155, u156, u157, u158, u159, u160, u161, u162, u163, u164, u165, u166, u167, u168, u169, u170, u171, u172, u173, u174, u175, u176, u177, u178, u179, u180, u181, u182, u183, u184, u185, u186, u187, u188, u189, u190, u191, u192, u193, u194, u195, u196, u197, u198, u199, u200, u201, u202, u203, u204, u205, u206, u207, u208, u209, u210, u211, u212, u213, u214, u215, u216, u217, u218, u219, u220, u221, u222, u223, u224, u225, u226, u227, u228, u229, u230, u231, u232, u233, u234, u235, u236, u237, u238, u239, u240, u241, u242, u243, u244, u245, u246, u247, u248, u249, u250, u251, u252, u253, u254, u255, u256, u257, u258, u259, u260, u261, u262, u263, u264, u265, u266, u267, u268, u269, u270, u271, u272, u273, u274, u275, u276, u277, u278, u279, u280, u281, u282, u283, u284, u285, u286, u287, u288, u289, u290, u291, u292, u293, u294, u295, u296, u297, u298, u299, u300, u301, u302, u303, u304, u305, u306, u307, u308, u309, u310, u311, u312, u313, u314, u315, u316, u317, u318, u319, u320, u321, u322, u323, u324, u325, u326, u327, u328, u329, u330, u331, u332, u333, u334, u335, u336, u337, u338], []⟩ W := by
  conv => arg 2; whnf
  subst hkv
  have hK' := hK
  have HKI := Hid.mk hki
  clear hki
  go_upto_if 219 with (fail)
  refine wp_cond_true rfl ?_
  exact tdo_drop H0 hs hn hn' hlm hv hN hK' HKI.out
set_option maxRecDepth 100000 in
set_option maxHeartbeats 4000000 in
theorem tdo_sw5 {n' : Nat} {N' : Nt} {K : Act → World → Prop} {lm B10 : Nat} {v1 v2 kv : Int} {u2 u6 u7 u8 u11 u12 u13 u14 u15 u16 u17 u18 u19 u20 u21 u22 u23 u24 u25 u26 u27 u28 u29 u30 u31 u32 u33 u34 u35 u36 u37 u38 u39 u40 u41 u42 u43 u44 u45 u46 u47 u48 u49 u50 u51 u52 u53 u54 u55 u56 u57 u58 u59 u60 u61 u62 u63 u64 u65 u66 u67 u68 u69 u70 u71 u72 u73 u74 u75 u76 u77 u78 u80 u81 u82 u83 u84 u85 u86 u87 u88 u89 u90 u91 u92 u93 u94 u95 u96 u97 u98 u99 u100 u101 u102 u103 u104 u105 u106 u107 u108 u109 u110 u111 u112 u113 u114 u115 u116 u117 u118 u119 u120 u121 u122 u123 u124 u125 u126 u127 u128 u129 u130 u131 u132 u133 u134 u135 u136 u137 u138 u139 u140 u141 u142 u143 u144 u145 u146 u147 u148 u149 u150 u151 u152 u153 u154 u155 u156 u157 u158 u159 u160 u161 u162 u163 u164 u165 u166 u167 u168 u169 u170 u171 u172 u173 u174 u175 u176 u177 u178 u179 u180 u181 u182 u183 u184 u185 u186 u187 u188 u189 u190 u191 u192 u193 u194 u195 u196 u197 u198 u199 u200 u201 u202 u203 u204 u205 u206 u207 u208 u209 u210 u211 u212 u213 u214 u215 u216 u217 u218 u219 u220 u221 u222 u223 u224 u225 u226 u227 u228 u229 u230 u231 u232 u233 u234 u235 u236 u237 u238 u239 u240 u241 u242 u243 u244 u245 u246 u247 u248 u249 u250 u251 u252 u253 u254 u255 u256 u257 u258 u259 u260 u261 u262 u263 u264 u265 u266 u267 u268 u269 u270 u271 u272 u273 u274 u275 u276 u277 u278 u279 u280 u281 u282 u283 u284 u285 u286 u287 u288 u289 u290 u291 u292 u293 u294 u295 u296 u297 u298 u299 u300 u301 u302 u303 u304 u305 u306 u307 u308 u309 u310 u311 u312 u313 u314 u315 u316 u317 u318 u319 u320 u321 u322 u323 u324 u325 u326 u327 u328 u329 u330 u331 u332 u333 u334 u335 u336 u337 u338 : Value} (H0 : Hid (Sep w (twL t b (.slice (some ⟨g, 0, none⟩) (l.length + 1 : Nat) c) pv (x :: l) Q many ++ chP b p k sz ca C (bx B10 (.cells #[.int .i64 v1, .int .i64 v2] 34) :: bx B0 (.cells #[.int .i64 o.kind, .int .i64 o.n, sv, .int .i64 o.l.args, .int .i64 o.l.res, .int .i64 o.l.height, av, .int .i64 o.v.1, .int .i64 o.v.2, .bool last] 36) :: F)) W)) (hs : Sim sz ca n ⟨C, (x :: l).map (·.m), Q, many⟩ Z) (hn : n ≤ 280) (hn' : n + 1 ≤ n') (hlm : l.length = lm) (hv : o.val = (v1, v2)) (hN : stepN (Tw.N ⟨C, (x :: l).map (·.m), Q, many⟩) o = N') (hK : Hid (∀ (tm : Array Value) (W' : World), tm.size = 339 → TwR w W' t b p k sz ca n' N' F → K ⟨tm, []⟩ W')) (hsl : ∀ W', Sep w F W' → Rdi W' sv o.l.slots) (hcap : SlOk sv) (hlen : o.l.slots.length ≤ 100) (hkv : kv = 5) (hki : o.kind = kv) :
    Code.wp Tryz.prog (pieceOf (Tryz.f8.body.getD .skip) [1, 1, 1, 1, 1, 1, 0, 1]) (Exit.then K (bodyPost Tryz.prog Tryz.f8 (fun e w' => TwR w w' t b p k sz ca n' N' F ∧ e = .returned (.bool true)))) ⟨#[.pointer (some ⟨t, 0, none⟩), (.agg #[.int .i64 o.kind, .int .i64 o.n, sv, .int .i64 o.l.args, .int .i64 o.l.res, .int .i64 o.l.height, av, .int .i64 o.v.1, .int .i64 o.v.2, .bool last]), u2, .pointer (some ⟨B0, 0, none⟩), .bool false, .int .i64 ((lm : Int) + 1), u6, u7, u8, .pointer (some ⟨g, lm * 7, none⟩), .pointer (some ⟨B10, 0, none⟩), u11, u12, u13, u14, u15, u16, u17, u18, u19, u20, u21, u22, u23, u24, u25, u26, u27, u28, u29, u30, u31, u32, u33, u34, u35, u36, u37, u38, u39, u40, u41, u42, u43, u44, u45, u46, u47, u48, u49, u50, u51, u52, u53, u54, u55, u56, u57, u58, u59, u60, u61, u62, u63, u64, u65, u66, u67, u68, u69, u70, u71, u72, u73, u74, u75, u76, u77, u78, .int .i64 kv, u80, u81, u82, u83, u84, u85, u86, u87, u88, u89, u90, u91, u92, u93, u94, u95, u96, u97, u98, u99, u100, u101, u102, u103, u104, u105, u106, u107, u108, u109, u110, u111, u112, u113, u114, u115, u116, u117, u118, u119, u120, u121, u122, u123, u124, u125, u126, u127, u128, u129, u130, u131, u132, u133, u134, u135, u136, u137, u138, u139, u140, u141, u142, u143, u144, u145, u146, u147, u148, u149, u150, u151, u152, u153, u154, u155, u156, u157, u158, u159, u160, u161, u162, u163, u164, u165, u166, u167, u168, u169, u170, u171, u172, u173, u174, u175, u176, u177, u178, u179, u180, u181, u182, u183, u184, u185, u186, u187, u188, u189, u190, u191, u192, u193, u194, u195, u196, u197, u198, u199, u200, u201, u202, u203, u204, u205, u206, u207, u208, u209, u210, u211, u212, u213, u214, u215, u216, u217, u218, u219, u220, u221, u222, u223, u224, u225, u226, u227, u228, u229, u230, u231, u232, u233, u234, u235, u236, u237, u238, u239, u240, u241, u242, u243, u244, u245, u246, u247, u248, u249, u250, u251, u252, u253, u254, u255, u256, u257, u258, u259, u260, u261, u262, u263, u264, u265, u266, u267, u268, u269, u270, u271, u272, u273, u274, u275, u276, u277, u278, u279, u280, u281, u282, u283, u284, u285, u286, u287, u288, u289, u290, u291, u292, u293, u294, u295, u296, u297, u298, u299, u300, u301, u302, u303, u304, u305, u306, u307, u308, u309, u310, u311, u312, u313, u314, u315, u316, u317, u318, u319, u320, u321, u322, u323, u324, u325, u326, u327, u328, u329, u330, u331, u332, u333, u334, u335, u336, u337, u338], []⟩ W := by
  conv => arg 2; whnf
  subst hkv
  have hK' := hK
  have HKI := Hid.mk hki
  clear hki
  go_upto_if 236 with (fail)
  refine wp_cond_true rfl ?_
  exact tdo_push H0 hs hn hn' hlm hv hN hK' HKI.out
set_option maxRecDepth 100000 in
set_option maxHeartbeats 4000000 in
theorem tdo_sw6 {n' : Nat} {N' : Nt} {K : Act → World → Prop} {lm B10 : Nat} {v1 v2 kv : Int} {u2 u6 u7 u8 u11 u12 u13 u14 u15 u16 u17 u18 u19 u20 u21 u22 u23 u24 u25 u26 u27 u28 u29 u30 u31 u32 u33 u34 u35 u36 u37 u38 u39 u40 u41 u42 u43 u44 u45 u46 u47 u48 u49 u50 u51 u52 u53 u54 u55 u56 u57 u58 u59 u60 u61 u62 u63 u64 u65 u66 u67 u68 u69 u70 u71 u72 u73 u74 u75 u76 u77 u78 u80 u81 u82 u83 u84 u85 u86 u87 u88 u89 u90 u91 u92 u93 u94 u95 u96 u97 u98 u99 u100 u101 u102 u103 u104 u105 u106 u107 u108 u109 u110 u111 u112 u113 u114 u115 u116 u117 u118 u119 u120 u121 u122 u123 u124 u125 u126 u127 u128 u129 u130 u131 u132 u133 u134 u135 u136 u137 u138 u139 u140 u141 u142 u143 u144 u145 u146 u147 u148 u149 u150 u151 u152 u153 u154 u155 u156 u157 u158 u159 u160 u161 u162 u163 u164 u165 u166 u167 u168 u169 u170 u171 u172 u173 u174 u175 u176 u177 u178 u179 u180 u181 u182 u183 u184 u185 u186 u187 u188 u189 u190 u191 u192 u193 u194 u195 u196 u197 u198 u199 u200 u201 u202 u203 u204 u205 u206 u207 u208 u209 u210 u211 u212 u213 u214 u215 u216 u217 u218 u219 u220 u221 u222 u223 u224 u225 u226 u227 u228 u229 u230 u231 u232 u233 u234 u235 u236 u237 u238 u239 u240 u241 u242 u243 u244 u245 u246 u247 u248 u249 u250 u251 u252 u253 u254 u255 u256 u257 u258 u259 u260 u261 u262 u263 u264 u265 u266 u267 u268 u269 u270 u271 u272 u273 u274 u275 u276 u277 u278 u279 u280 u281 u282 u283 u284 u285 u286 u287 u288 u289 u290 u291 u292 u293 u294 u295 u296 u297 u298 u299 u300 u301 u302 u303 u304 u305 u306 u307 u308 u309 u310 u311 u312 u313 u314 u315 u316 u317 u318 u319 u320 u321 u322 u323 u324 u325 u326 u327 u328 u329 u330 u331 u332 u333 u334 u335 u336 u337 u338 : Value} (H0 : Hid (Sep w (twL t b (.slice (some ⟨g, 0, none⟩) (l.length + 1 : Nat) c) pv (x :: l) Q many ++ chP b p k sz ca C (bx B10 (.cells #[.int .i64 v1, .int .i64 v2] 34) :: bx B0 (.cells #[.int .i64 o.kind, .int .i64 o.n, sv, .int .i64 o.l.args, .int .i64 o.l.res, .int .i64 o.l.height, av, .int .i64 o.v.1, .int .i64 o.v.2, .bool last] 36) :: F)) W)) (hs : Sim sz ca n ⟨C, (x :: l).map (·.m), Q, many⟩ Z) (hn : n ≤ 280) (hn' : n ≤ n') (hlm : l.length = lm) (hv : o.val = (v1, v2)) (hN : stepN (Tw.N ⟨C, (x :: l).map (·.m), Q, many⟩) o = N') (hK : Hid (∀ (tm : Array Value) (W' : World), tm.size = 339 → TwR w W' t b p k sz ca n' N' F → K ⟨tm, []⟩ W')) (hsl : ∀ W', Sep w F W' → Rdi W' sv o.l.slots) (hcap : SlOk sv) (hlen : o.l.slots.length ≤ 100) (hkv : kv = 6) (hki : o.kind = kv) :
    Code.wp Tryz.prog (pieceOf (Tryz.f8.body.getD .skip) [1, 1, 1, 1, 1, 1, 0, 1]) (Exit.then K (bodyPost Tryz.prog Tryz.f8 (fun e w' => TwR w w' t b p k sz ca n' N' F ∧ e = .returned (.bool true)))) ⟨#[.pointer (some ⟨t, 0, none⟩), (.agg #[.int .i64 o.kind, .int .i64 o.n, sv, .int .i64 o.l.args, .int .i64 o.l.res, .int .i64 o.l.height, av, .int .i64 o.v.1, .int .i64 o.v.2, .bool last]), u2, .pointer (some ⟨B0, 0, none⟩), .bool false, .int .i64 ((lm : Int) + 1), u6, u7, u8, .pointer (some ⟨g, lm * 7, none⟩), .pointer (some ⟨B10, 0, none⟩), u11, u12, u13, u14, u15, u16, u17, u18, u19, u20, u21, u22, u23, u24, u25, u26, u27, u28, u29, u30, u31, u32, u33, u34, u35, u36, u37, u38, u39, u40, u41, u42, u43, u44, u45, u46, u47, u48, u49, u50, u51, u52, u53, u54, u55, u56, u57, u58, u59, u60, u61, u62, u63, u64, u65, u66, u67, u68, u69, u70, u71, u72, u73, u74, u75, u76, u77, u78, .int .i64 kv, u80, u81, u82, u83, u84, u85, u86, u87, u88, u89, u90, u91, u92, u93, u94, u95, u96, u97, u98, u99, u100, u101, u102, u103, u104, u105, u106, u107, u108, u109, u110, u111, u112, u113, u114, u115, u116, u117, u118, u119, u120, u121, u122, u123, u124, u125, u126, u127, u128, u129, u130, u131, u132, u133, u134, u135, u136, u137, u138, u139, u140, u141, u142, u143, u144, u145, u146, u147, u148, u149, u150, u151, u152, u153, u154, u155, u156, u157, u158, u159, u160, u161, u162, u163, u164, u165, u166, u167, u168, u169, u170, u171, u172, u173, u174, u175, u176, u177, u178, u179, u180, u181, u182, u183, u184, u185, u186, u187, u188, u189, u190, u191, u192, u193, u194, u195, u196, u197, u198, u199, u200, u201, u202, u203, u204, u205, u206, u207, u208, u209, u210, u211, u212, u213, u214, u215, u216, u217, u218, u219, u220, u221, u222, u223, u224, u225, u226, u227, u228, u229, u230, u231, u232, u233, u234, u235, u236, u237, u238, u239, u240, u241, u242, u243, u244, u245, u246, u247, u248, u249, u250, u251, u252, u253, u254, u255, u256, u257, u258, u259, u260, u261, u262, u263, u264, u265, u266, u267, u268, u269, u270, u271, u272, u273, u274, u275, u276, u277, u278, u279, u280, u281, u282, u283, u284, u285, u286, u287, u288, u289, u290, u291, u292, u293, u294, u295, u296, u297, u298, u299, u300, u301, u302, u303, u304, u305, u306, u307, u308, u309, u310, u311, u312, u313, u314, u315, u316, u317, u318, u319, u320, u321, u322, u323, u324, u325, u326, u327, u328, u329, u330, u331, u332, u333, u334, u335, u336, u337, u338], []⟩ W := by
  conv => arg 2; whnf
  subst hkv
  have hK' := hK
  have HKI := Hid.mk hki
  clear hki
  go_upto_if 255 with (fail)
  refine wp_cond_true rfl ?_
  exact tdo_pop H0 hs hn hn' hlm hv hN hK' HKI.out
set_option maxRecDepth 100000 in
set_option maxHeartbeats 4000000 in
theorem tdo_sw8 {n' : Nat} {N' : Nt} {K : Act → World → Prop} {lm B10 : Nat} {v1 v2 kv : Int} {u2 u6 u7 u8 u11 u12 u13 u14 u15 u16 u17 u18 u19 u20 u21 u22 u23 u24 u25 u26 u27 u28 u29 u30 u31 u32 u33 u34 u35 u36 u37 u38 u39 u40 u41 u42 u43 u44 u45 u46 u47 u48 u49 u50 u51 u52 u53 u54 u55 u56 u57 u58 u59 u60 u61 u62 u63 u64 u65 u66 u67 u68 u69 u70 u71 u72 u73 u74 u75 u76 u77 u78 u80 u81 u82 u83 u84 u85 u86 u87 u88 u89 u90 u91 u92 u93 u94 u95 u96 u97 u98 u99 u100 u101 u102 u103 u104 u105 u106 u107 u108 u109 u110 u111 u112 u113 u114 u115 u116 u117 u118 u119 u120 u121 u122 u123 u124 u125 u126 u127 u128 u129 u130 u131 u132 u133 u134 u135 u136 u137 u138 u139 u140 u141 u142 u143 u144 u145 u146 u147 u148 u149 u150 u151 u152 u153 u154 u155 u156 u157 u158 u159 u160 u161 u162 u163 u164 u165 u166 u167 u168 u169 u170 u171 u172 u173 u174 u175 u176 u177 u178 u179 u180 u181 u182 u183 u184 u185 u186 u187 u188 u189 u190 u191 u192 u193 u194 u195 u196 u197 u198 u199 u200 u201 u202 u203 u204 u205 u206 u207 u208 u209 u210 u211 u212 u213 u214 u215 u216 u217 u218 u219 u220 u221 u222 u223 u224 u225 u226 u227 u228 u229 u230 u231 u232 u233 u234 u235 u236 u237 u238 u239 u240 u241 u242 u243 u244 u245 u246 u247 u248 u249 u250 u251 u252 u253 u254 u255 u256 u257 u258 u259 u260 u261 u262 u263 u264 u265 u266 u267 u268 u269 u270 u271 u272 u273 u274 u275 u276 u277 u278 u279 u280 u281 u282 u283 u284 u285 u286 u287 u288 u289 u290 u291 u292 u293 u294 u295 u296 u297 u298 u299 u300 u301 u302 u303 u304 u305 u306 u307 u308 u309 u310 u311 u312 u313 u314 u315 u316 u317 u318 u319 u320 u321 u322 u323 u324 u325 u326 u327 u328 u329 u330 u331 u332 u333 u334 u335 u336 u337 u338 : Value} (H0 : Hid (Sep w (twL t b (.slice (some ⟨g, 0, none⟩) (l.length + 1 : Nat) c) pv (x :: l) Q many ++ chP b p k sz ca C (bx B10 (.cells #[.int .i64 v1, .int .i64 v2] 34) :: bx B0 (.cells #[.int .i64 o.kind, .int .i64 o.n, sv, .int .i64 o.l.args, .int .i64 o.l.res, .int .i64 o.l.height, av, .int .i64 o.v.1, .int .i64 o.v.2, .bool last] 36) :: F)) W)) (hs : Sim sz ca n ⟨C, (x :: l).map (·.m), Q, many⟩ Z) (hn : n ≤ 280) (hn' : n + 1 ≤ n') (hlm : l.length = lm) (hv : o.val = (v1, v2)) (hN : stepN (Tw.N ⟨C, (x :: l).map (·.m), Q, many⟩) o = N') (hK : Hid (∀ (tm : Array Value) (W' : World), tm.size = 339 → TwR w W' t b p k sz ca n' N' F → K ⟨tm, []⟩ W')) (hsl : ∀ W', Sep w F W' → Rdi W' sv o.l.slots) (hcap : SlOk sv) (hlen : o.l.slots.length ≤ 100) (hkv : kv = 8) (hki : o.kind = kv) :
    Code.wp Tryz.prog (pieceOf (Tryz.f8.body.getD .skip) [1, 1, 1, 1, 1, 1, 0, 1]) (Exit.then K (bodyPost Tryz.prog Tryz.f8 (fun e w' => TwR w w' t b p k sz ca n' N' F ∧ e = .returned (.bool true)))) ⟨#[.pointer (some ⟨t, 0, none⟩), (.agg #[.int .i64 o.kind, .int .i64 o.n, sv, .int .i64 o.l.args, .int .i64 o.l.res, .int .i64 o.l.height, av, .int .i64 o.v.1, .int .i64 o.v.2, .bool last]), u2, .pointer (some ⟨B0, 0, none⟩), .bool false, .int .i64 ((lm : Int) + 1), u6, u7, u8, .pointer (some ⟨g, lm * 7, none⟩), .pointer (some ⟨B10, 0, none⟩), u11, u12, u13, u14, u15, u16, u17, u18, u19, u20, u21, u22, u23, u24, u25, u26, u27, u28, u29, u30, u31, u32, u33, u34, u35, u36, u37, u38, u39, u40, u41, u42, u43, u44, u45, u46, u47, u48, u49, u50, u51, u52, u53, u54, u55, u56, u57, u58, u59, u60, u61, u62, u63, u64, u65, u66, u67, u68, u69, u70, u71, u72, u73, u74, u75, u76, u77, u78, .int .i64 kv, u80, u81, u82, u83, u84, u85, u86, u87, u88, u89, u90, u91, u92, u93, u94, u95, u96, u97, u98, u99, u100, u101, u102, u103, u104, u105, u106, u107, u108, u109, u110, u111, u112, u113, u114, u115, u116, u117, u118, u119, u120, u121, u122, u123, u124, u125, u126, u127, u128, u129, u130, u131, u132, u133, u134, u135, u136, u137, u138, u139, u140, u141, u142, u143, u144, u145, u146, u147, u148, u149, u150, u151, u152, u153, u154, u155, u156, u157, u158, u159, u160, u161, u162, u163, u164, u165, u166, u167, u168, u169, u170, u171, u172, u173, u174, u175, u176, u177, u178, u179, u180, u181, u182, u183, u184, u185, u186, u187, u188, u189, u190, u191, u192, u193, u194, u195, u196, u197, u198, u199, u200, u201, u202, u203, u204, u205, u206, u207, u208, u209, u210, u211, u212, u213, u214, u215, u216, u217, u218, u219, u220, u221, u222, u223, u224, u225, u226, u227, u228, u229, u230, u231, u232, u233, u234, u235, u236, u237, u238, u239, u240, u241, u242, u243, u244, u245, u246, u247, u248, u249, u250, u251, u252, u253, u254, u255, u256, u257, u258, u259, u260, u261, u262, u263, u264, u265, u266, u267, u268, u269, u270, u271, u272, u273, u274, u275, u276, u277, u278, u279, u280, u281, u282, u283, u284, u285, u286, u287, u288, u289, u290, u291, u292, u293, u294, u295, u296, u297, u298, u299, u300, u301, u302, u303, u304, u305, u306, u307, u308, u309, u310, u311, u312, u313, u314, u315, u316, u317, u318, u319, u320, u321, u322, u323, u324, u325, u326, u327, u328, u329, u330, u331, u332, u333, u334, u335, u336, u337, u338], []⟩ W := by
  conv => arg 2; whnf
  subst hkv
  have hK' := hK
  have HKI := Hid.mk hki
  clear hki
  go_upto_if 307 with (fail)
  refine wp_cond_true rfl ?_
  exact tdo_store H0 hs hn hn' hlm hv hN hK' HKI.out
set_option maxRecDepth 100000 in
set_option maxHeartbeats 4000000 in
theorem tdo_sw9 {n' : Nat} {N' : Nt} {K : Act → World → Prop} {lm B10 : Nat} {v1 v2 kv : Int} {u2 u6 u7 u8 u11 u12 u13 u14 u15 u16 u17 u18 u19 u20 u21 u22 u23 u24 u25 u26 u27 u28 u29 u30 u31 u32 u33 u34 u35 u36 u37 u38 u39 u40 u41 u42 u43 u44 u45 u46 u47 u48 u49 u50 u51 u52 u53 u54 u55 u56 u57 u58 u59 u60 u61 u62 u63 u64 u65 u66 u67 u68 u69 u70 u71 u72 u73 u74 u75 u76 u77 u78 u80 u81 u82 u83 u84 u85 u86 u87 u88 u89 u90 u91 u92 u93 u94 u95 u96 u97 u98 u99 u100 u101 u102 u103 u104 u105 u106 u107 u108 u109 u110 u111 u112 u113 u114 u115 u116 u117 u118 u119 u120 u121 u122 u123 u124 u125 u126 u127 u128 u129 u130 u131 u132 u133 u134 u135 u136 u137 u138 u139 u140 u141 u142 u143 u144 u145 u146 u147 u148 u149 u150 u151 u152 u153 u154 u155 u156 u157 u158 u159 u160 u161 u162 u163 u164 u165 u166 u167 u168 u169 u170 u171 u172 u173 u174 u175 u176 u177 u178 u179 u180 u181 u182 u183 u184 u185 u186 u187 u188 u189 u190 u191 u192 u193 u194 u195 u196 u197 u198 u199 u200 u201 u202 u203 u204 u205 u206 u207 u208 u209 u210 u211 u212 u213 u214 u215 u216 u217 u218 u219 u220 u221 u222 u223 u224 u225 u226 u227 u228 u229 u230 u231 u232 u233 u234 u235 u236 u237 u238 u239 u240 u241 u242 u243 u244 u245 u246 u247 u248 u249 u250 u251 u252 u253 u254 u255 u256 u257 u258 u259 u260 u261 u262 u263 u264 u265 u266 u267 u268 u269 u270 u271 u272 u273 u274 u275 u276 u277 u278 u279 u280 u281 u282 u283 u284 u285 u286 u287 u288 u289 u290 u291 u292 u293 u294 u295 u296 u297 u298 u299 u300 u301 u302 u303 u304 u305 u306 u307 u308 u309 u310 u311 u312 u313 u314 u315 u316 u317 u318 u319 u320 u321 u322 u323 u324 u325 u326 u327 u328 u329 u330 u331 u332 u333 u334 u335 u336 u337 u338 : Value} (H0 : Hid (Sep w (twL t b (.slice (some ⟨g, 0, none⟩) (l.length + 1 : Nat) c) pv (x :: l) Q many ++ chP b p k sz ca C (bx B10 (.cells #[.int .i64 v1, .int .i64 v2] 34) :: bx B0 (.cells #[.int .i64 o.kind, .int .i64 o.n, sv, .int .i64 o.l.args, .int .i64 o.l.res, .int .i64 o.l.height, av, .int .i64 o.v.1, .int .i64 o.v.2, .bool last] 36) :: F)) W)) (hs : Sim sz ca n ⟨C, (x :: l).map (·.m), Q, many⟩ Z) (hn : n ≤ 280) (hn' : n + 1 ≤ n') (hlm : l.length = lm) (hv : o.val = (v1, v2)) (hN : stepN (Tw.N ⟨C, (x :: l).map (·.m), Q, many⟩) o = N') (hK : Hid (∀ (tm : Array Value) (W' : World), tm.size = 339 → TwR w W' t b p k sz ca n' N' F → K ⟨tm, []⟩ W')) (hsl : ∀ W', Sep w F W' → Rdi W' sv o.l.slots) (hcap : SlOk sv) (hlen : o.l.slots.length ≤ 100) (hkv : kv = 9) (hki : o.kind = kv) :
    Code.wp Tryz.prog (pieceOf (Tryz.f8.body.getD .skip) [1, 1, 1, 1, 1, 1, 0, 1]) (Exit.then K (bodyPost Tryz.prog Tryz.f8 (fun e w' => TwR w w' t b p k sz ca n' N' F ∧ e = .returned (.bool true)))) ⟨#[.pointer (some ⟨t, 0, none⟩), (.agg #[.int .i64 o.kind, .int .i64 o.n, sv, .int .i64 o.l.args, .int .i64 o.l.res, .int .i64 o.l.height, av, .int .i64 o.v.1, .int .i64 o.v.2, .bool last]), u2, .pointer (some ⟨B0, 0, none⟩), .bool false, .int .i64 ((lm : Int) + 1), u6, u7, u8, .pointer (some ⟨g, lm * 7, none⟩), .pointer (some ⟨B10, 0, none⟩), u11, u12, u13, u14, u15, u16, u17, u18, u19, u20, u21, u22, u23, u24, u25, u26, u27, u28, u29, u30, u31, u32, u33, u34, u35, u36, u37, u38, u39, u40, u41, u42, u43, u44, u45, u46, u47, u48, u49, u50, u51, u52, u53, u54, u55, u56, u57, u58, u59, u60, u61, u62, u63, u64, u65, u66, u67, u68, u69, u70, u71, u72, u73, u74, u75, u76, u77, u78, .int .i64 kv, u80, u81, u82, u83, u84, u85, u86, u87, u88, u89, u90, u91, u92, u93, u94, u95, u96, u97, u98, u99, u100, u101, u102, u103, u104, u105, u106, u107, u108, u109, u110, u111, u112, u113, u114, u115, u116, u117, u118, u119, u120, u121, u122, u123, u124, u125, u126, u127, u128, u129, u130, u131, u132, u133, u134, u135, u136, u137, u138, u139, u140, u141, u142, u143, u144, u145, u146, u147, u148, u149, u150, u151, u152, u153, u154, u155, u156, u157, u158, u159, u160, u161, u162, u163, u164, u165, u166, u167, u168, u169, u170, u171, u172, u173, u174, u175, u176, u177, u178, u179, u180, u181, u182, u183, u184, u185, u186, u187, u188, u189, u190, u191, u192, u193, u194, u195, u196, u197, u198, u199, u200, u201, u202, u203, u204, u205, u206, u207, u208, u209, u210, u211, u212, u213, u214, u215, u216, u217, u218, u219, u220, u221, u222, u223, u224, u225, u226, u227, u228, u229, u230, u231, u232, u233, u234, u235, u236, u237, u238, u239, u240, u241, u242, u243, u244, u245, u246, u247, u248, u249, u250, u251, u252, u253, u254, u255, u256, u257, u258, u259, u260, u261, u262, u263, u264, u265, u266, u267, u268, u269, u270, u271, u272, u273, u274, u275, u276, u277, u278, u279, u280, u281, u282, u283, u284, u285, u286, u287, u288, u289, u290, u291, u292, u293, u294, u295, u296, u297, u298, u299, u300, u301, u302, u303, u304, u305, u306, u307, u308, u309, u310, u311, u312, u313, u314, u315, u316, u317, u318, u319, u320, u321, u322, u323, u324, u325, u326, u327, u328, u329, u330, u331, u332, u333, u334, u335, u336, u337, u338], []⟩ W := by
  conv => arg 2; whnf
  subst hkv
  have hK' := hK
  have H1 := tw_lose (tw_lose H0.out)
  obtain ⟨-, d1, -⟩ := ten_cells H0.out (q := B0) (tw_mem (List.Mem.tail _ (List.Mem.head _)))
  have HP := Hid.mk (tpoint_any H1 hs (by omega) o.n)
  have HNN : Hid (N' = pointN (Tw.N ⟨C, (x :: l).map (·.m), Q, many⟩) o.n) := by
    rw [← hN]
    unfold Hid stepN pointN Tw.N
    simp only [List.map_cons]
    rw [if_neg (by omega), if_neg (by omega), if_neg (by omega), if_neg (by omega), if_neg (by omega), if_neg (by omega), if_neg (by omega), if_pos hki]
  clear hs hlm hv hN hki hsl hcap H1
  go_wp2_with fail
  refine HP.out.mono ?_
  rintro e w6 ⟨h6, rfl⟩
  have H6 := Hid.mk (h6.mono hn')
  clear h6 HP d1
  go_wp2_with fail
  go_ret
  rw [HNN.out]
  exact ⟨H6.out, rfl⟩
set_option maxRecDepth 100000 in
set_option maxHeartbeats 4000000 in
theorem tdo_sw11 {n' : Nat} {N' : Nt} {K : Act → World → Prop} {lm B10 : Nat} {v1 v2 kv : Int} {u2 u6 u7 u8 u11 u12 u13 u14 u15 u16 u17 u18 u19 u20 u21 u22 u23 u24 u25 u26 u27 u28 u29 u30 u31 u32 u33 u34 u35 u36 u37 u38 u39 u40 u41 u42 u43 u44 u45 u46 u47 u48 u49 u50 u51 u52 u53 u54 u55 u56 u57 u58 u59 u60 u61 u62 u63 u64 u65 u66 u67 u68 u69 u70 u71 u72 u73 u74 u75 u76 u77 u78 u80 u81 u82 u83 u84 u85 u86 u87 u88 u89 u90 u91 u92 u93 u94 u95 u96 u97 u98 u99 u100 u101 u102 u103 u104 u105 u106 u107 u108 u109 u110 u111 u112 u113 u114 u115 u116 u117 u118 u119 u120 u121 u122 u123 u124 u125 u126 u127 u128 u129 u130 u131 u132 u133 u134 u135 u136 u137 u138 u139 u140 u141 u142 u143 u144 u145 u146 u147 u148 u149 u150 u151 u152 u153 u154 u155 u156 u157 u158 u159 u160 u161 u162 u163 u164 u165 u166 u167 u168 u169 u170 u171 u172 u173 u174 u175 u176 u177 u178 u179 u180 u181 u182 u183 u184 u185 u186 u187 u188 u189 u190 u191 u192 u193 u194 u195 u196 u197 u198 u199 u200 u201 u202 u203 u204 u205 u206 u207 u208 u209 u210 u211 u212 u213 u214 u215 u216 u217 u218 u219 u220 u221 u222 u223 u224 u225 u226 u227 u228 u229 u230 u231 u232 u233 u234 u235 u236 u237 u238 u239 u240 u241 u242 u243 u244 u245 u246 u247 u248 u249 u250 u251 u252 u253 u254 u255 u256 u257 u258 u259 u260 u261 u262 u263 u264 u265 u266 u267 u268 u269 u270 u271 u272 u273 u274 u275 u276 u277 u278 u279 u280 u281 u282 u283 u284 u285 u286 u287 u288 u289 u290 u291 u292 u293 u294 u295 u296 u297 u298 u299 u300 u301 u302 u303 u304 u305 u306 u307 u308 u309 u310 u311 u312 u313 u314 u315 u316 u317 u318 u319 u320 u321 u322 u323 u324 u325 u326 u327 u328 u329 u330 u331 u332 u333 u334 u335 u336 u337 u338 : Value} (H0 : Hid (Sep w (twL t b (.slice (some ⟨g, 0, none⟩) (l.length + 1 : Nat) c) pv (x :: l) Q many ++ chP b p k sz ca C (bx B10 (.cells #[.int .i64 v1, .int .i64 v2] 34) :: bx B0 (.cells #[.int .i64 o.kind, .int .i64 o.n, sv, .int .i64 o.l.args, .int .i64 o.l.res, .int .i64 o.l.height, av, .int .i64 o.v.1, .int .i64 o.v.2, .bool last] 36) :: F)) W)) (hs : Sim sz ca n ⟨C, (x :: l).map (·.m), Q, many⟩ Z) (hn : n ≤ 280) (hn' : n + 1 ≤ n') (hlm : l.length = lm) (hv : o.val = (v1, v2)) (hN : stepN (Tw.N ⟨C, (x :: l).map (·.m), Q, many⟩) o = N') (hK : Hid (∀ (tm : Array Value) (W' : World), tm.size = 339 → TwR w W' t b p k sz ca n' N' F → K ⟨tm, []⟩ W')) (hsl : ∀ W', Sep w F W' → Rdi W' sv o.l.slots) (hcap : SlOk sv) (hlen : o.l.slots.length ≤ 100) (hkv : kv = 11) (hki : o.kind = kv) :
    Code.wp Tryz.prog (pieceOf (Tryz.f8.body.getD .skip) [1, 1, 1, 1, 1, 1, 0, 1]) (Exit.then K (bodyPost Tryz.prog Tryz.f8 (fun e w' => TwR w w' t b p k sz ca n' N' F ∧ e = .returned (.bool true)))) ⟨#[.pointer (some ⟨t, 0, none⟩), (.agg #[.int .i64 o.kind, .int .i64 o.n, sv, .int .i64 o.l.args, .int .i64 o.l.res, .int .i64 o.l.height, av, .int .i64 o.v.1, .int .i64 o.v.2, .bool last]), u2, .pointer (some ⟨B0, 0, none⟩), .bool false, .int .i64 ((lm : Int) + 1), u6, u7, u8, .pointer (some ⟨g, lm * 7, none⟩), .pointer (some ⟨B10, 0, none⟩), u11, u12, u13, u14, u15, u16, u17, u18, u19, u20, u21, u22, u23, u24, u25, u26, u27, u28, u29, u30, u31, u32, u33, u34, u35, u36, u37, u38, u39, u40, u41, u42, u43, u44, u45, u46, u47, u48, u49, u50, u51, u52, u53, u54, u55, u56, u57, u58, u59, u60, u61, u62, u63, u64, u65, u66, u67, u68, u69, u70, u71, u72, u73, u74, u75, u76, u77, u78, .int .i64 kv, u80, u81, u82, u83, u84, u85, u86, u87, u88, u89, u90, u91, u92, u93, u94, u95, u96, u97, u98, u99, u100, u101, u102, u103, u104, u105, u106, u107, u108, u109, u110, u111, u112, u113, u114, u115, u116, u117, u118, u119, u120, u121, u122, u123, u124, u125, u126, u127, u128, u129, u130, u131, u132, u133, u134, u135, u136, u137, u138, u139, u140, u141, u142, u143, u144, u145, u146, u147, u148, u149, u150, u151, u152, u153, u154, u155, u156, u157, u158, u159, u160, u161, u162, u163, u164, u165, u166, u167, u168, u169, u170, u171, u172, u173, u174, u175, u176, u177, u178, u179, u180, u181, u182, u183, u184, u185, u186, u187, u188, u189, u190, u191, u192, u193, u194, u195, u196, u197, u198, u199, u200, u201, u202, u203, u204, u205, u206, u207, u208, u209, u210, u211, u212, u213, u214, u215, u216, u217, u218, u219, u220, u221, u222, u223, u224, u225, u226, u227, u228, u229, u230, u231, u232, u233, u234, u235, u236, u237, u238, u239, u240, u241, u242, u243, u244, u245, u246, u247, u248, u249, u250, u251, u252, u253, u254, u255, u256, u257, u258, u259, u260, u261, u262, u263, u264, u265, u266, u267, u268, u269, u270, u271, u272, u273, u274, u275, u276, u277, u278, u279, u280, u281, u282, u283, u284, u285, u286, u287, u288, u289, u290, u291, u292, u293, u294, u295, u296, u297, u298, u299, u300, u301, u302, u303, u304, u305, u306, u307, u308, u309, u310, u311, u312, u313, u314, u315, u316, u317, u318, u319, u320, u321, u322, u323, u324, u325, u326, u327, u328, u329, u330, u331, u332, u333, u334, u335, u336, u337, u338], []⟩ W := by
  conv => arg 2; whnf
  subst hkv
  have hK' := hK
  have H1 := tw_lose (tw_lose H0.out)
  obtain ⟨-, -, -, -, -, -, -, d8⟩ := ten_cells H0.out (q := B0) (tw_mem (List.Mem.tail _ (List.Mem.head _)))
  have HP := Hid.mk (tput_any H1 hs (by omega) o.v.2)
  have HNN : Hid (N' = putN (Tw.N ⟨C, (x :: l).map (·.m), Q, many⟩) o.v.2) := by
    rw [← hN]
    unfold Hid stepN Tw.N
    simp only [List.map_cons]
    rw [if_neg (by omega), if_neg (by omega), if_neg (by omega), if_neg (by omega), if_neg (by omega), if_neg (by omega), if_neg (by omega), if_neg (by omega), if_pos hki]
  clear hs hlm hv hN hki hsl hcap H1
  go_wp2_with fail
  refine HP.out.mono ?_
  rintro e w6 ⟨h6, rfl⟩
  have H6 := Hid.mk (h6.mono (by omega : n ≤ n'))
  clear h6 HP d8
  go_wp2_with fail
  go_ret
  rw [HNN.out]
  exact ⟨H6.out, rfl⟩
end
end Go.Proofs.YtpfnnmcokbolhaaGreat
/- The twin's do: the switch at Run. -/
namespace Go.Proofs.YtpfnnmcokbolhaaGreat
open Go.RowKit
set_option pp.deepTerms true
section
variable {w W : World} {F G : List Asr} {t b p k g c : Nat} {sz ca many : Int} {C : Ch} {lv pv : Value} {ml l : List Mv} {x : Mv} {Q : List (Int × Pf)} {A : Asr} {T : Tw} {Z : List (Md × Af)} {n : Nat} {o : Op25} {sv av : Value} {last : Bool} {B0 : Nat}
set_option maxRecDepth 100000 in
set_option maxHeartbeats 4000000 in
theorem tdo_sw1 {n' : Nat} {N' : Nt} {K : Act → World → Prop} {lm B10 : Nat} {v1 v2 kv : Int} {u2 u6 u7 u8 u11 u12 u13 u14 u15 u16 u17 u18 u19 u20 u21 u22 u23 u24 u25 u26 u27 u28 u29 u30 u31 u32 u33 u34 u35 u36 u37 u38 u39 u40 u41 u42 u43 u44 u45 u46 u47 u48 u49 u50 u51 u52 u53 u54 u55 u56 u57 u58 u59 u60 u61 u62 u63 u64 u65 u66 u67 u68 u69 u70 u71 u72 u73 u74 u75 u76 u77 u78 u80 u81 u82 u83 u84 u85 u86 u87 u88 u89 u90 u91 u92 u93 u94 u95 u96 u97 u98 u99 u100 u101 u102 u103 u104 u105 u106 u107 u108 u109 u110 u111 u112 u113 u114 u115 u116 u117 u118 u119 u120 u121 u122 u123 u124 u125 u126 u127 u128 u129 u130 u131 u132 u133 u134 u135 u136 u137 u138 u139 u140 u141 u142 u143 u144 u145 u146 u147 u148 u149 u150 u151 u152 u153 u154 u155 u156 u157 u158 u159 u160 u161 u162 u163 u164 u165 u166 u167 u168 u169 u170 u171 u172 u173 u174 u175 u176 u177 u178 u179 u180 u181 u182 u183 u184 u185 u186 u187 u188 u189 u190 u191 u192 u193 u194 u195 u196 u197 u198 u199 u200 u201 u202 u203 u204 u205 u206 u207 u208 u209 u210 u211 u212 u213 u214 u215 u216 u217 u218 u219 u220 u221 u222 u223 u224 u225 u226 u227 u228 u229 u230 u231 u232 u233 u234 u235 u236 u237 u238 u239 u240 u241 u242 u243 u244 u245 u246 u247 u248 u249 u250 u251 u252 u253 u254 u255 u256 u257 u258 u259 u260 u261 u262 u263 u264 u265 u266 u267 u268 u269 u270 u271 u272 u273 u274 u275 u276 u277 u278 u279 u280 u281 u282 u283 u284 u285 u286 u287 u288 u289 u290 u291 u292 u293 u294 u295 u296 u297 u298 u299 u300 u301 u302 u303 u304 u305 u306 u307 u308 u309 u310 u311 u312 u313 u314 u315 u316 u317 u318 u319 u320 u321 u322 u323 u324 u325 u326 u327 u328 u329 u330 u331 u332 u333 u334 u335 u336 u337 u338 : Value} (H0 : Hid (Sep w (twL t b (.slice (some ⟨g, 0, none⟩) (l.length + 1 : Nat) c) pv (x :: l) Q many ++ chP b p k sz ca C (bx B10 (.cells #[.int .i64 v1, .int .i64 v2] 34) :: bx B0 (.cells #[.int .i64 o.kind, .int .i64 o.n, sv, .int .i64 o.l.args, .int .i64 o.l.res, .int .i64 o.l.height, av, .int .i64 o.v.1, .int .i64 o.v.2, .bool last] 36) :: F)) W)) (hs : Sim sz ca n ⟨C, (x :: l).map (·.m), Q, many⟩ Z) (hn : n ≤ 280) (hn' : n + 1 ≤ n') (hlm : l.length = lm) (hv : o.val = (v1, v2)) (hN : stepN (Tw.N ⟨C, (x :: l).map (·.m), Q, many⟩) o = N') (hK : Hid (∀ (tm : Array Value) (W' : World), tm.size = 339 → TwR w W' t b p k sz ca n' N' F → K ⟨tm, []⟩ W')) (hsl : ∀ W', Sep w F W' → Rdi W' sv o.l.slots) (hcap : SlOk sv) (hlen : o.l.slots.length ≤ 100) (hkv : kv = 1) (hki : o.kind = kv) :
    Code.wp Tryz.prog (pieceOf (Tryz.f8.body.getD .skip) [1, 1, 1, 1, 1, 1, 0, 1]) (Exit.then K (bodyPost Tryz.prog Tryz.f8 (fun e w' => TwR w w' t b p k sz ca n' N' F ∧ e = .returned (.bool true)))) ⟨#[.pointer (some ⟨t, 0, none⟩), (.agg #[.int .i64 o.kind, .int .i64 o.n, sv, .int .i64 o.l.args, .int .i64 o.l.res, .int .i64 o.l.height, av, .int .i64 o.v.1, .int .i64 o.v.2, .bool last]), u2, .pointer (some ⟨B0, 0, none⟩), .bool false, .int .i64 ((lm : Int) + 1), u6, u7, u8, .pointer (some ⟨g, lm * 7, none⟩), .pointer (some ⟨B10, 0, none⟩), u11, u12, u13, u14, u15, u16, u17, u18, u19, u20, u21, u22, u23, u24, u25, u26, u27, u28, u29, u30, u31, u32, u33, u34, u35, u36, u37, u38, u39, u40, u41, u42, u43, u44, u45, u46, u47, u48, u49, u50, u51, u52, u53, u54, u55, u56, u57, u58, u59, u60, u61, u62, u63, u64, u65, u66, u67, u68, u69, u70, u71, u72, u73, u74, u75, u76, u77, u78, .int .i64 kv, u80, u81, u82, u83, u84, u85, u86, u87, u88, u89, u90, u91, u92, u93, u94, u95, u96, u97, u98, u99, u100, u101, u102, u103, u104, u105, u106, u107, u108, u109, u110, u111, u112, u113, u114, u115, u116, u117, u118, u119, u120, u121, u122, u123, u124, u125, u126, u127, u128, u129, u130, u131, u132, u133, u134, u135, u136, u137, u138, u139, u140, u141, u142, u143, u144, u145, u146, u147, u148, u149, u150, u151, u152, u153, u154, u155, u156, u157, u158, u159, u160, u161, u162, u163, u164, u165, u166, u167, u168, u169, u170, u171, u172, u173, u174, u175, u176, u177, u178, u179, u180, u181, u182, u183, u184, u185, u186, u187, u188, u189, u190, u191, u192, u193, u194, u195, u196, u197, u198, u199, u200, u201, u202, u203, u204, u205, u206, u207, u208, u209, u210, u211, u212, u213, u214, u215, u216, u217, u218, u219, u220, u221, u222, u223, u224, u225, u226, u227, u228, u229, u230, u231, u232, u233, u234, u235, u236, u237, u238, u239, u240, u241, u242, u243, u244, u245, u246, u247, u248, u249, u250, u251, u252, u253, u254, u255, u256, u257, u258, u259, u260, u261, u262, u263, u264, u265, u266, u267, u268, u269, u270, u271, u272, u273, u274, u275, u276, u277, u278, u279, u280, u281, u282, u283, u284, u285, u286, u287, u288, u289, u290, u291, u292, u293, u294, u295, u296, u297, u298, u299, u300, u301, u302, u303, u304, u305, u306, u307, u308, u309, u310, u311, u312, u313, u314, u315, u316, u317, u318, u319, u320, u321, u322, u323, u324, u325, u326, u327, u328, u329, u330, u331, u332, u333, u334, u335, u336, u337, u338], []⟩ W := by
  conv => arg 2; whnf
  subst hkv
  have hK' := hK
  have HKI := Hid.mk hki
  clear hki
  obtain ⟨-, -, d2, d3, -, -, -, -⟩ := ten_cells H0.out (q := B0) (tw_mem (List.Mem.tail _ (List.Mem.head _)))
  have H1 : Hid (Sep w (twL t b (.slice (some ⟨g, 0, none⟩) (l.length + 1 : Nat) c) pv (x :: l) Q many ++ chP b p k sz ca C (bx B0 (.cells #[.int .i64 o.kind, .int .i64 o.n, sv, .int .i64 o.l.args, .int .i64 o.l.res, .int .i64 o.l.height, av, .int .i64 o.v.1, .int .i64 o.v.2, .bool last] 36) :: F)) W) := Hid.mk (tw_lose H0.out)
  rcases (hsl _ (Sep.sub H1.out (by rw [twch_eq]; exact (List.sublist_cons_self _ _).trans (List.sublist_append_right _ _)))).ad with ⟨rfl, hnil⟩ | ⟨ad, c0, rfl, hcs⟩
  · have hn0 : o.l.slots.length = 0 := by rw [hnil]; rfl
    have hr : ∀ W', Sep w F W' → Rdi W' (.slice none 0 0) (o.l.slots.take 0) := fun W' q => .inl ⟨rfl, by simp⟩
    clear hnil
    by_cases q1 : o.l.args ≤ 0
    · go_upto_block 3 with (fail)
      refine tdo_run4 H1 hs hn hn' HKI.out hN hK' ?_ hsl hcap hlen (ka := 0) (by omega) hr
      exact Hid.mk (by intro a w' hh; apply_assumption; exact hh)
    · have q2 : 0 < o.l.args := by omega
      go_upto_block 3 with (fail)
      refine tdo_run4 H1 hs hn hn' HKI.out hN hK' ?_ hsl hcap hlen (ka := 0) (by omega) hr
      exact Hid.mk (by intro a w' hh; apply_assumption; exact hh)
  · have hcc := hcap _ _ _ rfl
    obtain ⟨n0, hn0⟩ : ∃ n0, o.l.slots.length = n0 := ⟨_, rfl⟩
    have hr : ∀ ka, ka ≤ o.l.slots.length → ∀ W', Sep w F W' → Rdi W' (.slice (some ad) ka c0) (o.l.slots.take ka) := fun ka hka W' q => Rdi.take (hsl W' q) hka
    have d2' := d2
    rw [hn0] at d2' hcc
    clear d2
    have HN0 := Hid.mk hn0
    have HR := Hid.mk hr
    have hn100 : n0 ≤ 100 := by omega
    clear hcs hr hn0
    by_cases q1 : o.l.args ≤ 0
    · have h0 : 0 ≤ c0 := by omega
      rcases Nat.eq_zero_or_pos n0 with q3 | q3
      · subst q3
        go_upto_block 3 with (fail)
        refine tdo_run4 H1 hs hn hn' HKI.out hN hK' ?_ hsl hcap hlen (ka := 0) (by have := HN0.out; omega) (HR.out 0 (Nat.zero_le _))
        exact Hid.mk (by intro a w' hh; apply_assumption; exact hh)
      · go_upto_block 3 with (fail)
        refine tdo_run4 H1 hs hn hn' HKI.out hN hK' ?_ hsl hcap hlen (ka := 0) (by have := HN0.out; omega) (HR.out 0 (Nat.zero_le _))
        exact Hid.mk (by intro a w' hh; apply_assumption; exact hh)
    · obtain ⟨na, hna⟩ := Int.eq_ofNat_of_zero_le (show 0 ≤ o.l.args by omega)
      have HNA := Hid.mk hna
      have d3' := d3
      rw [hna] at d3' q1
      clear d3 hna
      have q4 : 0 < na := by omega
      have q5 : 0 < (na : Int) := by omega
      by_cases q2 : na < n0
      · have q6 : (na : Int) < (n0 : Int) := by omega
        have q7 : na ≤ c0 := by omega
        go_upto_block 3 with (fail)
        refine tdo_run4 H1 hs hn hn' HKI.out hN hK' ?_ hsl hcap hlen (ka := na) (by have := HN0.out; rw [HNA.out, Int.toNat_natCast]; omega) (HR.out na (by have := HN0.out; omega))
        exact Hid.mk (by intro a w' hh; apply_assumption; exact hh)
      · have q6 : ¬ (na : Int) < (n0 : Int) := by omega
        go_upto_block 3 with (fail)
        refine tdo_run4 H1 hs hn hn' HKI.out hN hK' ?_ hsl hcap hlen (ka := n0) (by have := HN0.out; rw [HNA.out, Int.toNat_natCast]; omega) (HR.out n0 (by have := HN0.out; omega))
        exact Hid.mk (by intro a w' hh; apply_assumption; exact hh)
set_option maxRecDepth 100000 in
set_option maxHeartbeats 4000000 in
theorem tdo_swo {n' : Nat} {N' : Nt} {K : Act → World → Prop} {lm B10 : Nat} {v1 v2 kv : Int} {u2 u6 u7 u8 u11 u12 u13 u14 u15 u16 u17 u18 u19 u20 u21 u22 u23 u24 u25 u26 u27 u28 u29 u30 u31 u32 u33 u34 u35 u36 u37 u38 u39 u40 u41 u42 u43 u44 u45 u46 u47 u48 u49 u50 u51 u52 u53 u54 u55 u56 u57 u58 u59 u60 u61 u62 u63 u64 u65 u66 u67 u68 u69 u70 u71 u72 u73 u74 u75 u76 u77 u78 u80 u81 u82 u83 u84 u85 u86 u87 u88 u89 u90 u91 u92 u93 u94 u95 u96 u97 u98 u99 u100 u101 u102 u103 u104 u105 u106 u107 u108 u109 u110 u111 u112 u113 u114 u115 u116 u117 u118 u119 u120 u121 u122 u123 u124 u125 u126 u127 u128 u129 u130 u131 u132 u133 u134 u135 u136 u137 u138 u139 u140 u141 u142 u143 u144 u145 u146 u147 u148 u149 u150 u151 u152 u153 u154 u155 u156 u157 u158 u159 u160 u161 u162 u163 u164 u165 u166 u167 u168 u169 u170 u171 u172 u173 u174 u175 u176 u177 u178 u179 u180 u181 u182 u183 u184 u185 u186 u187 u188 u189 u190 u191 u192 u193 u194 u195 u196 u197 u198 u199 u200 u201 u202 u203 u204 u205 u206 u207 u208 u209 u210 u211 u212 u213 u214 u215 u216 u217 u218 u219 u220 u221 u222 u223 u224 u225 u226 u227 u228 u229 u230 u231 u232 u233 u234 u235 u236 u237 u238 u239 u240 u241 u242 u243 u244 u245 u246 u247 u248 u249 u250 u251 u252 u253 u254 u255 u256 u257 u258 u259 u260 u261 u262 u263 u264 u265 u266 u267 u268 u269 u270 u271 u272 u273 u274 u275 u276 u277 u278 u279 u280 u281 u282 u283 u284 u285 u286 u287 u288 u289 u290 u291 u292 u293 u294 u295 u296 u297 u298 u299 u300 u301 u302 u303 u304 u305 u306 u307 u308 u309 u310 u311 u312 u313 u314 u315 u316 u317 u318 u319 u320 u321 u322 u323 u324 u325 u326 u327 u328 u329 u330 u331 u332 u333 u334 u335 u336 u337 u338 : Value} (H0 : Hid (Sep w (twL t b (.slice (some ⟨g, 0, none⟩) (l.length + 1 : Nat) c) pv (x :: l) Q many ++ chP b p k sz ca C (bx B10 (.cells #[.int .i64 v1, .int .i64 v2] 34) :: bx B0 (.cells #[.int .i64 o.kind, .int .i64 o.n, sv, .int .i64 o.l.args, .int .i64 o.l.res, .int .i64 o.l.height, av, .int .i64 o.v.1, .int .i64 o.v.2, .bool last] 36) :: F)) W)) (hs : Sim sz ca n ⟨C, (x :: l).map (·.m), Q, many⟩ Z) (hn' : n ≤ n') (hN : stepN (Tw.N ⟨C, (x :: l).map (·.m), Q, many⟩) o = N') (hK : Hid (∀ (tm : Array Value) (W' : World), tm.size = 339 → TwR w W' t b p k sz ca n' N' F → K ⟨tm, []⟩ W')) (hki : o.kind = kv) (h0 : kv ≠ 0) (h1 : kv ≠ 1) (h2 : kv ≠ 2) (h3 : kv ≠ 3) (h5 : kv ≠ 5) (h6 : kv ≠ 6) (h8 : kv ≠ 8) (h9 : kv ≠ 9) (h11 : kv ≠ 11) :
    Code.wp Tryz.prog (pieceOf (Tryz.f8.body.getD .skip) [1, 1, 1, 1, 1, 1, 0, 1]) (Exit.then K (bodyPost Tryz.prog Tryz.f8 (fun e w' => TwR w w' t b p k sz ca n' N' F ∧ e = .returned (.bool true)))) ⟨#[.pointer (some ⟨t, 0, none⟩), (.agg #[.int .i64 o.kind, .int .i64 o.n, sv, .int .i64 o.l.args, .int .i64 o.l.res, .int .i64 o.l.height, av, .int .i64 o.v.1, .int .i64 o.v.2, .bool last]), u2, .pointer (some ⟨B0, 0, none⟩), .bool false, .int .i64 ((lm : Int) + 1), u6, u7, u8, .pointer (some ⟨g, lm * 7, none⟩), .pointer (some ⟨B10, 0, none⟩), u11, u12, u13, u14, u15, u16, u17, u18, u19, u20, u21, u22, u23, u24, u25, u26, u27, u28, u29, u30, u31, u32, u33, u34, u35, u36, u37, u38, u39, u40, u41, u42, u43, u44, u45, u46, u47, u48, u49, u50, u51, u52, u53, u54, u55, u56, u57, u58, u59, u60, u61, u62, u63, u64, u65, u66, u67, u68, u69, u70, u71, u72, u73, u74, u75, u76, u77, u78, .int .i64 kv, u80, u81, u82, u83, u84, u85, u86, u87, u88, u89, u90, u91, u92, u93, u94, u95, u96, u97, u98, u99, u100, u101, u102, u103, u104, u105, u106, u107, u108, u109, u110, u111, u112, u113, u114, u115, u116, u117, u118, u119, u120, u121, u122, u123, u124, u125, u126, u127, u128, u129, u130, u131, u132, u133, u134, u135, u136, u137, u138, u139, u140, u141, u142, u143, u144, u145, u146, u147, u148, u149, u150, u151, u152, u153, u154, u155, u156, u157, u158, u159, u160, u161, u162, u163, u164, u165, u166, u167, u168, u169, u170, u171, u172, u173, u174, u175, u176, u177, u178, u179, u180, u181, u182, u183, u184, u185, u186, u187, u188, u189, u190, u191, u192, u193, u194, u195, u196, u197, u198, u199, u200, u201, u202, u203, u204, u205, u206, u207, u208, u209, u210, u211, u212, u213, u214, u215, u216, u217, u218, u219, u220, u221, u222, u223, u224, u225, u226, u227, u228, u229, u230, u231, u232, u233, u234, u235, u236, u237, u238, u239, u240, u241, u242, u243, u244, u245, u246, u247, u248, u249, u250, u251, u252, u253, u254, u255, u256, u257, u258, u259, u260, u261, u262, u263, u264, u265, u266, u267, u268, u269, u270, u271, u272, u273, u274, u275, u276, u277, u278, u279, u280, u281, u282, u283, u284, u285, u286, u287, u288, u289, u290, u291, u292, u293, u294, u295, u296, u297, u298, u299, u300, u301, u302, u303, u304, u305, u306, u307, u308, u309, u310, u311, u312, u313, u314, u315, u316, u317, u318, u319, u320, u321, u322, u323, u324, u325, u326, u327, u328, u329, u330, u331, u332, u333, u334, u335, u336, u337, u338], []⟩ W := by
  conv => arg 2; whnf
  have HNN : Hid (N' = (Tw.N ⟨C, (x :: l).map (·.m), Q, many⟩)) := by
    rw [← hN]
    unfold Hid stepN Tw.N
    simp only [List.map_cons]
    rw [if_neg (by omega), if_neg (by omega), if_neg (by omega), if_neg (by omega), if_neg (by omega), if_neg (by omega), if_neg (by omega), if_neg (by omega), if_neg (by omega)]
  have HSIM := Hid.mk hs
  have z0 : (kv == 0) = false := by simpa using h0
  have z1 : (kv == 1) = false := by simpa using h1
  have z2 : (kv == 2) = false := by simpa using h2
  have z3 : (kv == 3) = false := by simpa using h3
  have z5 : (kv == 5) = false := by simpa using h5
  have z6 : (kv == 6) = false := by simpa using h6
  have z8 : (kv == 8) = false := by simpa using h8
  have z9 : (kv == 9) = false := by simpa using h9
  have z11 : (kv == 11) = false := by simpa using h11
  clear hs hN hki h0 h1 h2 h3 h5 h6 h8 h9 h11
  go_wp2_with fail
  exact hK.out _ _ rfl ⟨_, _, ⟨_, _, _, rfl, tw_lose (tw_lose H0.out)⟩, HSIM.out.mono hn', HNN.out.symm⟩
set_option maxRecDepth 100000 in
set_option maxHeartbeats 4000000 in
theorem tdo_switch {n' : Nat} {N' : Nt} {K : Act → World → Prop} {lm B10 : Nat} {v1 v2 kv : Int} {u2 u6 u7 u8 u11 u12 u13 u14 u15 u16 u17 u18 u19 u20 u21 u22 u23 u24 u25 u26 u27 u28 u29 u30 u31 u32 u33 u34 u35 u36 u37 u38 u39 u40 u41 u42 u43 u44 u45 u46 u47 u48 u49 u50 u51 u52 u53 u54 u55 u56 u57 u58 u59 u60 u61 u62 u63 u64 u65 u66 u67 u68 u69 u70 u71 u72 u73 u74 u75 u76 u77 u78 u80 u81 u82 u83 u84 u85 u86 u87 u88 u89 u90 u91 u92 u93 u94 u95 u96 u97 u98 u99 u100 u101 u102 u103 u104 u105 u106 u107 u108 u109 u110 u111 u112 u113 u114 u115 u116 u117 u118 u119 u120 u121 u122 u123 u124 u125 u126 u127 u128 u129 u130 u131 u132 u133 u134 u135 u136 u137 u138 u139 u140 u141 u142 u143 u144 u145 u146 u147 u148 u149 u150 u151 u152 u153 u154 u155 u156 u157 u158 u159 u160 u161 u162 u163 u164 u165 u166 u167 u168 u169 u170 u171 u172 u173 u174 u175 u176 u177 u178 u179 u180 u181 u182 u183 u184 u185 u186 u187 u188 u189 u190 u191 u192 u193 u194 u195 u196 u197 u198 u199 u200 u201 u202 u203 u204 u205 u206 u207 u208 u209 u210 u211 u212 u213 u214 u215 u216 u217 u218 u219 u220 u221 u222 u223 u224 u225 u226 u227 u228 u229 u230 u231 u232 u233 u234 u235 u236 u237 u238 u239 u240 u241 u242 u243 u244 u245 u246 u247 u248 u249 u250 u251 u252 u253 u254 u255 u256 u257 u258 u259 u260 u261 u262 u263 u264 u265 u266 u267 u268 u269 u270 u271 u272 u273 u274 u275 u276 u277 u278 u279 u280 u281 u282 u283 u284 u285 u286 u287 u288 u289 u290 u291 u292 u293 u294 u295 u296 u297 u298 u299 u300 u301 u302 u303 u304 u305 u306 u307 u308 u309 u310 u311 u312 u313 u314 u315 u316 u317 u318 u319 u320 u321 u322 u323 u324 u325 u326 u327 u328 u329 u330 u331 u332 u333 u334 u335 u336 u337 u338 : Value} (H0 : Hid (Sep w (twL t b (.slice (some ⟨g, 0, none⟩) (l.length + 1 : Nat) c) pv (x :: l) Q many ++ chP b p k sz ca C (bx B10 (.cells #[.int .i64 v1, .int .i64 v2] 34) :: bx B0 (.cells #[.int .i64 o.kind, .int .i64 o.n, sv, .int .i64 o.l.args, .int .i64 o.l.res, .int .i64 o.l.height, av, .int .i64 o.v.1, .int .i64 o.v.2, .bool last] 36) :: F)) W)) (hs : Sim sz ca n ⟨C, (x :: l).map (·.m), Q, many⟩ Z) (hn : n ≤ 280) (hn' : (if o.kind = 3 ∨ o.kind = 6 then n else n + 1) ≤ n') (hlm : l.length = lm) (hv : o.val = (v1, v2)) (hN : stepN (Tw.N ⟨C, (x :: l).map (·.m), Q, many⟩) o = N') (hK : Hid (∀ (tm : Array Value) (W' : World), tm.size = 339 → TwR w W' t b p k sz ca n' N' F → K ⟨tm, []⟩ W')) (hsl : ∀ W', Sep w F W' → Rdi W' sv o.l.slots) (hcap : SlOk sv) (hlen : o.l.slots.length ≤ 100) (hki : o.kind = kv) :
    Code.wp Tryz.prog (pieceOf (Tryz.f8.body.getD .skip) [1, 1, 1, 1, 1, 1, 0, 1]) (Exit.then K (bodyPost Tryz.prog Tryz.f8 (fun e w' => TwR w w' t b p k sz ca n' N' F ∧ e = .returned (.bool true)))) ⟨#[.pointer (some ⟨t, 0, none⟩), (.agg #[.int .i64 o.kind, .int .i64 o.n, sv, .int .i64 o.l.args, .int .i64 o.l.res, .int .i64 o.l.height, av, .int .i64 o.v.1, .int .i64 o.v.2, .bool last]), u2, .pointer (some ⟨B0, 0, none⟩), .bool false, .int .i64 ((lm : Int) + 1), u6, u7, u8, .pointer (some ⟨g, lm * 7, none⟩), .pointer (some ⟨B10, 0, none⟩), u11, u12, u13, u14, u15, u16, u17, u18, u19, u20, u21, u22, u23, u24, u25, u26, u27, u28, u29, u30, u31, u32, u33, u34, u35, u36, u37, u38, u39, u40, u41, u42, u43, u44, u45, u46, u47, u48, u49, u50, u51, u52, u53, u54, u55, u56, u57, u58, u59, u60, u61, u62, u63, u64, u65, u66, u67, u68, u69, u70, u71, u72, u73, u74, u75, u76, u77, u78, .int .i64 kv, u80, u81, u82, u83, u84, u85, u86, u87, u88, u89, u90, u91, u92, u93, u94, u95, u96, u97, u98, u99, u100, u101, u102, u103, u104, u105, u106, u107, u108, u109, u110, u111, u112, u113, u114, u115, u116, u117, u118, u119, u120, u121, u122, u123, u124, u125, u126, u127, u128, u129, u130, u131, u132, u133, u134, u135, u136, u137, u138, u139, u140, u141, u142, u143, u144, u145, u146, u147, u148, u149, u150, u151, u152, u153, u154, u155, u156, u157, u158, u159, u160, u161, u162, u163, u164, u165, u166, u167, u168, u169, u170, u171, u172, u173, u174, u175, u176, u177, u178, u179, u180, u181, u182, u183, u184, u185, u186, u187, u188, u189, u190, u191, u192, u193, u194, u195, u196, u197, u198, u199, u200, u201, u202, u203, u204, u205, u206, u207, u208, u209, u210, u211, u212, u213, u214, u215, u216, u217, u218, u219, u220, u221, u222, u223, u224, u225, u226, u227, u228, u229, u230, u231, u232, u233, u234, u235, u236, u237, u238, u239, u240, u241, u242, u243, u244, u245, u246, u247, u248, u249, u250, u251, u252, u253, u254, u255, u256, u257, u258, u259, u260, u261, u262, u263, u264, u265, u266, u267, u268, u269, u270, u271, u272, u273, u274, u275, u276, u277, u278, u279, u280, u281, u282, u283, u284, u285, u286, u287, u288, u289, u290, u291, u292, u293, u294, u295, u296, u297, u298, u299, u300, u301, u302, u303, u304, u305, u306, u307, u308, u309, u310, u311, u312, u313, u314, u315, u316, u317, u318, u319, u320, u321, u322, u323, u324, u325, u326, u327, u328, u329, u330, u331, u332, u333, u334, u335, u336, u337, u338], []⟩ W := by
  by_cases h0 : kv = 0
  · exact tdo_sw0 H0 hs hn (by rw [hki] at hn'; simpa [h0] using hn') hlm hv hN hK hsl hcap hlen h0 hki
  by_cases h1 : kv = 1
  · exact tdo_sw1 H0 hs hn (by rw [hki] at hn'; simpa [h1] using hn') hlm hv hN hK hsl hcap hlen h1 hki
  by_cases h2 : kv = 2
  · exact tdo_sw2 H0 hs hn (by rw [hki] at hn'; simpa [h2] using hn') hlm hv hN hK hsl hcap hlen h2 hki
  by_cases h3 : kv = 3
  · exact tdo_sw3 H0 hs hn (by rw [hki] at hn'; simpa [h3] using hn') hlm hv hN hK hsl hcap hlen h3 hki
  by_cases h5 : kv = 5
  · exact tdo_sw5 H0 hs hn (by rw [hki] at hn'; simpa [h5] using hn') hlm hv hN hK hsl hcap hlen h5 hki
  by_cases h6 : kv = 6
  · exact tdo_sw6 H0 hs hn (by rw [hki] at hn'; simpa [h6] using hn') hlm hv hN hK hsl hcap hlen h6 hki
  by_cases h8 : kv = 8
  · exact tdo_sw8 H0 hs hn (by rw [hki] at hn'; simpa [h8] using hn') hlm hv hN hK hsl hcap hlen h8 hki
  by_cases h9 : kv = 9
  · exact tdo_sw9 H0 hs hn (by rw [hki] at hn'; simpa [h9] using hn') hlm hv hN hK hsl hcap hlen h9 hki
  by_cases h11 : kv = 11
  · exact tdo_sw11 H0 hs hn (by rw [hki] at hn'; simpa [h11] using hn') hlm hv hN hK hsl hcap hlen h11 hki
  exact tdo_swo H0 hs (by split at hn' <;> omega) hN hK hki h0 h1 h2 h3 h5 h6 h8 h9 h11
set_option maxRecDepth 100000 in
set_option maxHeartbeats 4000000 in
theorem tdo_nil {n' : Nat} {N' : Nt} {K : Act → World → Prop} {u2 u6 u7 u8 u9 u10 u11 u12 u13 u14 u15 u16 u17 u18 u19 u20 u21 u22 u23 u24 u25 u26 u27 u28 u29 u30 u31 u32 u33 u34 u35 u36 u37 u38 u39 u40 u41 u42 u43 u44 u45 u46 u47 u48 u49 u50 u51 u52 u53 u54 u55 u56 u57 u58 u59 u60 u61 u62 u63 u64 u65 u66 u67 u68 u69 u70 u71 u72 u73 u74 u75 u76 u77 u78 u79 u80 u81 u82 u83 u84 u85 u86 u87 u88 u89 u90 u91 u92 u93 u94 u95 u96 u97 u98 u99 u100 u101 u102 u103 u104 u105 u106 u107 u108 u109 u110 u111 u112 u113 u114 u115 u116 u117 u118 u119 u120 u121 u122 u123 u124 u125 u126 u127 u128 u129 u130 u131 u132 u133 u134 u135 u136 u137 u138 u139 u140 u141 u142 u143 u144 u145 u146 u147 u148 u149 u150 u151 u152 u153 u154 u155 u156 u157 u158 u159 u160 u161 u162 u163 u164 u165 u166 u167 u168 u169 u170 u171 u172 u173 u174 u175 u176 u177 u178 u179 u180 u181 u182 u183 u184 u185 u186 u187 u188 u189 u190 u191 u192 u193 u194 u195 u196 u197 u198 u199 u200 u201 u202 u203 u204 u205 u206 u207 u208 u209 u210 u211 u212 u213 u214 u215 u216 u217 u218 u219 u220 u221 u222 u223 u224 u225 u226 u227 u228 u229 u230 u231 u232 u233 u234 u235 u236 u237 u238 u239 u240 u241 u242 u243 u244 u245 u246 u247 u248 u249 u250 u251 u252 u253 u254 u255 u256 u257 u258 u259 u260 u261 u262 u263 u264 u265 u266 u267 u268 u269 u270 u271 u272 u273 u274 u275 u276 u277 u278 u279 u280 u281 u282 u283 u284 u285 u286 u287 u288 u289 u290 u291 u292 u293 u294 u295 u296 u297 u298 u299 u300 u301 u302 u303 u304 u305 u306 u307 u308 u309 u310 u311 u312 u313 u314 u315 u316 u317 u318 u319 u320 u321 u322 u323 u324 u325 u326 u327 u328 u329 u330 u331 u332 u333 u334 u335 u336 u337 u338 : Value} (H1 : Hid (Sep w (twL t b lv pv [] Q many ++ chP b p k sz ca C (bx B0 (.cells #[.int .i64 o.kind, .int .i64 o.n, sv, .int .i64 o.l.args, .int .i64 o.l.res, .int .i64 o.l.height, av, .int .i64 o.v.1, .int .i64 o.v.2, .bool last] 36) :: F)) W)) (hs : Sim sz ca n ⟨C, [], Q, many⟩ Z) (hn : n ≤ 280) (hn' : n + 1 ≤ n') (hN : stepN (Tw.N ⟨C, [], Q, many⟩) o = N') (hsl : ∀ W', Sep w F W' → Rdi W' sv o.l.slots) (hcap : SlOk sv) (hlen : o.l.slots.length ≤ 100) :
    Code.wp Tryz.prog (pieceOf (Tryz.f8.body.getD .skip) [1, 1, 0, 1, 0]) (Exit.then K (bodyPost Tryz.prog Tryz.f8 (fun e w' => TwR w w' t b p k sz ca n' N' F ∧ e = .returned (.bool true)))) ⟨#[.pointer (some ⟨t, 0, none⟩), (.agg #[.int .i64 o.kind, .int .i64 o.n, sv, .int .i64 o.l.args, .int .i64 o.l.res, .int .i64 o.l.height, av, .int .i64 o.v.1, .int .i64 o.v.2, .bool last]), u2, .pointer (some ⟨B0, 0, none⟩), .bool false, .int .i64 0, u6, u7, u8, u9, u10, u11, u12, u13, u14, u15, u16, u17, u18, u19, u20, u21, u22, u23, u24, u25, u26, u27, u28, u29, u30, u31, u32, u33, u34, u35, u36, u37, u38, u39, u40, u41, u42, u43, u44, u45, u46, u47, u48, u49, u50, u51, u52, u53, u54, u55, u56, u57, u58, u59, u60, u61, u62, u63, u64, u65, u66, u67, u68, u69, u70, u71, u72, u73, u74, u75, u76, u77, u78, u79, u80, u81, u82, u83, u84, u85, u86, u87, u88, u89, u90, u91, u92, u93, u94, u95, u96, u97, u98, u99, u100, u101, u102, u103, u104, u105, u106, u107, u108, u109, u110, u111, u112, u113, u114, u115, u116, u117, u118, u119, u120, u121, u122, u123, u124, u125, u126, u127, u128, u129, u130, u131, u132, u133, u134, u135, u136, u137, u138, u139, u140, u141, u142, u143, u144, u145, u146, u147, u148, u149, u150, u151, u152, u153, u154, u155, u156, u157, u158, u159, u160, u161, u162, u163, u164, u165, u166, u167, u168, u169, u170, u171, u172, u173, u174, u175, u176, u177, u178, u179, u180, u181, u182, u183, u184, u185, u186, u187, u188, u189, u190, u191, u192, u193, u194, u195, u196, u197, u198, u199, u200, u201, u202, u203, u204, u205, u206, u207, u208, u209, u210, u211, u212, u213, u214, u215, u216, u217, u218, u219, u220, u221, u222, u223, u224, u225, u226, u227, u228, u229, u230, u231, u232, u233, u234, u235, u236, u237, u238, u239, u240, u241, u242, u243, u244, u245, u246, u247, u248, u249, u250, u251, u252, u253, u254, u255, u256, u257, u258, u259, u260, u261, u262, u263, u264, u265, u266, u267, u268, u269, u270, u271, u272, u273, u274, u275, u276, u277, u278, u279, u280, u281, u282, u283, u284, u285, u286, u287, u288, u289, u290, u291, u292, u293, u294, u295, u296, u297, u298, u299, u300, u301, u302, u303, u304, u305, u306, u307, u308, u309, u310, u311, u312, u313, u314, u315, u316, u317, u318, u319, u320, u321, u322, u323, u324, u325, u326, u327, u328, u329, u330, u331, u332, u333, u334, u335, u336, u337, u338], []⟩ W := by
  conv => arg 2; whnf
  obtain ⟨-, -, d2, d3, -, -, -, -⟩ := ten_cells H1.out (q := B0) (tw_mem (List.Mem.head _))
  rcases (hsl _ (Sep.sub H1.out (by rw [twch_eq]; exact (List.sublist_cons_self _ _).trans (List.sublist_append_right _ _)))).ad with ⟨rfl, hnil⟩ | ⟨ad, c0, rfl, hcs⟩
  · have hn0 : o.l.slots.length = 0 := by rw [hnil]; rfl
    have hr : ∀ W', Sep w F W' → Rdi W' (.slice none 0 0) (o.l.slots.take 0) := fun W' q => .inl ⟨rfl, by simp⟩
    clear hnil
    by_cases q1 : o.l.args ≤ 0
    · go_upto_block 0 with (fail)
      refine tdo_nil4 H1 hs hn hn' hN ?_ hsl hcap hlen (ka := 0) (by omega) hr
      exact Hid.mk (by intro a w' hh; apply_assumption; exact hh)
    · have q2 : 0 < o.l.args := by omega
      go_upto_block 0 with (fail)
      refine tdo_nil4 H1 hs hn hn' hN ?_ hsl hcap hlen (ka := 0) (by omega) hr
      exact Hid.mk (by intro a w' hh; apply_assumption; exact hh)
  · have hcc := hcap _ _ _ rfl
    obtain ⟨n0, hn0⟩ : ∃ n0, o.l.slots.length = n0 := ⟨_, rfl⟩
    have hr : ∀ ka, ka ≤ o.l.slots.length → ∀ W', Sep w F W' → Rdi W' (.slice (some ad) ka c0) (o.l.slots.take ka) := fun ka hka W' q => Rdi.take (hsl W' q) hka
    have d2' := d2
    rw [hn0] at d2' hcc
    clear d2
    have HN0 := Hid.mk hn0
    have HR := Hid.mk hr
    have hn100 : n0 ≤ 100 := by omega
    clear hcs hr hn0
    by_cases q1 : o.l.args ≤ 0
    · have h0 : 0 ≤ c0 := by omega
      rcases Nat.eq_zero_or_pos n0 with q3 | q3
      · subst q3
        go_upto_block 0 with (fail)
        refine tdo_nil4 H1 hs hn hn' hN ?_ hsl hcap hlen (ka := 0) (by have := HN0.out; omega) (HR.out 0 (Nat.zero_le _))
        exact Hid.mk (by intro a w' hh; apply_assumption; exact hh)
      · go_upto_block 0 with (fail)
        refine tdo_nil4 H1 hs hn hn' hN ?_ hsl hcap hlen (ka := 0) (by have := HN0.out; omega) (HR.out 0 (Nat.zero_le _))
        exact Hid.mk (by intro a w' hh; apply_assumption; exact hh)
    · obtain ⟨na, hna⟩ := Int.eq_ofNat_of_zero_le (show 0 ≤ o.l.args by omega)
      have HNA := Hid.mk hna
      have d3' := d3
      rw [hna] at d3' q1
      clear d3 hna
      have q4 : 0 < na := by omega
      have q5 : 0 < (na : Int) := by omega
      by_cases q2 : na < n0
      · have q6 : (na : Int) < (n0 : Int) := by omega
        have q7 : na ≤ c0 := by omega
        go_upto_block 0 with (fail)
        refine tdo_nil4 H1 hs hn hn' hN ?_ hsl hcap hlen (ka := na) (by have := HN0.out; rw [HNA.out, Int.toNat_natCast]; omega) (HR.out na (by have := HN0.out; omega))
        exact Hid.mk (by intro a w' hh; apply_assumption; exact hh)
      · have q6 : ¬ (na : Int) < (n0 : Int) := by omega
        go_upto_block 0 with (fail)
        refine tdo_nil4 H1 hs hn hn' hN ?_ hsl hcap hlen (ka := n0) (by have := HN0.out; rw [HNA.out, Int.toNat_natCast]; omega) (HR.out n0 (by have := HN0.out; omega))
        exact Hid.mk (by intro a w' hh; apply_assumption; exact hh)
end
end Go.Proofs.YtpfnnmcokbolhaaGreat
/- The twin's do. -/
namespace Go.Proofs.YtpfnnmcokbolhaaGreat
open Go.RowKit
set_option pp.deepTerms true
section
variable {w W : World} {F G : List Asr} {t b p k g c : Nat} {sz ca many : Int} {C : Ch} {lv pv : Value} {ml l : List Mv} {x : Mv} {Q : List (Int × Pf)} {A : Asr} {T : Tw} {Z : List (Md × Af)} {n : Nat} {o : Op25} {sv av : Value} {last : Bool} {B0 : Nat}
set_option maxRecDepth 100000 in
set_option maxHeartbeats 4000000 in
theorem tdo_any {n' : Nat} (h : Sep w (twL t b lv pv ml Q many ++ chP b p k sz ca C F) W) (hs : Sim sz ca n ⟨C, ml.map (·.m), Q, many⟩ Z) (hn : n ≤ 280) (hn' : (if ml ≠ [] ∧ (o.kind = 3 ∨ o.kind = 6) then n else n + 1) ≤ n') (hsl : ∀ W', Sep w F W' → Rdi W' sv o.l.slots) (hcap : SlOk sv) (hlen : o.l.slots.length ≤ 100) :
    Calls Tryz.prog 8 #[.pointer (some ⟨t, 0, none⟩), (.agg #[.int .i64 o.kind, .int .i64 o.n, sv, .int .i64 o.l.args, .int .i64 o.l.res, .int .i64 o.l.height, av, .int .i64 o.v.1, .int .i64 o.v.2, .bool last])] W fun e w' => TwR w w' t b p k sz ca n' (stepN (Tw.N ⟨C, ml.map (·.m), Q, many⟩) o) F ∧ e = .returned (.bool true) := by
  obtain ⟨N', hN⟩ : ∃ N', stepN (Tw.N ⟨C, ml.map (·.m), Q, many⟩) o = N' := ⟨_, rfl⟩
  rw [hN]
  obtain ⟨⟨ao, c1, rfl⟩, -⟩ := tw_shapes h
  have h1 := tw_more h (.cells #[.int .i64 o.kind, .int .i64 o.n, sv, .int .i64 o.l.args, .int .i64 o.l.res, .int .i64 o.l.height, av, .int .i64 o.v.1, .int .i64 o.v.2, .bool last] 36)
  obtain ⟨B0, hB0⟩ : ∃ B, W.heap.size = B := ⟨_, rfl⟩
  obtain ⟨X0, hX0⟩ : ∃ X, X = W.alloc (.cells #[.int .i64 o.kind, .int .i64 o.n, sv, .int .i64 o.l.args, .int .i64 o.l.res, .int .i64 o.l.height, av, .int .i64 o.v.1, .int .i64 o.v.2, .bool last] 36) := ⟨_, rfl⟩
  rw [hB0, ← hX0] at h1
  obtain ⟨-, k1, -, -, -⟩ := tw_k h1
  cases ml with
  | nil =>
    simp only [List.length_nil] at k1
    have H1 := Hid.mk h1
    have HX0 := Hid.mk hX0
    have HB0 := Hid.mk hB0
    clear h h1 hX0 hB0
    go_enter Tryz.func8, Tryz.ntmps8
    go_upto_region 1 with (fail)
    rw [← HX0.out, HB0.out]
    go_upto_if 26 with (fail)
    refine wp_cond_true rfl ?_
    exact tdo_nil H1 hs hn (by simpa using hn') hN hsl hcap hlen
  | cons x l =>
    obtain ⟨g, c, e, hc, -⟩ := tw_top h1
    simp only [Value.slice.injEq] at e
    obtain ⟨rfl, -, rfl⟩ := e
    obtain ⟨d0, -, -, -, -, -, d7, d8⟩ := ten_cells h1 (q := B0) (tw_mem (List.Mem.head _))
    obtain ⟨lm, hlm⟩ : ∃ lm, l.length = lm := ⟨_, rfl⟩
    rw [List.length_cons, hlm] at k1
    rw [hlm] at hc
    have hll : lm ≤ 280 := by
      have := hs.len.1
      simp at this
      omega
    have w2 : IntKind.i64.wrap ((lm : Int) + 1 - 1) = (lm : Int) := by rw [IntKind.wrap_i64]; omega
    have w3 : IntKind.i64.wrap (lm : Int) = (lm : Int) := by rw [IntKind.wrap_i64]; omega
    have hk3 : lm < lm + 1 := by omega
    have hk4 : (lm : Int) < (lm : Int) + 1 := by omega
    have zz : ((lm : Int) + 1 == 0) = false := by simp; omega
    have HLM := Hid.mk hlm
    have HW : Hid (∀ {N1 N2 : Nat} {v1 v2 : Int}, o.val = (v1, v2) → True) := fun _ => trivial
    have h2 : Sep w (twL t b (.slice (some ⟨g, 0, none⟩) (l.length + 1 : Nat) c1) pv (x :: l) Q many ++ chP b p k sz ca C (bx X0.heap.size (.cells #[.int .i64 o.v.1, .int .i64 o.v.2] 34) :: bx B0 (.cells #[.int .i64 o.kind, .int .i64 o.n, sv, .int .i64 o.l.args, .int .i64 o.l.res, .int .i64 o.l.height, av, .int .i64 o.v.1, .int .i64 o.v.2, .bool last] 36) :: F)) (X0.alloc (.cells #[.int .i64 o.v.1, .int .i64 o.v.2] 34)) := tw_more h1 _
    have h3 : Sep w (twL t b (.slice (some ⟨g, 0, none⟩) (l.length + 1 : Nat) c1) pv (x :: l) Q many ++ chP b p k sz ca C (bx X0.heap.size (.cells #[.int .i64 o.v.1, .int .i64 0] 34) :: bx B0 (.cells #[.int .i64 o.kind, .int .i64 o.n, sv, .int .i64 o.l.args, .int .i64 o.l.res, .int .i64 o.l.height, av, .int .i64 o.v.1, .int .i64 o.v.2, .bool last] 36) :: F)) (X0.alloc (.cells #[.int .i64 o.v.1, .int .i64 0] 34)) := tw_more h1 _
    have e0 := alloc_cell (o := .cells #[.int .i64 o.v.1, .int .i64 0] 34) d0
    have e1 := alloc_cell (o := .cells #[.int .i64 o.v.1, .int .i64 o.v.2] 34) d0
    have H2 := Hid.mk h2
    have H3 := Hid.mk h3
    have HX0 := Hid.mk hX0
    have HB0 := Hid.mk hB0
    have HNN := Hid.mk hN
    have HSIM := Hid.mk hs
    have HSL := Hid.mk hsl
    have HCAP := Hid.mk hcap
    clear h h1 hlm h2 h3 hX0 hB0 hN hs hsl hcap
    by_cases hv : o.v.1 = 4
    · have z4 : (o.v.1 == 4) = true := by simpa using hv
      have HV : Hid (o.val = (o.v.1, 0)) := by unfold Hid Op25.val; rw [if_pos hv, hv]
      clear hv
      go_enter Tryz.func8, Tryz.ntmps8
      go_upto_region 1 with (fail)
      rw [← HX0.out, HB0.out]
      go_upto_block 2 with (fail)
      refine tdo_switch (B10 := X0.heap.size) (v1 := o.v.1) (v2 := 0) H3 HSIM.out hn (by simpa using hn') HLM.out HV.out HNN.out ?_ HSL.out HCAP.out hlen rfl
      refine Hid.mk (fun tm W' hsz hR => ?_)
      apply_assumption
      have HR := Hid.mk hR
      clear hR d0 d7 d8 e0 e1 k1 H2 H3
      go_wp2_with fail
      refine bodyPost_ret (v := .bool true) (by simp [results, Tryz.results8, go_sem, hsz]) rfl ⟨HR.out, rfl⟩
    · have z4 : (o.v.1 == 4) = false := by simpa using hv
      have HV : Hid (o.val = (o.v.1, o.v.2)) := by unfold Hid Op25.val; rw [if_neg hv]
      clear hv
      go_enter Tryz.func8, Tryz.ntmps8
      go_upto_region 1 with (fail)
      rw [← HX0.out, HB0.out]
      go_upto_block 2 with (fail)
      refine tdo_switch (B10 := X0.heap.size) (v1 := o.v.1) (v2 := o.v.2) H2 HSIM.out hn (by simpa using hn') HLM.out HV.out HNN.out ?_ HSL.out HCAP.out hlen rfl
      refine Hid.mk (fun tm W' hsz hR => ?_)
      apply_assumption
      have HR := Hid.mk hR
      clear hR d0 d7 d8 e0 e1 k1 H2 H3
      go_wp2_with fail
      refine bodyPost_ret (v := .bool true) (by simp [results, Tryz.results8, go_sem, hsz]) rfl ⟨HR.out, rfl⟩
end
end Go.Proofs.YtpfnnmcokbolhaaGreat
/- The laws' calls of chapter 25: a slice of structs with slices in them, as it comes in. -/
namespace Go.Proofs.YtpfnnmcokbolhaaGreat
open Go.ChangeShapes Go.WideShapes Go.RowKit Go.Deep
theorem Tryz.cells36 : Tryz.prog.cellsOf 36 = 10 := by kernel_rfl
theorem Tryz.cells31 : Tryz.prog.cellsOf 31 = 4 := by kernel_rfl
theorem Tryz.cells29 : Tryz.prog.cellsOf 29 = 1 := by kernel_rfl
theorem Tryz.cells32 : Tryz.prog.cellsOf 32 = 1 := by kernel_rfl
theorem Tryz.cells4 : Tryz.prog.cellsOf 4 = 1 := by kernel_rfl
/-- one call, with its slices -/
structure OpV where
  o : Op25
  sv : Value
  av : Value
  an : Nat
  last : Bool
instance : Inhabited OpV := ⟨⟨⟨0, 0, ⟨[], 0, 0, 0⟩, (0, 0)⟩, .slice none 0 0, .slice none 0 0, 0, false⟩⟩
def OpVOk (w : World) (x : OpV) : Prop := Rdi w x.sv x.o.l.slots ∧ SlOk x.sv ∧ ∃ aa ac, x.av = .slice aa x.an ac
def OpVAt (w : World) (b o : Nat) (x : OpV) : Prop :=
  w.cell? ⟨b, o, none⟩ = some (.int .i64 x.o.kind) ∧ w.cell? ⟨b, o + 1, none⟩ = some (.int .i64 x.o.n) ∧ w.cell? ⟨b, o + 2, none⟩ = some x.sv ∧
    w.cell? ⟨b, o + 3, none⟩ = some (.int .i64 x.o.l.args) ∧ w.cell? ⟨b, o + 4, none⟩ = some (.int .i64 x.o.l.res) ∧ w.cell? ⟨b, o + 5, none⟩ = some (.int .i64 x.o.l.height) ∧
    w.cell? ⟨b, o + 6, none⟩ = some x.av ∧ w.cell? ⟨b, o + 7, none⟩ = some (.int .i64 x.o.v.1) ∧ w.cell? ⟨b, o + 8, none⟩ = some (.int .i64 x.o.v.2) ∧ w.cell? ⟨b, o + 9, none⟩ = some (.bool x.last)
/-- a slice of calls reads as os -/
def Ops25 (w : World) (v : Value) (os : List OpV) : Prop :=
  (∃ ao c, v = .slice ao os.length c) ∧ os.length ≤ maxLen ∧ (∀ x ∈ os, OpVOk w x) ∧ (0 < os.length → ∃ b o c, v = .slice (some ⟨b, o, none⟩) os.length c ∧ b < w.heap.size ∧
    ∀ i (hi : i < os.length), OpVAt w b (o + i * 10) os[i])
theorem OpVAt.below {w w' : World} {b o : Nat} {x : OpV} (h : OpVAt w b o x) (k : Below w.heap.size w w') (hb : b < w.heap.size) : OpVAt w' b o x := by
  obtain ⟨h0, h1, h2, h3, h4, h5, h6, h7, h8, h9⟩ := h
  exact ⟨(k.cell (p := ⟨b, _, none⟩) hb).trans h0, (k.cell (p := ⟨b, _, none⟩) hb).trans h1, (k.cell (p := ⟨b, _, none⟩) hb).trans h2, (k.cell (p := ⟨b, _, none⟩) hb).trans h3, (k.cell (p := ⟨b, _, none⟩) hb).trans h4, (k.cell (p := ⟨b, _, none⟩) hb).trans h5, (k.cell (p := ⟨b, _, none⟩) hb).trans h6, (k.cell (p := ⟨b, _, none⟩) hb).trans h7, (k.cell (p := ⟨b, _, none⟩) hb).trans h8, (k.cell (p := ⟨b, _, none⟩) hb).trans h9⟩
theorem OpVOk.below {w w' : World} {x : OpV} (h : OpVOk w x) (k : Below w.heap.size w w') : OpVOk w' x := ⟨h.1.below k, h.2⟩
theorem Ops25.below {w w' : World} {v : Value} {os : List OpV} (h : Ops25 w v os) (k : Below w.heap.size w w') : Ops25 w' v os := by
  obtain ⟨h1, h0, h2, h3⟩ := h
  refine ⟨h1, h0, fun x hx => (h2 x hx).below k, fun hp => ?_⟩
  obtain ⟨b, o, c, e, hb, hc⟩ := h3 hp
  exact ⟨b, o, c, e, Nat.lt_of_lt_of_le hb k.size, fun i hi => (hc i hi).below k hb⟩
set_option maxRecDepth 100000 in
theorem open_ints {H : Type} {enc : TypeId × Value → H} {w : World} {base fuel : Nat} {spare : Nat → Bool} {held : Bool} {v : Value} {x : DataW H × List MemPlace}
    (h : DataW.trod enc Tryz.prog w base spare held fuel 29 [v] = some x) : ∃ ls, Rdi w v ls ∧ SlOk v := by
  rcases open_slice1 Tryz.underlying29 Tryz.cells3 h with ⟨hcs, _⟩ | ⟨a, len, cap, m, n, V, D, Pl, hcs, hb, hl, hm, hmm, _, hx⟩
  · simp only [List.cons.injEq, and_true] at hcs
    subst hcs
    refine ⟨[], .inl ⟨rfl, rfl⟩, fun ao n c e => ?_⟩
    simp only [Value.slice.injEq] at e
    omega
  · simp only [List.cons.injEq, and_true] at hcs
    subst hcs
    have hsl : SlOk (.slice (some a) len cap) := fun ao n c e => by
      simp only [Value.slice.injEq] at e
      omega
    have hlm : len ≤ m := by rw [hmm]; split <;> omega
    rcases Nat.eq_zero_or_pos len with h0 | h0
    · subst h0
      exact ⟨[], .inr (.inr ⟨a, cap, rfl, rfl⟩), hsl⟩
    · obtain ⟨ab, ao, sq⟩ := a
      have hs : sq = none := by
        have c := (hx 0 (by omega)).1
        have := World.cell?_spot c
        simpa [Addr.add] using this
      subst hs
      have each : ∀ i, i < len → ∃ y : Int, w.cell? ⟨ab, ao + i, none⟩ = some (.int .i64 y) := by
        intro i hi
        obtain ⟨c, ht⟩ := hx i (by omega)
        obtain ⟨k, e0, -, -⟩ := DataW.trod_int Tryz.underlying3 ht
        simp only [List.cons.injEq, and_true] at e0
        rw [e0, add_plain] at c
        exact ⟨k, c⟩
      obtain ⟨f, hf⟩ := choose_lt each
      refine ⟨(List.range len).map f, .inr (.inl ⟨ab, ao, cap, by simp, cell_lt (hf 0 h0), fun i hi => ?_⟩), hsl⟩
      have := hf i (by simpa using hi)
      simpa using this
set_option maxRecDepth 100000 in
theorem open_op25 {H : Type} {enc : TypeId × Value → H} {w : World} {base fuel : Nat} {spare : Nat → Bool} {held : Bool} {cs : List Value} {x : DataW H × List MemPlace}
    (h : DataW.trod enc Tryz.prog w base spare held fuel 36 cs = some x) (hl : cs.length = 10) :
    ∃ y : OpV, OpVOk w y ∧ cs = [.int .i64 y.o.kind, .int .i64 y.o.n, y.sv, .int .i64 y.o.l.args, .int .i64 y.o.l.res, .int .i64 y.o.l.height, y.av, .int .i64 y.o.v.1, .int .i64 y.o.v.2, .bool y.last] := by
  obtain ⟨xs, n, _, _, _, hlen, hf⟩ := DataW.trod_struct Tryz.underlying36 h
  match cs, hl with
  | [v0, v1, v2, v3, v4, v5, v6, v7, v8, v9], _ =>
  match xs, hlen with
  | [y0, y1, y2, y3, y4, y5], _ =>
  have f0 : DataW.trod enc Tryz.prog w base spare held n 3 (([v0, v1, v2, v3, v4, v5, v6, v7, v8, v9].drop 0).take (Tryz.prog.cellsOf 3)) = some y0 := hf 0 _ rfl
  have f1 : DataW.trod enc Tryz.prog w base spare held n 3 (([v0, v1, v2, v3, v4, v5, v6, v7, v8, v9].drop 1).take (Tryz.prog.cellsOf 3)) = some y1 := hf 1 _ rfl
  have f2 : DataW.trod enc Tryz.prog w base spare held n 31 (([v0, v1, v2, v3, v4, v5, v6, v7, v8, v9].drop 2).take (Tryz.prog.cellsOf 31)) = some y2 := hf 2 _ rfl
  have f3 : DataW.trod enc Tryz.prog w base spare held n 32 (([v0, v1, v2, v3, v4, v5, v6, v7, v8, v9].drop 6).take (Tryz.prog.cellsOf 32)) = some y3 := hf 3 _ rfl
  have f4 : DataW.trod enc Tryz.prog w base spare held n 34 (([v0, v1, v2, v3, v4, v5, v6, v7, v8, v9].drop 7).take (Tryz.prog.cellsOf 34)) = some y4 := hf 4 _ rfl
  have f5 : DataW.trod enc Tryz.prog w base spare held n 4 (([v0, v1, v2, v3, v4, v5, v6, v7, v8, v9].drop 9).take (Tryz.prog.cellsOf 4)) = some y5 := hf 5 _ rfl
  rw [Tryz.cells3] at f0 f1
  rw [Tryz.cells31] at f2
  rw [Tryz.cells32] at f3
  rw [Tryz.cells34] at f4
  rw [Tryz.cells4] at f5
  simp only [List.drop, List.take] at f0 f1 f2 f3 f4 f5
  obtain ⟨k, e0, _, b0⟩ := DataW.trod_int Tryz.underlying3 f0
  obtain ⟨m, e1, _, b1⟩ := DataW.trod_int Tryz.underlying3 f1
  obtain ⟨bl, e9, -⟩ := DataW.trod_bool Tryz.underlying4 f5
  obtain ⟨zs, n', _, _, _, hlen', hf'⟩ := DataW.trod_struct Tryz.underlying34 f4
  match zs, hlen' with
  | [z0, z1], _ =>
  have g0 : DataW.trod enc Tryz.prog w base spare held n' 3 (([v7, v8].drop 0).take (Tryz.prog.cellsOf 3)) = some z0 := hf' 0 _ rfl
  have g1 : DataW.trod enc Tryz.prog w base spare held n' 2 (([v7, v8].drop 1).take (Tryz.prog.cellsOf 2)) = some z1 := hf' 1 _ rfl
  rw [Tryz.cells3] at g0
  rw [Tryz.cells2] at g1
  simp only [List.drop, List.take] at g0 g1
  obtain ⟨t, e7, _, b4⟩ := DataW.trod_int Tryz.underlying3 g0
  obtain ⟨v, e8, _, b5⟩ := DataW.trod_int Tryz.underlying2 g1
  obtain ⟨us, n2, _, _, _, hlen2, hf2⟩ := DataW.trod_struct Tryz.underlying31 f2
  match us, hlen2 with
  | [t0, t1, t2, t3], _ =>
  have k0 : DataW.trod enc Tryz.prog w base spare held n2 29 (([v2, v3, v4, v5].drop 0).take (Tryz.prog.cellsOf 29)) = some t0 := hf2 0 _ rfl
  have k1 : DataW.trod enc Tryz.prog w base spare held n2 3 (([v2, v3, v4, v5].drop 1).take (Tryz.prog.cellsOf 3)) = some t1 := hf2 1 _ rfl
  have k2 : DataW.trod enc Tryz.prog w base spare held n2 3 (([v2, v3, v4, v5].drop 2).take (Tryz.prog.cellsOf 3)) = some t2 := hf2 2 _ rfl
  have k3 : DataW.trod enc Tryz.prog w base spare held n2 3 (([v2, v3, v4, v5].drop 3).take (Tryz.prog.cellsOf 3)) = some t3 := hf2 3 _ rfl
  rw [Tryz.cells29] at k0
  rw [Tryz.cells3] at k1 k2 k3
  simp only [List.drop, List.take] at k0 k1 k2 k3
  obtain ⟨la, e3, _, b3⟩ := DataW.trod_int Tryz.underlying3 k1
  obtain ⟨lr, e4, _, b4⟩ := DataW.trod_int Tryz.underlying3 k2
  obtain ⟨lh, e5, _, b5⟩ := DataW.trod_int Tryz.underlying3 k3
  obtain ⟨ls, hls, hsl⟩ := open_ints k0
  have hav : ∃ aa an ac, v6 = .slice aa an ac := by
    rcases open_slice Tryz.underlying32 f3 with ⟨hcs, _⟩ | ⟨a, len, cap, _, _, _, _, hcs, _⟩
    · simp only [List.cons.injEq, and_true] at hcs
      exact ⟨_, _, _, hcs⟩
    · simp only [List.cons.injEq, and_true] at hcs
      exact ⟨_, _, _, hcs⟩
  obtain ⟨aa, an, ac, rfl⟩ := hav
  simp only [List.cons.injEq, and_true] at e0 e1 e3 e4 e5 e7 e8 e9
  subst e0 e1 e3 e4 e5 e7 e8 e9
  exact ⟨⟨⟨k, m, ⟨ls, la, lr, lh⟩, (t, v)⟩, v2, .slice aa an ac, an, bl⟩, ⟨hls, hsl, aa, ac, rfl⟩, rfl⟩
set_option maxRecDepth 100000 in
theorem open_ops25 {H : Type} {enc : TypeId × Value → H} {w : World} {base : Nat} {spare : Nat → Bool} {held : Bool} {v : Value} {d : DataW H} {ps : List MemPlace} {r : Reach} {b0 : Nat}
    (hval : Value.okWide Tryz.prog w r b0 24 v) (h : DataW.Trod enc Tryz.prog w base spare held 24 v d ps) : ∃ os, Ops25 w v os := by
  obtain ⟨a0, l0, c0, rfl⟩ := okWide_slice Tryz.underlying24 hval
  obtain ⟨fuel, h⟩ := h
  rcases open_slice Tryz.underlying24 h with ⟨hcs, _⟩ | ⟨a, len, cap, m, n, D, Pl, hcs, hb, hl, hm, hmm, _, hx⟩
  · simp [Value.cells] at hcs
    obtain ⟨rfl, rfl, rfl⟩ := hcs
    exact ⟨[], ⟨none, 0, rfl⟩, by simp, by simp, by simp⟩
  · simp [Value.cells] at hcs
    obtain ⟨rfl, rfl, rfl⟩ := hcs
    have hlm : l0 ≤ m := by rw [hmm]; split <;> omega
    rcases Nat.eq_zero_or_pos l0 with h0 | h0
    · subst h0
      exact ⟨[], ⟨_, _, rfl⟩, by simp, by simp, by simp⟩
    obtain ⟨ab, ao, sq⟩ := a
    have hs : sq = none := by
      obtain ⟨cs, h1, h2⟩ := hx 0 (by omega)
      rw [Tryz.cells36] at h1
      obtain ⟨_, hlen, hcell⟩ := World.cells?_some h1
      obtain ⟨y, hy, rfl⟩ := open_op25 h2 hlen
      have c := hcell 0 (by omega)
      have := World.cell?_spot c
      simpa [Addr.add] using this
    subst hs
    have each : ∀ i, i < l0 → ∃ y : OpV, OpVOk w y ∧ OpVAt w ab (ao + i * 10) y := by
      intro i hi
      obtain ⟨cs, h1, h2⟩ := hx i (by omega)
      rw [Tryz.cells36] at h1
      obtain ⟨_, hlen, hcell⟩ := World.cells?_some h1
      obtain ⟨y, hy, rfl⟩ := open_op25 h2 hlen
      have c0 := hcell 0 (by omega)
      have c1 := hcell 1 (by omega)
      have c2 := hcell 2 (by omega)
      have c3 := hcell 3 (by omega)
      have c4 := hcell 4 (by omega)
      have c5 := hcell 5 (by omega)
      have c6 := hcell 6 (by omega)
      have c7 := hcell 7 (by omega)
      have c8 := hcell 8 (by omega)
      have c9 := hcell 9 (by omega)
      rw [add_add, add_plain] at c0 c1 c2 c3 c4 c5 c6 c7 c8 c9
      exact ⟨y, hy, by simpa using c0, by simpa [Nat.add_assoc] using c1, by simpa [Nat.add_assoc] using c2, by simpa [Nat.add_assoc] using c3, by simpa [Nat.add_assoc] using c4, by simpa [Nat.add_assoc] using c5, by simpa [Nat.add_assoc] using c6, by simpa [Nat.add_assoc] using c7, by simpa [Nat.add_assoc] using c8, by simpa [Nat.add_assoc] using c9⟩
    obtain ⟨f, hf⟩ := choose_lt each
    refine ⟨(List.range l0).map f, ⟨some ⟨ab, ao, none⟩, c0, by simp⟩, by simp; omega, ?_, fun hp => ?_⟩
    · intro x hx
      obtain ⟨i, hi, rfl⟩ := List.mem_map.1 hx
      exact (hf i (List.mem_range.1 hi)).1
    · refine ⟨ab, ao, c0, by simp, cell_lt (hf 0 h0).2.1, fun i hi => ?_⟩
      have := (hf i (by simpa using hi)).2
      simpa using this
end Go.Proofs.YtpfnnmcokbolhaaGreat
