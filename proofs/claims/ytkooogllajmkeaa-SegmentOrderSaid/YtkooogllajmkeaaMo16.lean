/- Parts Gs Gu Gv Gw Oq, put together. -/
import Derived.Test.YtkooogllajmkeaaMo4
import Derived.Test.YtkooogllajmkeaaMo15
import Derived.LoopN
import Derived.Deep.CutBlock
import Derived.Lib.SmallJoins
/- SegmentOrder's loops over what there is: no two have an address in common. -/
namespace Go.Proofs.Ytkooogllajmkeaa
open Go.RowKit
set_option pp.deepTerms true
attribute [local go_sem ↓] Go.wp_at_zero Go.wp_at_succ
noncomputable def sob5 : Code := pieceOf (Try.f7.body.getD .skip) [1, 1, 1, 1, 1, 0, 1, 0, 0, 1, 1, 0, 0, 1, 1, 1, 1, 1, 0, 1, 0, 0, 1, 1, 0, 0, 1, 1, 1]
/-- regions as an address and how many words: each within bounds -/
def Bnd (xs : List (Int × Int)) : Prop := ∀ i (hi : i < xs.length), 1 ≤ xs[i].1 ∧ 1 ≤ xs[i].2 ∧ xs[i].2 ≤ 1048576 ∧ xs[i].1 ≤ 1000000000000
theorem sto_cells {wb : World} {p b : Nat} {s c : Int} {S : Sp} {L : Lk} {E : List (Nat × Obj)} {vw vk : Value} {g o n cpa : Nat} {xs : List (Int × Int)} (hx : L.live ++ L.kept = xs) {W' : World} (h : Sto wb p b s c S L E vw vk (.slice (some ⟨g, o, none⟩) n cpa) W') {i : Nat} (hi : i < xs.length) :
    W'.cell? ⟨g, o + i * 2, none⟩ = some (.int .i64 xs[i].1) ∧ W'.cell? ⟨g, o + i * 2 + 1, none⟩ = some (.int .i64 xs[i].2) ∧ g < W'.heap.size := by
  subst hx
  obtain ⟨b', o', c', ev, hb', hc'⟩ := h.2.2.some (by omega)
  simp only [Value.slice.injEq, Option.some.injEq, Addr.mk.injEq, and_true] at ev
  obtain ⟨⟨rfl, rfl⟩, _, _⟩ := ev
  exact ⟨(hc' i hi).1, (hc' i hi).2, hb'⟩
set_option maxRecDepth 100000 in
set_option maxHeartbeats 4000000 in
theorem so5 {wb W : World} {x p b pr q : Nat} {s c : Int} {S : Sp} {L : Lk} {vw vk : Value} {g o n cpa j Bq : Nat} {t1 t2 : Int} {xs : List (Int × Int)} {Q : Exit → Act → World → Prop} {u0 u1 u2 u3 u4 u5 u6 u7 u8 u9 u10 u11 u12 u13 u14 u15 u16 u17 u18 u20 u21 u22 u23 u24 u25 u26 u27 u28 u29 u30 u31 u32 u33 u34 u35 u36 u37 u38 u39 u40 u41 u42 u43 u44 u45 u46 u47 u48 u49 u50 u51 u52 u53 u54 u55 u56 u57 u58 u59 u60 u61 u62 u63 u64 u65 u66 u67 u68 u69 u70 u71 u72 u73 u74 u75 u76 u77 u78 u79 u80 u81 u82 u83 u84 u85 u86 u87 u88 u89 u90 u91 u92 u93 u94 u95 u96 u97 u98 u99 u100 u101 u102 u103 u104 u105 u106 u107 u108 u109 u110 u111 u112 u113 u114 u115 u116 u117 u118 u119 u120 u121 u122 u123 u124 u125 u126 u127 u128 u129 u130 u131 u132 u133 u134 u135 u136 u137 u138 u139 u140 u141 u142 u143 u144 u145 u146 u147 u148 u149 u150 u151 u152 u153 u154 u155 u156 u157 u158 u159 u160 u161 u162 u163 u164 u165 u166 u167 u168 u169 u170 u171 u172 u173 u174 u175 u176 u177 u178 u179 u180 u181 u182 u183 u184 u185 u186 u187 u188 u189 u190 u191 u192 u193 u194 u195 u196 u197 u198 u199 u200 u201 u202 u203 u204 u205 u206 u207 u208 u209 u210 u214 u215 u216 u217 u218 u219 u220 u221 u222 u223 u224 u225 u226 u227 u228 u229 u230 u231 u232 u233 u234 u235 u236 u237 u238 u239 u240 u241 u242 u243 u244 u245 u246 u247 u248 u249 u250 u251 u252 u253 u254 u255 u256 u257 u258 u259 u260 u261 u262 u263 u264 u265 u266 : Value}
    (HX : Hid (L.live ++ L.kept = xs)) (hj : j < n) (hn : n ≤ 1000) (HN : Hid (xs.length = n)) (HB : Hid (Bnd xs)) (HAp : Hid (∀ i (hi : i < xs.length), i < j → Apart xs[i] (t1, t2)))
    (ht : 1 ≤ t1 ∧ 1 ≤ t2 ∧ t2 ≤ 1048576 ∧ t1 ≤ 1000000000000)
    (HS : Hid (Sto wb p b s c S L [(x, pl24 p b pr q), (q, qlo pr s c), (pr, rs0)] vw vk (.slice (some ⟨g, o, none⟩) n cpa) W ∧ W.cell? ⟨Bq, 0, none⟩ = some (.int .i64 t1) ∧ W.cell? ⟨Bq, 1, none⟩ = some (.int .i64 t2)))
    (hQ : ∀ (c4 c23 c213 c214 c215 c216 c217 c218 c219 c220 c221 c222 c223 c224 c225 c226 c227 c228 c229 c230 c231 c232 c233 c234 c235 : Value) (W' : World), Sto wb p b s c S L [(x, pl24 p b pr q), (q, qlo pr s c), (pr, rs0)] vw vk (.slice (some ⟨g, o, none⟩) n cpa) W' →
      Q .normal ⟨#[u0, u1, u2, u3, c4, u5, u6, u7, u8, u9, u10, u11, u12, u13, u14, u15, u16, u17, u18, .pointer (some ⟨Bq, 0, none⟩), u20, u21, u22, c23, u24, u25, u26, u27, u28, u29, u30, u31, u32, u33, u34, u35, u36, u37, u38, u39, u40, u41, u42, u43, u44, u45, u46, u47, u48, u49, u50, u51, u52, u53, u54, u55, u56, u57, u58, u59, u60, u61, u62, u63, u64, u65, u66, u67, u68, u69, u70, u71, u72, u73, u74, u75, u76, u77, u78, u79, u80, u81, u82, u83, u84, u85, u86, u87, u88, u89, u90, u91, u92, u93, u94, u95, u96, u97, u98, u99, u100, u101, u102, u103, u104, u105, u106, u107, u108, u109, u110, u111, u112, u113, u114, u115, u116, u117, u118, u119, u120, u121, u122, u123, u124, u125, u126, u127, u128, u129, u130, u131, u132, u133, u134, u135, u136, u137, u138, u139, u140, u141, u142, u143, u144, u145, u146, u147, u148, u149, u150, u151, u152, u153, u154, u155, u156, u157, u158, u159, u160, u161, u162, u163, u164, u165, u166, u167, u168, u169, u170, u171, u172, u173, u174, u175, u176, u177, u178, u179, u180, u181, u182, u183, u184, u185, u186, u187, u188, u189, u190, u191, u192, u193, u194, u195, u196, u197, u198, u199, u200, u201, u202, u203, u204, u205, u206, u207, u208, u209, u210, .slice (some ⟨g, o, none⟩) j cpa, .int .i64 j, c213, c214, c215, c216, c217, c218, c219, c220, c221, c222, c223, c224, c225, c226, c227, c228, c229, c230, c231, c232, c233, c234, c235, u236, u237, u238, u239, u240, u241, u242, u243, u244, u245, u246, u247, u248, u249, u250, u251, u252, u253, u254, u255, u256, u257, u258, u259, u260, u261, u262, u263, u264, u265, u266], []⟩ W') :
    Code.wp Try.prog sob5 Q ⟨#[u0, u1, u2, u3, u4, u5, u6, u7, u8, u9, u10, u11, u12, u13, u14, u15, u16, u17, u18, .pointer (some ⟨Bq, 0, none⟩), u20, u21, u22, u23, u24, u25, u26, u27, u28, u29, u30, u31, u32, u33, u34, u35, u36, u37, u38, u39, u40, u41, u42, u43, u44, u45, u46, u47, u48, u49, u50, u51, u52, u53, u54, u55, u56, u57, u58, u59, u60, u61, u62, u63, u64, u65, u66, u67, u68, u69, u70, u71, u72, u73, u74, u75, u76, u77, u78, u79, u80, u81, u82, u83, u84, u85, u86, u87, u88, u89, u90, u91, u92, u93, u94, u95, u96, u97, u98, u99, u100, u101, u102, u103, u104, u105, u106, u107, u108, u109, u110, u111, u112, u113, u114, u115, u116, u117, u118, u119, u120, u121, u122, u123, u124, u125, u126, u127, u128, u129, u130, u131, u132, u133, u134, u135, u136, u137, u138, u139, u140, u141, u142, u143, u144, u145, u146, u147, u148, u149, u150, u151, u152, u153, u154, u155, u156, u157, u158, u159, u160, u161, u162, u163, u164, u165, u166, u167, u168, u169, u170, u171, u172, u173, u174, u175, u176, u177, u178, u179, u180, u181, u182, u183, u184, u185, u186, u187, u188, u189, u190, u191, u192, u193, u194, u195, u196, u197, u198, u199, u200, u201, u202, u203, u204, u205, u206, u207, u208, u209, u210, .slice (some ⟨g, o, none⟩) j cpa, .int .i64 j, .int .i64 0, u214, u215, u216, u217, u218, u219, u220, u221, u222, u223, u224, u225, u226, u227, u228, u229, u230, u231, u232, u233, u234, u235, u236, u237, u238, u239, u240, u241, u242, u243, u244, u245, u246, u247, u248, u249, u250, u251, u252, u253, u254, u255, u256, u257, u258, u259, u260, u261, u262, u263, u264, u265, u266], []⟩ W := by
  have HQ := Hid.mk hQ
  clear hQ
  obtain ⟨ht1, ht2, ht3, ht4⟩ := ht
  conv => arg 2; whnf
  go_wp2_with fail
  go_loopw [213] (fun i wr => ∃ k : Nat, i = .int .i64 k ∧ k ≤ j ∧ Hid (Sto wb p b s c S L [(x, pl24 p b pr q), (q, qlo pr s c), (pr, rs0)] vw vk (.slice (some ⟨g, o, none⟩) n cpa) wr ∧ wr.cell? ⟨Bq, 0, none⟩ = some (.int .i64 t1) ∧ wr.cell? ⟨Bq, 1, none⟩ = some (.int .i64 t2))) (fun i _ => j - (intOf i).toNat)
  case atStart => exact ⟨0, rfl, by omega, HS⟩
  case round =>
    clear HS
    obtain ⟨k, rfl, hk, HS⟩ := hrel
    by_cases hkj : k < j
    · have hk1 : k < xs.length := by have := HN.out; omega
      obtain ⟨d1, d2, d3⟩ := sto_cells HX.out HS.out.1 hk1
      obtain ⟨b1, b2, b3, b4⟩ := HB.out k hk1
      have hap := HAp.out k hk1 hkj
      obtain ⟨⟨y1, y2⟩, hy⟩ : ∃ y, xs[k] = y := ⟨_, rfl⟩
      rw [hy] at d1 d2 b1 b2 b3 b4 hap
      simp only [Apart] at d1 d2 b1 b2 b3 b4 hap
      have hal : Below wr.heap.size wr (wr.alloc (.cells #[.int .i64 y1, .int .i64 y2] 39)) := (Below.refl _ _).alloc (Nat.le_refl _) _
      have HS' := Hid.mk (HS.out.1.keep hal)
      have q0 := keep_be hal HS.out.2.1
      have q1 := keep_be hal HS.out.2.2
      have e0 := HS.out.2.1
      have e1 := HS.out.2.2
      have w1 : IntKind.i64.wrap (y1 + y2) = y1 + y2 := by rw [IntKind.wrap_i64]; omega
      have w2 : IntKind.i64.wrap (t1 + t2) = t1 + t2 := by rw [IntKind.wrap_i64]; omega
      have HQ01 := Hid.mk (And.intro q0 q1)
      clear hy hk1 hal
      by_cases hlt : t1 < y1 + y2
      · have z1 : decide (t1 < y1 + y2) = true := by simpa using hlt
        have z2 : decide (y1 < t1 + t2) = false := by simp; omega
        go_wp2_with fail
        exact ⟨⟨k + 1, by go_num, by omega, HS'.out, HQ01.out⟩, by simp [intOf]; omega⟩
      · have z1 : decide (t1 < y1 + y2) = false := by simpa using hlt
        go_wp2_with fail
        exact ⟨⟨k + 1, by go_num, by omega, HS'.out, HQ01.out⟩, by simp [intOf]; omega⟩
    · obtain rfl : k = j := by omega
      go_wp2_with fail
      exact HQ.out _ _ _ _ _ _ _ _ _ _ _ _ _ _ _ _ _ _ _ _ _ _ _ _ _ _ HS.out.1

noncomputable def sob3 : Code := pieceOf (Try.f7.body.getD .skip) [1, 1, 1, 1, 1, 0, 1, 0, 0, 1, 1, 0, 0, 1, 1, 1, 1, 1, 0, 1]
set_option maxRecDepth 100000 in
set_option maxHeartbeats 4000000 in
theorem so3 {wb W : World} {x p b pr q : Nat} {s c : Int} {S : Sp} {L : Lk} {vw vk : Value} {ao : Option Addr} {n cpa k : Nat} {xs : List (Int × Int)} {Q : Exit → Act → World → Prop} {u0 u1 u2 u3 u4 u5 u7 u8 u9 u10 u11 u12 u13 u14 u15 u16 u18 u19 u20 u21 u22 u23 u24 u25 u26 u27 u28 u29 u30 u31 u32 u33 u34 u35 u36 u37 u38 u39 u40 u41 u42 u43 u44 u45 u46 u47 u48 u49 u50 u51 u52 u53 u54 u55 u56 u57 u58 u59 u60 u61 u62 u63 u64 u65 u66 u67 u68 u69 u70 u71 u72 u73 u74 u75 u76 u77 u78 u79 u80 u81 u82 u83 u84 u85 u86 u87 u88 u89 u90 u91 u92 u93 u94 u95 u96 u97 u98 u99 u100 u101 u102 u103 u104 u105 u106 u107 u108 u109 u110 u111 u112 u113 u114 u115 u116 u117 u118 u119 u120 u121 u122 u123 u124 u125 u126 u127 u128 u129 u130 u131 u132 u133 u134 u135 u136 u137 u138 u139 u140 u141 u142 u143 u144 u145 u146 u147 u148 u149 u150 u151 u152 u153 u154 u155 u156 u157 u158 u159 u160 u161 u162 u163 u164 u165 u166 u167 u168 u169 u170 u171 u172 u173 u174 u175 u176 u177 u178 u179 u180 u181 u182 u183 u184 u188 u189 u190 u191 u192 u193 u194 u195 u196 u197 u198 u199 u200 u201 u202 u203 u204 u205 u206 u207 u208 u209 u210 u211 u212 u213 u214 u215 u216 u217 u218 u219 u220 u221 u222 u223 u224 u225 u226 u227 u228 u229 u230 u231 u232 u233 u234 u235 u236 u237 u238 u239 u240 u241 u242 u243 u244 u245 u246 u247 u248 u249 u250 u251 u252 u253 u254 u255 u256 u257 u258 u259 u260 u261 u262 u263 u264 u265 u266 : Value}
    (HX : Hid (L.live ++ L.kept = xs)) (hn : n ≤ 1000) (hcap : n ≤ cpa) (HN : Hid (xs.length = n)) (HI : Hid (SInv S L s c ∧ Spok S ∧ S.last ≤ 65540 * (k : Int))) (hk : k ≤ 100)
    (HS : Hid (Sto wb p b s c S L [(x, pl24 p b pr q), (q, qlo pr s c), (pr, rs0)] vw vk (.slice ao n cpa) W))
    (hQ : ∀ (c4 c18 c19 c20 c21 c23 c187 c188 c189 c190 c191 c192 c193 c194 c195 c196 c197 c198 c199 c200 c201 c202 c203 c204 c205 c206 c207 c208 c209 c210 c211 c212 c213 c214 c215 c216 c217 c218 c219 c220 c221 c222 c223 c224 c225 c226 c227 c228 c229 c230 c231 c232 c233 c234 c235 c236 : Value) (W' : World), Sto wb p b s c S L [(x, pl24 p b pr q), (q, qlo pr s c), (pr, rs0)] vw vk (.slice ao n cpa) W' →
      Q .normal ⟨#[u0, u1, u2, u3, c4, u5, .pointer (some ⟨x, 0, none⟩), u7, u8, u9, u10, u11, u12, u13, u14, u15, u16, .slice ao n cpa, c18, c19, c20, c21, u22, c23, u24, u25, u26, u27, u28, u29, u30, u31, u32, u33, u34, u35, u36, u37, u38, u39, u40, u41, u42, u43, u44, u45, u46, u47, u48, u49, u50, u51, u52, u53, u54, u55, u56, u57, u58, u59, u60, u61, u62, u63, u64, u65, u66, u67, u68, u69, u70, u71, u72, u73, u74, u75, u76, u77, u78, u79, u80, u81, u82, u83, u84, u85, u86, u87, u88, u89, u90, u91, u92, u93, u94, u95, u96, u97, u98, u99, u100, u101, u102, u103, u104, u105, u106, u107, u108, u109, u110, u111, u112, u113, u114, u115, u116, u117, u118, u119, u120, u121, u122, u123, u124, u125, u126, u127, u128, u129, u130, u131, u132, u133, u134, u135, u136, u137, u138, u139, u140, u141, u142, u143, u144, u145, u146, u147, u148, u149, u150, u151, u152, u153, u154, u155, u156, u157, u158, u159, u160, u161, u162, u163, u164, u165, u166, u167, u168, u169, u170, u171, u172, u173, u174, u175, u176, u177, u178, u179, u180, u181, u182, u183, u184, .slice ao n cpa, .int .i64 n, c187, c188, c189, c190, c191, c192, c193, c194, c195, c196, c197, c198, c199, c200, c201, c202, c203, c204, c205, c206, c207, c208, c209, c210, c211, c212, c213, c214, c215, c216, c217, c218, c219, c220, c221, c222, c223, c224, c225, c226, c227, c228, c229, c230, c231, c232, c233, c234, c235, c236, u237, u238, u239, u240, u241, u242, u243, u244, u245, u246, u247, u248, u249, u250, u251, u252, u253, u254, u255, u256, u257, u258, u259, u260, u261, u262, u263, u264, u265, u266], []⟩ W') :
    Code.wp Try.prog sob3 Q ⟨#[u0, u1, u2, u3, u4, u5, .pointer (some ⟨x, 0, none⟩), u7, u8, u9, u10, u11, u12, u13, u14, u15, u16, .slice ao n cpa, u18, u19, u20, u21, u22, u23, u24, u25, u26, u27, u28, u29, u30, u31, u32, u33, u34, u35, u36, u37, u38, u39, u40, u41, u42, u43, u44, u45, u46, u47, u48, u49, u50, u51, u52, u53, u54, u55, u56, u57, u58, u59, u60, u61, u62, u63, u64, u65, u66, u67, u68, u69, u70, u71, u72, u73, u74, u75, u76, u77, u78, u79, u80, u81, u82, u83, u84, u85, u86, u87, u88, u89, u90, u91, u92, u93, u94, u95, u96, u97, u98, u99, u100, u101, u102, u103, u104, u105, u106, u107, u108, u109, u110, u111, u112, u113, u114, u115, u116, u117, u118, u119, u120, u121, u122, u123, u124, u125, u126, u127, u128, u129, u130, u131, u132, u133, u134, u135, u136, u137, u138, u139, u140, u141, u142, u143, u144, u145, u146, u147, u148, u149, u150, u151, u152, u153, u154, u155, u156, u157, u158, u159, u160, u161, u162, u163, u164, u165, u166, u167, u168, u169, u170, u171, u172, u173, u174, u175, u176, u177, u178, u179, u180, u181, u182, u183, u184, .slice ao n cpa, .int .i64 n, .int .i64 0, u188, u189, u190, u191, u192, u193, u194, u195, u196, u197, u198, u199, u200, u201, u202, u203, u204, u205, u206, u207, u208, u209, u210, u211, u212, u213, u214, u215, u216, u217, u218, u219, u220, u221, u222, u223, u224, u225, u226, u227, u228, u229, u230, u231, u232, u233, u234, u235, u236, u237, u238, u239, u240, u241, u242, u243, u244, u245, u246, u247, u248, u249, u250, u251, u252, u253, u254, u255, u256, u257, u258, u259, u260, u261, u262, u263, u264, u265, u266], []⟩ W := by
  have HQ := Hid.mk hQ
  clear hQ
  conv => arg 2; whnf
  go_wp2_with fail
  go_loopw [187] (fun i wr => ∃ j : Nat, i = .int .i64 j ∧ j ≤ n ∧ Hid (Sto wb p b s c S L [(x, pl24 p b pr q), (q, qlo pr s c), (pr, rs0)] vw vk (.slice ao n cpa) wr)) (fun i _ => n - (intOf i).toNat)
  case atStart => exact ⟨0, rfl, by omega, HS⟩
  case round =>
    clear HS
    obtain ⟨j, rfl, hj, HS⟩ := hrel
    by_cases hjl : j < n
    · have hj1 : j < xs.length := by have := HN.out; omega
      obtain ⟨g, o, ca2, ev, -⟩ := HS.out.2.2.some (by rw [HX.out]; omega)
      simp only [Value.slice.injEq] at ev
      obtain ⟨rfl, -, -⟩ := ev
      have hap := HI.out.1.apart HI.out.2.1
      rw [HX.out] at hap
      have hof : ∀ x ∈ xs, 1 ≤ x.1 ∧ 1 ≤ x.2 ∧ x.2 ≤ 1048576 ∧ x.1 + x.2 ≤ S.last + 1 ∧ S.of x.1 = (x, true) := fun x hx => HI.out.1.of HI.out.2.1 (by rw [HX.out]; exact hx)
      have hlast := HI.out.2.2
      have HB : Hid (Bnd xs) := fun i hi => by have := hof _ (List.getElem_mem hi); omega
      obtain ⟨f1, f2, f3, f4, f5⟩ := hof _ (List.getElem_mem hj1)
      obtain ⟨d1, d2, d3⟩ := sto_cells HX.out HS.out hj1
      obtain ⟨⟨t1, t2⟩, ht⟩ : ∃ t, xs[j] = t := ⟨_, rfl⟩
      have HAp : Hid (∀ i (hi : i < xs.length), i < j → Apart xs[i] (t1, t2)) := fun i hi hij => by
        rw [← ht]
        exact List.pairwise_iff_getElem.1 hap i j hi hj1 hij
      rw [ht] at f1 f2 f3 f4 f5 d1 d2
      simp only at f1 f2 f3 f4 f5 d1 d2
      have hal : Below wr.heap.size wr (wr.alloc (.cells #[.int .i64 t1, .int .i64 t2] 39)) := (Below.refl _ _).alloc (Nat.le_refl _) _
      have hSX := HS.out.keep hal
      have q0 : (wr.alloc (.cells #[.int .i64 t1, .int .i64 t2] 39)).cell? ⟨wr.heap.size, 0, none⟩ = some (.int .i64 t1) := by simp
      have q1 : (wr.alloc (.cells #[.int .i64 t1, .int .i64 t2] 39)).cell? ⟨wr.heap.size, 1, none⟩ = some (.int .i64 t2) := by simp
      obtain ⟨X, hX⟩ : ∃ X, wr.alloc (.cells #[.int .i64 t1, .int .i64 t2] 39) = X := ⟨_, rfl⟩
      obtain ⟨Bq, hBq⟩ : ∃ Bq, wr.heap.size = Bq := ⟨_, rfl⟩
      have HXB := Hid.mk (And.intro hX hBq)
      rw [hX] at hSX q0 q1
      rw [hBq] at q0 q1
      have x0 := hSX.1.box (B := x) (j := 0) (List.Mem.head _) rfl
      have HSX := Hid.mk hSX
      have HF := Hid.mk (And.intro f1 (And.intro f2 (And.intro f3 f4)))
      have HF5 := Hid.mk f5
      have hl2 : S.last ≤ 6554000 := by omega
      clear ht hj1 hX hBq hal hSX hap hof f1 f2 f3 f4 hlast
      go_upto_region 33 with (fail)
      rw [HXB.out.1, HXB.out.2]
      go_cut [20, 21] from 188 to 236 (fun r e W => Hid (e = .bool true ∧ Got2 X (t1, t2) r W))
      case first =>
        clear d1 d2 d3
        have b0 := ((HSX.out.keep ((Below.refl _ _).alloc (Nat.le_refl _) (.cells #[.int .i64 0, .int .i64 0] 39))).keep (Below.refl _ _).drew).1.seg
        have c0 := (HSX.out.keep (Below.refl _ _).drew).1.seg
        have hxl : x < X.heap.size := cell_lt x0
        have hql : Bq < X.heap.size := cell_lt q0
        have h1q : (⟨X.heap.size, 0, none⟩ : Addr).block ≠ (⟨x, 0, none⟩ : Addr).block := by simp; omega
        have h1b : (⟨X.heap.size, 0, none⟩ : Addr).block ≠ (⟨Bq, 0, none⟩ : Addr).block := by simp; omega
        go_region_held3 (fun W' => W'.cell? ⟨x, 0, none⟩ = some (.pointer (some ⟨p, 0, none⟩)) ∧ W'.cell? ⟨Bq, 0, none⟩ = some (.int .i64 t1)) (first | exact ⟨set_far (set_far g2 h1q) h1q, set_far (set_far g3 h1b) h1b⟩ | exact ⟨alloc_cell g2, alloc_cell g3⟩ | exact ⟨g2, g3⟩ | exact ⟨x0, q0⟩ | exact ⟨alloc_cell x0, alloc_cell q0⟩) (first | (go_at_call 15; refine (of_seg (w := wb) (p := p) (b := b) (sz := s) (ca := c) (S := S) (L := L) (E := [(x, pl24 p b pr q), (q, qlo pr s c), (pr, rs0)]) ?_ t1 f5).mono ?_; exact b0; rintro e wx ⟨hbx, rfl⟩; have g2 := keep_dr hbx (alloc_cell x0); have g3 := keep_dr hbx (alloc_cell q0); have hbz := below_at (undrew hbx) (heap_alloc_new X _) (by simp); have z0 := cell_of_row wx X.heap.size 0 _ _ _ hbz; have z1 := cell_of_row wx X.heap.size 1 _ _ _ hbz; have z2 := frozen_of_row wx X.heap.size 0 _ _ hbz; have z3 := frozen_of_row wx X.heap.size 1 _ _ hbz; have HG := Hid.mk (got2_first (y := (t1, t2)) (undrew hbx))) | (go_at_call 15; refine (of_seg (w := wb) (p := p) (b := b) (sz := s) (ca := c) (S := S) (L := L) (E := [(x, pl24 p b pr q), (q, qlo pr s c), (pr, rs0)]) ?_ t1 f5).mono ?_; exact c0; rintro e wx ⟨hbx, rfl⟩; have g2 := keep_dr hbx x0; have g3 := keep_dr hbx q0; have HG := Hid.mk (got2_second (y := (t1, t2)) 39 (undrew hbx))))
        all_goals
          go_wp2_with fail
          go_meet
          case rel => exact ⟨rfl, HG.out⟩
      case rest =>
        obtain ⟨rfl, B2, rfl, r0, r1, hbX⟩ := hcut.out
        clear hcut d1 d2 d3 x0 f5
        have HQ' := Hid.mk (And.intro (HSX.out.keep hbX) (And.intro (keep_be hbX q0) (keep_be hbX q1)))
        have q0 := keep_be hbX q0
        have q1 := keep_be hbX q1
        clear hbX HSX
        have hjc : j ≤ cpa := by omega
        go_upto_block 5 with (fail)
        refine so5 (t1 := t1) (t2 := t2) HX hjl hn HN HB HAp (by have := HF.out; omega) HQ' ?_
        intro c4 c23 c213 c214 c215 c216 c217 c218 c219 c220 c221 c222 c223 c224 c225 c226 c227 c228 c229 c230 c231 c232 c233 c234 c235 W' h
        have HW := Hid.mk h
        clear h
        go_wp2_with fail
        exact ⟨⟨j + 1, by go_num, by omega, HW.out⟩, by simp [intOf]; omega⟩
    · obtain rfl : j = n := by omega
      go_wp2_with fail
      exact HQ.out _ _ _ _ _ _ _ _ _ _ _ _ _ _ _ _ _ _ _ _ _ _ _ _ _ _ _ _ _ _ _ _ _ _ _ _ _ _ _ _ _ _ _ _ _ _ _ _ _ _ _ _ _ _ _ _ _ HS.out
end Go.Proofs.Ytkooogllajmkeaa
/- SegmentOrder's loops over what is kept: it is empty. -/
namespace Go.Proofs.Ytkooogllajmkeaa
open Go.RowKit
set_option pp.deepTerms true
attribute [local go_sem ↓] Go.wp_at_zero Go.wp_at_succ
theorem Got2.bel {X W : World} {y : Int × Int} {r : Value} (h : Got2 X y r W) : Below X.heap.size X W := let ⟨_, _, _, _, q⟩ := h; q
noncomputable def sob9 : Code := pieceOf (Try.f7.body.getD .skip) [1, 1, 1, 1, 1, 0, 1, 0, 0, 1, 1, 0, 0, 1, 1, 1, 1, 1, 1, 1, 0, 0, 1, 1, 0, 0, 1, 1]
set_option maxRecDepth 100000 in
set_option maxHeartbeats 4000000 in
theorem so9 {wb W : World} {x p b pr q : Nat} {s c : Int} {S : Sp} {L : Lk} {vw vk va : Value} {Br : Nat} {t1 t2 : Int} {Q : Exit → Act → World → Prop} {u0 u1 u2 u3 u4 u5 u7 u8 u9 u10 u11 u12 u13 u14 u15 u16 u17 u18 u19 u20 u21 u22 u23 u24 u27 u28 u29 u30 u31 u32 u33 u34 u35 u36 u37 u38 u39 u40 u41 u42 u43 u44 u45 u46 u47 u48 u49 u50 u51 u52 u53 u54 u55 u56 u57 u58 u59 u60 u61 u62 u63 u64 u65 u66 u67 u68 u69 u70 u71 u72 u73 u74 u75 u76 u77 u78 u79 u80 u81 u82 u83 u84 u85 u86 u87 u88 u89 u90 u91 u92 u93 u94 u95 u96 u97 u98 u99 u100 u101 u102 u103 u104 u105 u106 u107 u108 u109 u110 u111 u112 u113 u114 u115 u116 u117 u118 u119 u120 u121 u122 u123 u124 u125 u126 u127 u128 u129 u130 u131 u132 u133 u134 u135 u136 u137 u138 u139 u140 u141 u142 u143 u144 u145 u146 u147 u148 u149 u150 u151 u152 u153 u154 u155 u156 u157 u158 u159 u160 u161 u162 u163 u164 u165 u166 u167 u168 u169 u170 u171 u172 u173 u174 u175 u176 u177 u178 u179 u180 u181 u182 u183 u184 u185 u186 u187 u188 u189 u190 u191 u192 u193 u194 u195 u196 u197 u198 u199 u200 u201 u202 u203 u204 u205 u206 u207 u208 u209 u210 u211 u212 u213 u214 u215 u216 u217 u218 u219 u220 u221 u222 u223 u224 u225 u226 u227 u228 u229 u230 u231 u232 u233 u234 u235 u236 u237 u238 u239 u240 u241 u242 u243 u244 u245 u246 u247 u248 u249 u250 u251 u252 u253 u254 u255 u256 u257 u258 u259 u260 u261 u262 u263 u264 u265 u266 : Value}
    (HE : Hid (∀ j : Nat, (j : Int) < t2 → S.get (t1 + j) = ((0, 0), 212)))
    (ht : 1 ≤ t1 ∧ 1 ≤ t2 ∧ t2 ≤ 1048576 ∧ t1 ≤ 1000000000000)
    (HS : Hid (Sto wb p b s c S L [(x, pl24 p b pr q), (q, qlo pr s c), (pr, rs0)] vw vk va W ∧ W.cell? ⟨Br, 0, none⟩ = some (.int .i64 t1) ∧ W.cell? ⟨Br, 1, none⟩ = some (.int .i64 t2)))
    (hQ : ∀ (c4 c26 c27 c28 c243 c244 c245 c246 c247 c248 c249 c250 c251 c252 c253 c254 c255 c256 c257 c258 c259 c260 c261 c262 c263 : Value) (W' : World), Sto wb p b s c S L [(x, pl24 p b pr q), (q, qlo pr s c), (pr, rs0)] vw vk va W' →
      Q .normal ⟨#[u0, u1, u2, u3, c4, u5, .pointer (some ⟨x, 0, none⟩), u7, u8, u9, u10, u11, u12, u13, u14, u15, u16, u17, u18, u19, u20, u21, u22, u23, u24, .pointer (some ⟨Br, 0, none⟩), c26, c27, c28, u29, u30, u31, u32, u33, u34, u35, u36, u37, u38, u39, u40, u41, u42, u43, u44, u45, u46, u47, u48, u49, u50, u51, u52, u53, u54, u55, u56, u57, u58, u59, u60, u61, u62, u63, u64, u65, u66, u67, u68, u69, u70, u71, u72, u73, u74, u75, u76, u77, u78, u79, u80, u81, u82, u83, u84, u85, u86, u87, u88, u89, u90, u91, u92, u93, u94, u95, u96, u97, u98, u99, u100, u101, u102, u103, u104, u105, u106, u107, u108, u109, u110, u111, u112, u113, u114, u115, u116, u117, u118, u119, u120, u121, u122, u123, u124, u125, u126, u127, u128, u129, u130, u131, u132, u133, u134, u135, u136, u137, u138, u139, u140, u141, u142, u143, u144, u145, u146, u147, u148, u149, u150, u151, u152, u153, u154, u155, u156, u157, u158, u159, u160, u161, u162, u163, u164, u165, u166, u167, u168, u169, u170, u171, u172, u173, u174, u175, u176, u177, u178, u179, u180, u181, u182, u183, u184, u185, u186, u187, u188, u189, u190, u191, u192, u193, u194, u195, u196, u197, u198, u199, u200, u201, u202, u203, u204, u205, u206, u207, u208, u209, u210, u211, u212, u213, u214, u215, u216, u217, u218, u219, u220, u221, u222, u223, u224, u225, u226, u227, u228, u229, u230, u231, u232, u233, u234, u235, u236, u237, u238, u239, u240, u241, u242, c243, c244, c245, c246, c247, c248, c249, c250, c251, c252, c253, c254, c255, c256, c257, c258, c259, c260, c261, c262, c263, u264, u265, u266], []⟩ W') :
    Code.wp Try.prog sob9 Q ⟨#[u0, u1, u2, u3, u4, u5, .pointer (some ⟨x, 0, none⟩), u7, u8, u9, u10, u11, u12, u13, u14, u15, u16, u17, u18, u19, u20, u21, u22, u23, u24, .pointer (some ⟨Br, 0, none⟩), .int .i64 0, u27, u28, u29, u30, u31, u32, u33, u34, u35, u36, u37, u38, u39, u40, u41, u42, u43, u44, u45, u46, u47, u48, u49, u50, u51, u52, u53, u54, u55, u56, u57, u58, u59, u60, u61, u62, u63, u64, u65, u66, u67, u68, u69, u70, u71, u72, u73, u74, u75, u76, u77, u78, u79, u80, u81, u82, u83, u84, u85, u86, u87, u88, u89, u90, u91, u92, u93, u94, u95, u96, u97, u98, u99, u100, u101, u102, u103, u104, u105, u106, u107, u108, u109, u110, u111, u112, u113, u114, u115, u116, u117, u118, u119, u120, u121, u122, u123, u124, u125, u126, u127, u128, u129, u130, u131, u132, u133, u134, u135, u136, u137, u138, u139, u140, u141, u142, u143, u144, u145, u146, u147, u148, u149, u150, u151, u152, u153, u154, u155, u156, u157, u158, u159, u160, u161, u162, u163, u164, u165, u166, u167, u168, u169, u170, u171, u172, u173, u174, u175, u176, u177, u178, u179, u180, u181, u182, u183, u184, u185, u186, u187, u188, u189, u190, u191, u192, u193, u194, u195, u196, u197, u198, u199, u200, u201, u202, u203, u204, u205, u206, u207, u208, u209, u210, u211, u212, u213, u214, u215, u216, u217, u218, u219, u220, u221, u222, u223, u224, u225, u226, u227, u228, u229, u230, u231, u232, u233, u234, u235, u236, u237, u238, u239, u240, u241, u242, u243, u244, u245, u246, u247, u248, u249, u250, u251, u252, u253, u254, u255, u256, u257, u258, u259, u260, u261, u262, u263, u264, u265, u266], []⟩ W := by
  have HQ := Hid.mk hQ
  clear hQ
  obtain ⟨ht1, ht2, ht3, ht4⟩ := ht
  conv => arg 2; whnf
  go_wp2_with fail
  go_loopw [26] (fun i wr => ∃ k : Nat, i = .int .i64 k ∧ (k : Int) ≤ t2 ∧ k ≤ 300 ∧ Hid (Sto wb p b s c S L [(x, pl24 p b pr q), (q, qlo pr s c), (pr, rs0)] vw vk va wr ∧ wr.cell? ⟨Br, 0, none⟩ = some (.int .i64 t1) ∧ wr.cell? ⟨Br, 1, none⟩ = some (.int .i64 t2))) (fun i _ => 300 - (intOf i).toNat)
  case atStart => exact ⟨0, rfl, by omega, by omega, HS⟩
  case round =>
    clear HS
    obtain ⟨k, rfl, hk, hk3, HS⟩ := hrel
    have e0 := HS.out.2.1
    have e1 := HS.out.2.2
    by_cases hkt : (k : Int) < t2 ∧ k < 300
    · obtain ⟨hk1, hk2⟩ := hkt
      have hg := HE.out k hk1
      have HG := Hid.mk hg
      clear hg
      have wk : IntKind.i64.wrap (t1 + (k : Int)) = t1 + (k : Int) := by rw [IntKind.wrap_i64]; omega
      have z1 : decide ((k : Int) < t2) = true := by simpa using hk1
      have z2 : decide ((k : Int) < 300) = true := by simp; omega
      have x0 := HS.out.1.1.box (B := x) (j := 0) (List.Mem.head _) rfl
      have hxl : x < wr.heap.size := cell_lt x0
      have hql : Br < wr.heap.size := cell_lt e0
      have h1q : (⟨wr.heap.size, 0, none⟩ : Addr).block ≠ (⟨x, 0, none⟩ : Addr).block := by simp; omega
      have h1b : (⟨wr.heap.size, 0, none⟩ : Addr).block ≠ (⟨Br, 0, none⟩ : Addr).block := by simp; omega
      have b0 := ((HS.out.1.keep ((Below.refl _ _).alloc (Nat.le_refl _) (.cells #[.int .i64 0, .int .i64 0] 29))).keep (Below.refl _ _).drew).1.seg
      have c0 := (HS.out.1.keep (Below.refl _ _).drew).1.seg
      by_cases h3 : 300 < t2
      all_goals
        go_upto_region 49 with (fail)
        go_region_held3 (fun W' => W'.cell? ⟨x, 0, none⟩ = some (.pointer (some ⟨p, 0, none⟩)) ∧ W'.cell? ⟨Br, 0, none⟩ = some (.int .i64 t1)) (first | exact ⟨set_far (set_far g2 h1q) h1q, set_far (set_far g3 h1b) h1b⟩ | exact ⟨alloc_cell g2, alloc_cell g3⟩ | exact ⟨g2, g3⟩ | exact ⟨x0, e0⟩ | exact ⟨alloc_cell x0, alloc_cell e0⟩) (first | (go_at_call 19; refine (get_seg (w := wb) (p := p) (b := b) (sz := s) (ca := c) (S := S) (L := L) (E := [(x, pl24 p b pr q), (q, qlo pr s c), (pr, rs0)]) ?_ (t1 + (k : Int)) HG.out).mono ?_; exact b0; rintro e wx ⟨hbx, rfl⟩; have g2 := keep_dr hbx (alloc_cell x0); have g3 := keep_dr hbx (alloc_cell e0); have hbz := below_at (undrew hbx) (heap_alloc_new wr _) (by simp); have z0 := cell_of_row wx wr.heap.size 0 _ _ _ hbz; have z1 := cell_of_row wx wr.heap.size 1 _ _ _ hbz; have z2 := frozen_of_row wx wr.heap.size 0 _ _ hbz; have z3 := frozen_of_row wx wr.heap.size 1 _ _ hbz; have HR := Hid.mk (got2_first (y := (0, 0)) (undrew hbx)).bel) | (go_at_call 19; refine (get_seg (w := wb) (p := p) (b := b) (sz := s) (ca := c) (S := S) (L := L) (E := [(x, pl24 p b pr q), (q, qlo pr s c), (pr, rs0)]) ?_ (t1 + (k : Int)) HG.out).mono ?_; exact c0; rintro e wx ⟨hbx, rfl⟩; have g2 := keep_dr hbx x0; have g3 := keep_dr hbx e0; have HR := Hid.mk (got2_second (y := (0, 0)) 29 (undrew hbx)).bel))
        all_goals
          have HF := Hid.mk (And.intro (HS.out.1.keep HR.out) (And.intro (keep_be HR.out e0) (keep_be HR.out e1)))
          clear g2 g3
          go_wp2_with fail
          exact ⟨⟨k + 1, by go_num, by omega, by omega, HF.out⟩, by simp [intOf]; omega⟩
    · by_cases h3 : 300 < t2
      · have z1 : decide ((k : Int) < 300) = false := by simp; omega
        go_wp2_with fail
        exact HQ.out _ _ _ _ _ _ _ _ _ _ _ _ _ _ _ _ _ _ _ _ _ _ _ _ _ _ HS.out.1
      · have z1 : decide ((k : Int) < t2) = false := by simp; omega
        go_wp2_with fail
        exact HQ.out _ _ _ _ _ _ _ _ _ _ _ _ _ _ _ _ _ _ _ _ _ _ _ _ _ _ HS.out.1
end Go.Proofs.Ytkooogllajmkeaa
/- SegmentOrder's loop over what is kept, whole. -/
namespace Go.Proofs.Ytkooogllajmkeaa
open Go.RowKit
set_option pp.deepTerms true
noncomputable def sob7 : Code := pieceOf (Try.f7.body.getD .skip) [1, 1, 1, 1, 1, 0, 1, 0, 0, 1, 1, 0, 0, 1, 1, 1, 1, 1, 1, 1]
set_option maxRecDepth 100000 in
set_option maxHeartbeats 4000000 in
theorem so7 {wb W : World} {x p b pr q : Nat} {s c : Int} {S : Sp} {L : Lk} {vw va : Value} {ao : Option Addr} {n cpa k : Nat} {Q : Exit → Act → World → Prop} {u0 u1 u2 u3 u4 u5 u7 u8 u9 u10 u11 u12 u13 u14 u15 u17 u18 u19 u20 u21 u22 u23 u24 u25 u26 u27 u28 u29 u30 u31 u32 u33 u34 u35 u36 u37 u38 u39 u40 u41 u42 u43 u44 u45 u46 u47 u48 u49 u50 u51 u52 u53 u54 u55 u56 u57 u58 u59 u60 u61 u62 u63 u64 u65 u66 u67 u68 u69 u70 u71 u72 u73 u74 u75 u76 u77 u78 u79 u80 u81 u82 u83 u84 u85 u86 u87 u88 u89 u90 u91 u92 u93 u94 u95 u96 u97 u98 u99 u100 u101 u102 u103 u104 u105 u106 u107 u108 u109 u110 u111 u112 u113 u114 u115 u116 u117 u118 u119 u120 u121 u122 u123 u124 u125 u126 u127 u128 u129 u130 u131 u132 u133 u134 u135 u136 u137 u138 u139 u140 u141 u142 u143 u144 u145 u146 u147 u148 u149 u150 u151 u152 u153 u154 u155 u156 u157 u158 u159 u160 u161 u162 u163 u164 u165 u166 u167 u168 u169 u170 u171 u172 u173 u174 u175 u176 u177 u178 u179 u180 u181 u182 u183 u184 u185 u186 u187 u188 u189 u190 u191 u192 u193 u194 u195 u196 u197 u198 u199 u200 u201 u202 u203 u204 u205 u206 u207 u208 u209 u210 u211 u212 u213 u214 u215 u216 u217 u218 u219 u220 u221 u222 u223 u224 u225 u226 u227 u228 u229 u230 u231 u232 u233 u234 u235 u236 u240 u241 u242 u243 u244 u245 u246 u247 u248 u249 u250 u251 u252 u253 u254 u255 u256 u257 u258 u259 u260 u261 u262 u263 u264 u265 u266 : Value}
    (hn : n ≤ 1000) (HN : Hid (L.kept.length = n)) (HI : Hid (SInv S L s c ∧ Spok S ∧ S.last ≤ 65540 * (k : Int))) (hk : k ≤ 100)
    (HS : Hid (Sto wb p b s c S L [(x, pl24 p b pr q), (q, qlo pr s c), (pr, rs0)] vw (.slice ao n cpa) va W))
    (hQ : ∀ (c4 c25 c26 c27 c28 c239 c240 c241 c242 c243 c244 c245 c246 c247 c248 c249 c250 c251 c252 c253 c254 c255 c256 c257 c258 c259 c260 c261 c262 c263 c264 : Value) (W' : World), Sto wb p b s c S L [(x, pl24 p b pr q), (q, qlo pr s c), (pr, rs0)] vw (.slice ao n cpa) va W' →
      Q .normal ⟨#[u0, u1, u2, u3, c4, u5, .pointer (some ⟨x, 0, none⟩), u7, u8, u9, u10, u11, u12, u13, u14, u15, .slice ao n cpa, u17, u18, u19, u20, u21, u22, u23, u24, c25, c26, c27, c28, u29, u30, u31, u32, u33, u34, u35, u36, u37, u38, u39, u40, u41, u42, u43, u44, u45, u46, u47, u48, u49, u50, u51, u52, u53, u54, u55, u56, u57, u58, u59, u60, u61, u62, u63, u64, u65, u66, u67, u68, u69, u70, u71, u72, u73, u74, u75, u76, u77, u78, u79, u80, u81, u82, u83, u84, u85, u86, u87, u88, u89, u90, u91, u92, u93, u94, u95, u96, u97, u98, u99, u100, u101, u102, u103, u104, u105, u106, u107, u108, u109, u110, u111, u112, u113, u114, u115, u116, u117, u118, u119, u120, u121, u122, u123, u124, u125, u126, u127, u128, u129, u130, u131, u132, u133, u134, u135, u136, u137, u138, u139, u140, u141, u142, u143, u144, u145, u146, u147, u148, u149, u150, u151, u152, u153, u154, u155, u156, u157, u158, u159, u160, u161, u162, u163, u164, u165, u166, u167, u168, u169, u170, u171, u172, u173, u174, u175, u176, u177, u178, u179, u180, u181, u182, u183, u184, u185, u186, u187, u188, u189, u190, u191, u192, u193, u194, u195, u196, u197, u198, u199, u200, u201, u202, u203, u204, u205, u206, u207, u208, u209, u210, u211, u212, u213, u214, u215, u216, u217, u218, u219, u220, u221, u222, u223, u224, u225, u226, u227, u228, u229, u230, u231, u232, u233, u234, u235, u236, .slice ao n cpa, .int .i64 n, c239, c240, c241, c242, c243, c244, c245, c246, c247, c248, c249, c250, c251, c252, c253, c254, c255, c256, c257, c258, c259, c260, c261, c262, c263, c264, u265, u266], []⟩ W') :
    Code.wp Try.prog sob7 Q ⟨#[u0, u1, u2, u3, u4, u5, .pointer (some ⟨x, 0, none⟩), u7, u8, u9, u10, u11, u12, u13, u14, u15, .slice ao n cpa, u17, u18, u19, u20, u21, u22, u23, u24, u25, u26, u27, u28, u29, u30, u31, u32, u33, u34, u35, u36, u37, u38, u39, u40, u41, u42, u43, u44, u45, u46, u47, u48, u49, u50, u51, u52, u53, u54, u55, u56, u57, u58, u59, u60, u61, u62, u63, u64, u65, u66, u67, u68, u69, u70, u71, u72, u73, u74, u75, u76, u77, u78, u79, u80, u81, u82, u83, u84, u85, u86, u87, u88, u89, u90, u91, u92, u93, u94, u95, u96, u97, u98, u99, u100, u101, u102, u103, u104, u105, u106, u107, u108, u109, u110, u111, u112, u113, u114, u115, u116, u117, u118, u119, u120, u121, u122, u123, u124, u125, u126, u127, u128, u129, u130, u131, u132, u133, u134, u135, u136, u137, u138, u139, u140, u141, u142, u143, u144, u145, u146, u147, u148, u149, u150, u151, u152, u153, u154, u155, u156, u157, u158, u159, u160, u161, u162, u163, u164, u165, u166, u167, u168, u169, u170, u171, u172, u173, u174, u175, u176, u177, u178, u179, u180, u181, u182, u183, u184, u185, u186, u187, u188, u189, u190, u191, u192, u193, u194, u195, u196, u197, u198, u199, u200, u201, u202, u203, u204, u205, u206, u207, u208, u209, u210, u211, u212, u213, u214, u215, u216, u217, u218, u219, u220, u221, u222, u223, u224, u225, u226, u227, u228, u229, u230, u231, u232, u233, u234, u235, u236, .slice ao n cpa, .int .i64 n, .int .i64 0, u240, u241, u242, u243, u244, u245, u246, u247, u248, u249, u250, u251, u252, u253, u254, u255, u256, u257, u258, u259, u260, u261, u262, u263, u264, u265, u266], []⟩ W := by
  have HQ := Hid.mk hQ
  clear hQ
  conv => arg 2; whnf
  go_wp2_with fail
  go_loopw [239] (fun i wr => ∃ j : Nat, i = .int .i64 j ∧ j ≤ n ∧ Hid (Sto wb p b s c S L [(x, pl24 p b pr q), (q, qlo pr s c), (pr, rs0)] vw (.slice ao n cpa) va wr)) (fun i _ => n - (intOf i).toNat)
  case atStart => exact ⟨0, rfl, by omega, HS⟩
  case round =>
    clear HS
    obtain ⟨j, rfl, hj, HS⟩ := hrel
    by_cases hjl : j < n
    · have hj1 : j < L.kept.length := by have := HN.out; omega
      obtain ⟨g, o, ca2, ev, hb, hcl⟩ := HS.out.2.1.some (by omega)
      simp only [Value.slice.injEq] at ev
      obtain ⟨rfl, -, -⟩ := ev
      have hlast := HI.out.2.2
      have hm : L.kept[j] ∈ L.kept := List.getElem_mem hj1
      obtain ⟨f1, f2, f3, f4, -⟩ := HI.out.1.of HI.out.2.1 (List.mem_append.2 (.inr hm))
      obtain ⟨d1, d2⟩ := hcl j hj1
      have HE : Hid (∀ i : Nat, (i : Int) < L.kept[j].2 → S.get (L.kept[j].1 + i) = ((0, 0), 212)) := fun i hi => HI.out.1.empty HI.out.2.1 hm hi
      obtain ⟨⟨t1, t2⟩, ht⟩ : ∃ t, L.kept[j] = t := ⟨_, rfl⟩
      rw [ht] at f1 f2 f3 f4 d1 d2 HE
      simp only at f1 f2 f3 f4 d1 d2 HE
      have hal : Below wr.heap.size wr (wr.alloc (.cells #[.int .i64 t1, .int .i64 t2] 39)) := (Below.refl _ _).alloc (Nat.le_refl _) _
      have HX := Hid.mk (And.intro (HS.out.keep hal) (And.intro (show (wr.alloc (.cells #[.int .i64 t1, .int .i64 t2] 39)).cell? ⟨wr.heap.size, 0, none⟩ = some (.int .i64 t1) by simp) (show (wr.alloc (.cells #[.int .i64 t1, .int .i64 t2] 39)).cell? ⟨wr.heap.size, 1, none⟩ = some (.int .i64 t2) by simp)))
      have hF : 1 ≤ t1 ∧ 1 ≤ t2 ∧ t2 ≤ 1048576 ∧ t1 ≤ 1000000000000 := by omega
      have HF := Hid.mk hF
      clear ht hj1 hal hm hcl f1 f2 f3 f4 hF hlast hb
      go_upto_block 9 with (fail)
      refine so9 (t1 := t1) (t2 := t2) HE HF.out HX ?_
      intro c4 c26 c27 c28 c243 c244 c245 c246 c247 c248 c249 c250 c251 c252 c253 c254 c255 c256 c257 c258 c259 c260 c261 c262 c263 W' h
      have HW := Hid.mk h
      clear h
      go_wp2_with fail
      exact ⟨⟨j + 1, by go_num, by omega, HW.out⟩, by simp [intOf]; omega⟩
    · obtain rfl : j = n := by omega
      go_wp2_with fail
      exact HQ.out _ _ _ _ _ _ _ _ _ _ _ _ _ _ _ _ _ _ _ _ _ _ _ _ _ _ _ _ _ _ _ _ HS.out
end Go.Proofs.Ytkooogllajmkeaa
/- SegmentOrder's switch: what is done. -/
namespace Go.Proofs.Ytkooogllajmkeaa
open Go.RowKit
set_option pp.deepTerms true
attribute [local go_sem ↓] Go.wp_at_zero Go.wp_at_succ
/-- what the loop carries: the play's block x, its space p, its link b; what is wanted -/
def OrdI (wb : World) (x p b pr q : Nat) (s c : Int) (k : Nat) (v : Value) (W : World) : Prop :=
  ∃ S L, SegR wb p b s c S L [(x, pl24 p b pr q), (q, qlo pr s c), (pr, rs0)] v L.live W ∧ SInv S L s c ∧ S.last ≤ 65540 * (k : Int) ∧ L.live.length ≤ k
theorem pos_in {N W : Int} (h : 1 ≤ W) : -W < N.tmod W ∧ N.tmod W < W ∧ 0 ≤ (N.tmod W + W).tmod W ∧ (N.tmod W + W).tmod W < W := by
  have h1 := Int.tmod_lt_of_pos N (show 0 < W by omega)
  have h2 := Int.lt_tmod_of_pos N (show 0 < W by omega)
  exact ⟨h2, h1, Int.tmod_nonneg _ (by omega), Int.tmod_lt_of_pos _ (by omega)⟩
/-- a push's result, in a box of its own -/
def PushedR (wb : World) (x p b pr q : Nat) (s c : Int) (k Bo : Nat) (kd N : Int) (v : Value) (xs : List (Int × Int)) (L : Lk) (r e : Value) (W : World) : Prop :=
  ∃ B1 y1 y2 er S' L', r = .pointer (some ⟨B1, 0, none⟩) ∧ e = .int .i64 er ∧ SegR wb p b s c S' L' [(B1, .cells #[.int .i64 y1, .int .i64 y2] 39), (Bo, .cells #[.int .i64 kd, .int .i64 N] 80), (x, pl24 p b pr q), (q, qlo pr s c), (pr, rs0)] v xs W ∧ PushF s c N k L y1 y2 er S' L'
theorem pushed_first {wb X Wx : World} {x p b pr q Bo k : Nat} {s c N kd y1 y2 er : Int} {v : Value} {xs : List (Int × Int)} {S S' : Sp} {L L' : Lk}
    (hA : SegR wb p b s c S L [(Bo, .cells #[.int .i64 kd, .int .i64 N] 80), (x, pl24 p b pr q), (q, qlo pr s c), (pr, rs0)] v xs X)
    (hx : SegR wb p b s c S' L' [(X.heap.size, .cells #[.int .i64 0, .int .i64 0] 39), (Bo, .cells #[.int .i64 kd, .int .i64 N] 80), (x, pl24 p b pr q), (q, qlo pr s c), (pr, rs0)] v xs Wx)
    (hf : PushF s c N k L y1 y2 er S' L') : PushedR wb x p b pr q s c k Bo kd N v xs L (.pointer (some ⟨X.heap.size, 0, none⟩)) (.int .i64 er) ((Wx.setCell ⟨X.heap.size, 0, none⟩ (.int .i64 y1)).setCell ⟨X.heap.size, 1, none⟩ (.int .i64 y2)) := by
  have hE := fun y hy => Nat.ne_of_lt (hA.ltE y hy)
  exact ⟨_, _, _, _, _, _, rfl, rfl, (hx.store hA.size.size hE 0 (.int .i64 y1)).store hA.size.size hE 1 (.int .i64 y2), hf⟩
theorem pushed_second {wb Wx : World} {x p b pr q Bo k : Nat} {s c N kd y1 y2 er : Int} {v : Value} {xs : List (Int × Int)} {S' : Sp} {L L' : Lk}
    (hx : SegR wb p b s c S' L' [(Bo, .cells #[.int .i64 kd, .int .i64 N] 80), (x, pl24 p b pr q), (q, qlo pr s c), (pr, rs0)] v xs Wx)
    (hf : PushF s c N k L y1 y2 er S' L') : PushedR wb x p b pr q s c k Bo kd N v xs L (.pointer (some ⟨Wx.heap.size, 0, none⟩)) (.int .i64 er) (Wx.alloc (.cells #[.int .i64 y1, .int .i64 y2] 39)) :=
  ⟨_, _, _, _, _, _, rfl, rfl, hx.alloc _, hf⟩
noncomputable def sob2 : Code := pieceOf (Try.f7.body.getD .skip) [1, 1, 1, 1, 1, 0, 1, 0, 0, 1, 1, 0, 0, 1, 0, 1]
set_option maxRecDepth 100000 in
set_option maxHeartbeats 4000000 in
theorem so2_k0 {wb X : World} {x p b pr q Bo Bp k : Nat} {s c kd N : Int} {S : Sp} {L : Lk} {v : Value} {Q : Exit → Act → World → Prop} {u0 u1 u3 u4 u5 u7 u9 u11 u12 u13 u14 u15 u16 u17 u18 u19 u20 u21 u22 u23 u24 u25 u26 u27 u28 u29 u30 u31 u32 u33 u34 u35 u36 u37 u38 u39 u40 u41 u42 u43 u44 u45 u46 u47 u48 u49 u50 u51 u52 u53 u54 u55 u56 u57 u58 u59 u60 u61 u62 u63 u65 u66 u67 u68 u69 u70 u71 u72 u73 u74 u75 u76 u77 u78 u79 u80 u81 u82 u83 u84 u85 u86 u87 u88 u89 u90 u91 u92 u93 u94 u95 u96 u97 u98 u99 u100 u101 u102 u103 u104 u105 u106 u107 u108 u109 u110 u111 u112 u113 u114 u115 u116 u117 u118 u119 u120 u121 u122 u123 u124 u125 u126 u127 u128 u129 u130 u131 u132 u133 u134 u135 u136 u137 u138 u139 u140 u141 u142 u143 u144 u145 u146 u147 u148 u149 u150 u151 u152 u153 u154 u155 u156 u157 u158 u159 u160 u161 u162 u163 u164 u165 u166 u167 u168 u169 u170 u171 u172 u173 u174 u175 u176 u177 u178 u179 u180 u181 u182 u183 u184 u185 u186 u187 u188 u189 u190 u191 u192 u193 u194 u195 u196 u197 u198 u199 u200 u201 u202 u203 u204 u205 u206 u207 u208 u209 u210 u211 u212 u213 u214 u215 u216 u217 u218 u219 u220 u221 u222 u223 u224 u225 u226 u227 u228 u229 u230 u231 u232 u233 u234 u235 u236 u237 u238 u239 u240 u241 u242 u243 u244 u245 u246 u247 u248 u249 u250 u251 u252 u253 u254 u255 u256 u257 u258 u259 u260 u261 u262 u263 u264 u265 u266 : Value}
    (HOK : Hid (256 ≤ s ∧ s ≤ 65536 ∧ 0 ≤ c ∧ c ≤ 64)) (hk60 : k ≤ 60) (HD : Hid (wb.cell? ⟨Bp, 0, none⟩ = some (.int .i64 s)))
    (HA : Hid (SegR wb p b s c S L [(Bo, .cells #[.int .i64 kd, .int .i64 N] 80), (x, pl24 p b pr q), (q, qlo pr s c), (pr, rs0)] v L.live X ∧ SInv S L s c ∧ S.last ≤ 65540 * (k : Int) ∧ L.live.length ≤ k)) (hk0 : kd = 0)
    (hQ : ∀ (c4 c8 c11 c12 c13 c14 c15 c65 c66 c67 c68 c69 c70 c71 c72 c73 c74 c75 c76 c77 c78 c79 c80 c81 c82 c83 c84 c85 c86 c87 c88 c89 c90 c91 c92 c93 c94 c95 c96 c97 c98 c99 c100 c101 c102 c103 c104 c105 c106 c107 c108 c109 c110 c111 c112 c113 c114 c115 c116 c117 c118 c119 c120 c121 c122 c123 c124 c125 c126 c127 c128 c129 c130 c131 c132 c133 c134 c135 c136 c137 c138 c139 c140 c141 c142 c143 c144 c145 : Value) (W' : World), OrdI wb x p b pr q s c (k + 1) c8 W' →
      Q .normal ⟨#[u0, u1, .pointer (some ⟨Bp, 0, none⟩), u3, c4, u5, .pointer (some ⟨x, 0, none⟩), u7, c8, u9, .pointer (some ⟨Bo, 0, none⟩), c11, c12, c13, c14, c15, u16, u17, u18, u19, u20, u21, u22, u23, u24, u25, u26, u27, u28, u29, u30, u31, u32, u33, u34, u35, u36, u37, u38, u39, u40, u41, u42, u43, u44, u45, u46, u47, u48, u49, u50, u51, u52, u53, u54, u55, u56, u57, u58, u59, u60, u61, u62, u63, .int .i64 kd, c65, c66, c67, c68, c69, c70, c71, c72, c73, c74, c75, c76, c77, c78, c79, c80, c81, c82, c83, c84, c85, c86, c87, c88, c89, c90, c91, c92, c93, c94, c95, c96, c97, c98, c99, c100, c101, c102, c103, c104, c105, c106, c107, c108, c109, c110, c111, c112, c113, c114, c115, c116, c117, c118, c119, c120, c121, c122, c123, c124, c125, c126, c127, c128, c129, c130, c131, c132, c133, c134, c135, c136, c137, c138, c139, c140, c141, c142, c143, c144, c145, u146, u147, u148, u149, u150, u151, u152, u153, u154, u155, u156, u157, u158, u159, u160, u161, u162, u163, u164, u165, u166, u167, u168, u169, u170, u171, u172, u173, u174, u175, u176, u177, u178, u179, u180, u181, u182, u183, u184, u185, u186, u187, u188, u189, u190, u191, u192, u193, u194, u195, u196, u197, u198, u199, u200, u201, u202, u203, u204, u205, u206, u207, u208, u209, u210, u211, u212, u213, u214, u215, u216, u217, u218, u219, u220, u221, u222, u223, u224, u225, u226, u227, u228, u229, u230, u231, u232, u233, u234, u235, u236, u237, u238, u239, u240, u241, u242, u243, u244, u245, u246, u247, u248, u249, u250, u251, u252, u253, u254, u255, u256, u257, u258, u259, u260, u261, u262, u263, u264, u265, u266], []⟩ W') :
    Code.wp Try.prog sob2 Q ⟨#[u0, u1, .pointer (some ⟨Bp, 0, none⟩), u3, u4, u5, .pointer (some ⟨x, 0, none⟩), u7, v, u9, .pointer (some ⟨Bo, 0, none⟩), u11, u12, u13, u14, u15, u16, u17, u18, u19, u20, u21, u22, u23, u24, u25, u26, u27, u28, u29, u30, u31, u32, u33, u34, u35, u36, u37, u38, u39, u40, u41, u42, u43, u44, u45, u46, u47, u48, u49, u50, u51, u52, u53, u54, u55, u56, u57, u58, u59, u60, u61, u62, u63, .int .i64 kd, u65, u66, u67, u68, u69, u70, u71, u72, u73, u74, u75, u76, u77, u78, u79, u80, u81, u82, u83, u84, u85, u86, u87, u88, u89, u90, u91, u92, u93, u94, u95, u96, u97, u98, u99, u100, u101, u102, u103, u104, u105, u106, u107, u108, u109, u110, u111, u112, u113, u114, u115, u116, u117, u118, u119, u120, u121, u122, u123, u124, u125, u126, u127, u128, u129, u130, u131, u132, u133, u134, u135, u136, u137, u138, u139, u140, u141, u142, u143, u144, u145, u146, u147, u148, u149, u150, u151, u152, u153, u154, u155, u156, u157, u158, u159, u160, u161, u162, u163, u164, u165, u166, u167, u168, u169, u170, u171, u172, u173, u174, u175, u176, u177, u178, u179, u180, u181, u182, u183, u184, u185, u186, u187, u188, u189, u190, u191, u192, u193, u194, u195, u196, u197, u198, u199, u200, u201, u202, u203, u204, u205, u206, u207, u208, u209, u210, u211, u212, u213, u214, u215, u216, u217, u218, u219, u220, u221, u222, u223, u224, u225, u226, u227, u228, u229, u230, u231, u232, u233, u234, u235, u236, u237, u238, u239, u240, u241, u242, u243, u244, u245, u246, u247, u248, u249, u250, u251, u252, u253, u254, u255, u256, u257, u258, u259, u260, u261, u262, u263, u264, u265, u266], []⟩ X := by
  have HQ := Hid.mk hQ
  clear hQ
  have g0 := HA.out.1.box (j := 0) (List.Mem.head _) rfl
  have g1 := HA.out.1.box (j := 1) (List.Mem.head _) rfl
  have x0 := HA.out.1.box (B := x) (j := 0) (List.Mem.tail _ (List.Mem.head _)) rfl
  have x1 := HA.out.1.box (B := x) (j := 1) (List.Mem.tail _ (List.Mem.head _)) rfl
  have HA0 : Hid (L.live.length ≤ k) := HA.out.2.2.2
  conv => arg 2; whnf
  subst hk0
  have z0 : ((0 : Int) == 0) = true := rfl
  have hBx : Bo < X.heap.size := by
    have := HA.out.1.ltE _ (List.Mem.head _)
    simpa using this
  have hxX : x < X.heap.size := by
    have := HA.out.1.ltE _ (List.Mem.tail _ (List.Mem.head _))
    simpa using this
  go_upto_region 11 with (fail)
  go_cut [11, 12] from 65 to 145 (fun r e W => Hid (PushedR wb x p b pr q s c k Bo 0 N v L.live L r e W))
  case first =>
    obtain ⟨hA, hI, hl, hll⟩ := HA.out
    have b0 := (hA.alloc (Obj.cells #[.int .i64 0, .int .i64 0] 39)).keep (Below.refl _ _).drew
    have c0 := hA.keep (Below.refl _ _).drew
    have f0 := b0.box (B := x) (j := 1) (List.Mem.tail _ (List.Mem.tail _ (List.Mem.head _))) rfl
    have f1 := b0.box (B := Bo) (j := 1) (List.Mem.tail _ (List.Mem.head _)) rfl
    have h1q : (⟨X.heap.size, 0, none⟩ : Addr).block ≠ (⟨x, 1, none⟩ : Addr).block := by simp; omega
    have h1b : (⟨X.heap.size, 0, none⟩ : Addr).block ≠ (⟨Bo, 1, none⟩ : Addr).block := by simp; omega
    have hk1 : k ≤ 100 := by omega
    obtain ⟨hs1, hs2, hc1, hc2⟩ := HOK.out
    go_region_held3 (fun W' => W'.cell? ⟨x, 1, none⟩ = some (.pointer (some ⟨b, 0, none⟩)) ∧ W'.cell? ⟨Bo, 1, none⟩ = some (.int .i64 N)) (first | exact ⟨set_far (set_far f2 h1q) h1q, set_far (set_far f3 h1b) h1b⟩ | exact ⟨alloc_cell f2, alloc_cell f3⟩ | exact ⟨f2, f3⟩ | exact ⟨f0, f1⟩ | exact ⟨x1, g1⟩) (first | (go_at_call 31; refine (push_segr (w := wb) (p := p) (sz := s) (ca := c) (S := S) (L := L) (E := [(X.heap.size, (Obj.cells #[.int .i64 0, .int .i64 0] 39)), (Bo, .cells #[.int .i64 0, .int .i64 N] 80), (x, pl24 p b pr q), (q, qlo pr s c), (pr, rs0)]) (v := v) (xs := L.live) (k := k) ?_ hI ⟨hs1, hs2⟩ hc2 hk1 hl hll N).mono ?_; exact b0; rintro e wx ⟨y1, y2, er, S', L', rfl, hx, hf⟩; have f2 := hx.box (B := x) (j := 1) (List.Mem.tail _ (List.Mem.tail _ (List.Mem.head _))) rfl; have f3 := hx.box (B := Bo) (j := 1) (List.Mem.tail _ (List.Mem.head _)) rfl; have z0 := hx.box (j := 0) (List.Mem.head _) rfl; have z1 := hx.box (j := 1) (List.Mem.head _) rfl; have z2 := hx.free (List.Mem.head _) 0; have z3 := hx.free (List.Mem.head _) 1; have HG := Hid.mk (pushed_first hA hx hf)) | (go_at_call 31; refine (push_segr (w := wb) (p := p) (sz := s) (ca := c) (S := S) (L := L) (E := [(Bo, .cells #[.int .i64 0, .int .i64 N] 80), (x, pl24 p b pr q), (q, qlo pr s c), (pr, rs0)]) (v := v) (xs := L.live) (k := k) ?_ hI ⟨hs1, hs2⟩ hc2 hk1 hl hll N).mono ?_; exact c0; rintro e wx ⟨y1, y2, er, S', L', rfl, hx, hf⟩; have f2 := hx.box (B := x) (j := 1) (List.Mem.tail _ (List.Mem.head _)) rfl; have f3 := hx.box (B := Bo) (j := 1) (List.Mem.head _) rfl; have HG := Hid.mk (pushed_second hx hf)))
    all_goals
      go_wp2_with fail
      go_meet
      case rel => exact HG.out
  case rest =>
    obtain ⟨B1, t1, t2, er, S', L', rfl, rfl, hP, hf⟩ := hcut.out
    clear hcut g0 g1 x0 x1 HA hBx hxX
    by_cases he : er = 0
    · subst he
      obtain ⟨hI, hl, ⟨q, -⟩ | ⟨-, hn1, hn2, hlive⟩⟩ := hf
      · exact absurd rfl q
      have g1 := hP.box (B := Bo) (j := 1) (List.Mem.tail _ (List.Mem.head _)) rfl
      have r0 := hP.box (B := B1) (j := 0) (List.Mem.head _) rfl
      have r1 := hP.box (B := B1) (j := 1) (List.Mem.head _) rfl
      have y0 := keep_be hP.size HD.out
      have v1 : decide (t2 < N) = false := by simp; omega
      have v2 : decide (t2 < s) = false := by simp; omega
      have hrow := hP.row.alloc (.cells #[.int .i64 t1, .int .i64 t2] 39)
      have HP := Hid.mk (And.intro hP (And.intro hI (And.intro hl hlive)))
      have hbs := hP.size.size
      have hlen : L.live.length ≤ 100 := by have := HA0.out; omega
      obtain ⟨i0, hi0, hz0, hz1, hz2⟩ := info_parts infoR
      clear hn1 hn2 hP hI hl hlive
      go_wp2_with (at_builtin; refine wpList_append_own_at _ rfl _ _ 36 rfl wb.heap.size 39 i0 (.agg #[.int .i64 0, .int .i64 0]) 2 16 Try.underlying36 hi0 hz0 hz1 hz2 rfl (by decide) _ _ _ rfl hrow ⟨wc.heap.size, 0, none⟩ 1 1 [.int .i64 t1, .int .i64 t2] rfl rfl (two_new _ _ _ _) (by simp [Value.oneCell']) ?m1 ?b1 ?s1 ?_)
      case m1 => unfold maxLen; omega
      case b1 => omega
      case s1 => first | omega | (simp; omega)
      intro v' w5 hown hgrow hnn hat
      go_wp2_with fail
      refine HQ.out _ _ _ _ _ _ _ _ _ _ _ _ _ _ _ _ _ _ _ _ _ _ _ _ _ _ _ _ _ _ _ _ _ _ _ _ _ _ _ _ _ _ _ _ _ _ _ _ _ _ _ _ _ _ _ _ _ _ _ _ _ _ _ _ _ _ _ _ _ _ _ _ _ _ _ _ _ _ _ _ _ _ _ _ _ _ _ _ _ ?_
      obtain ⟨hP, hI, hl, hlive⟩ := HP.out
      have hq := (hP.push (y := (t1, t2)) hown hgrow (by simpa using hat)).sub (E' := [(x, pl24 p b pr q), (q, qlo pr s c), (pr, rs0)]) (fun y hy => List.Mem.tail _ (List.Mem.tail _ hy))
      rw [← hlive] at hq
      exact ⟨S', L', hq, hI, by simpa using hl, by rw [hlive]; simp; exact HA0.out⟩
    · have z2 : (er == 0) = false := by simp [he]
      obtain ⟨hI, hl, ⟨-, rfl⟩ | ⟨q, -⟩⟩ := hf
      · have HP := Hid.mk (And.intro hP (And.intro hI hl))
        clear hP hI hl
        go_wp2_with fail
        refine HQ.out _ _ _ _ _ _ _ _ _ _ _ _ _ _ _ _ _ _ _ _ _ _ _ _ _ _ _ _ _ _ _ _ _ _ _ _ _ _ _ _ _ _ _ _ _ _ _ _ _ _ _ _ _ _ _ _ _ _ _ _ _ _ _ _ _ _ _ _ _ _ _ _ _ _ _ _ _ _ _ _ _ _ _ _ _ _ _ _ _ ?_
        obtain ⟨hP, hI, hl⟩ := HP.out
        exact ⟨S', L', hP.sub (fun y hy => List.Mem.tail _ (List.Mem.tail _ hy)), hI, by simpa using hl, by have := HA0.out; omega⟩
      · exact absurd q he
set_option maxRecDepth 100000 in
set_option maxHeartbeats 4000000 in
theorem so2_k1 {wb X : World} {x p b pr q Bo Bp k : Nat} {s c kd N : Int} {S : Sp} {L : Lk} {v : Value} {Q : Exit → Act → World → Prop} {u0 u1 u3 u4 u5 u7 u9 u11 u12 u13 u14 u15 u16 u17 u18 u19 u20 u21 u22 u23 u24 u25 u26 u27 u28 u29 u30 u31 u32 u33 u34 u35 u36 u37 u38 u39 u40 u41 u42 u43 u44 u45 u46 u47 u48 u49 u50 u51 u52 u53 u54 u55 u56 u57 u58 u59 u60 u61 u62 u63 u65 u66 u67 u68 u69 u70 u71 u72 u73 u74 u75 u76 u77 u78 u79 u80 u81 u82 u83 u84 u85 u86 u87 u88 u89 u90 u91 u92 u93 u94 u95 u96 u97 u98 u99 u100 u101 u102 u103 u104 u105 u106 u107 u108 u109 u110 u111 u112 u113 u114 u115 u116 u117 u118 u119 u120 u121 u122 u123 u124 u125 u126 u127 u128 u129 u130 u131 u132 u133 u134 u135 u136 u137 u138 u139 u140 u141 u142 u143 u144 u145 u146 u147 u148 u149 u150 u151 u152 u153 u154 u155 u156 u157 u158 u159 u160 u161 u162 u163 u164 u165 u166 u167 u168 u169 u170 u171 u172 u173 u174 u175 u176 u177 u178 u179 u180 u181 u182 u183 u184 u185 u186 u187 u188 u189 u190 u191 u192 u193 u194 u195 u196 u197 u198 u199 u200 u201 u202 u203 u204 u205 u206 u207 u208 u209 u210 u211 u212 u213 u214 u215 u216 u217 u218 u219 u220 u221 u222 u223 u224 u225 u226 u227 u228 u229 u230 u231 u232 u233 u234 u235 u236 u237 u238 u239 u240 u241 u242 u243 u244 u245 u246 u247 u248 u249 u250 u251 u252 u253 u254 u255 u256 u257 u258 u259 u260 u261 u262 u263 u264 u265 u266 : Value}
    (HOK : Hid (256 ≤ s ∧ s ≤ 65536 ∧ 0 ≤ c ∧ c ≤ 64)) (hk60 : k ≤ 60) (_HD : Hid (wb.cell? ⟨Bp, 0, none⟩ = some (.int .i64 s)))
    (HA : Hid (SegR wb p b s c S L [(Bo, .cells #[.int .i64 kd, .int .i64 N] 80), (x, pl24 p b pr q), (q, qlo pr s c), (pr, rs0)] v L.live X ∧ SInv S L s c ∧ S.last ≤ 65540 * (k : Int) ∧ L.live.length ≤ k)) (hk1 : kd = 1)
    (hQ : ∀ (c4 c8 c11 c12 c13 c14 c15 c65 c66 c67 c68 c69 c70 c71 c72 c73 c74 c75 c76 c77 c78 c79 c80 c81 c82 c83 c84 c85 c86 c87 c88 c89 c90 c91 c92 c93 c94 c95 c96 c97 c98 c99 c100 c101 c102 c103 c104 c105 c106 c107 c108 c109 c110 c111 c112 c113 c114 c115 c116 c117 c118 c119 c120 c121 c122 c123 c124 c125 c126 c127 c128 c129 c130 c131 c132 c133 c134 c135 c136 c137 c138 c139 c140 c141 c142 c143 c144 c145 : Value) (W' : World), OrdI wb x p b pr q s c (k + 1) c8 W' →
      Q .normal ⟨#[u0, u1, .pointer (some ⟨Bp, 0, none⟩), u3, c4, u5, .pointer (some ⟨x, 0, none⟩), u7, c8, u9, .pointer (some ⟨Bo, 0, none⟩), c11, c12, c13, c14, c15, u16, u17, u18, u19, u20, u21, u22, u23, u24, u25, u26, u27, u28, u29, u30, u31, u32, u33, u34, u35, u36, u37, u38, u39, u40, u41, u42, u43, u44, u45, u46, u47, u48, u49, u50, u51, u52, u53, u54, u55, u56, u57, u58, u59, u60, u61, u62, u63, .int .i64 kd, c65, c66, c67, c68, c69, c70, c71, c72, c73, c74, c75, c76, c77, c78, c79, c80, c81, c82, c83, c84, c85, c86, c87, c88, c89, c90, c91, c92, c93, c94, c95, c96, c97, c98, c99, c100, c101, c102, c103, c104, c105, c106, c107, c108, c109, c110, c111, c112, c113, c114, c115, c116, c117, c118, c119, c120, c121, c122, c123, c124, c125, c126, c127, c128, c129, c130, c131, c132, c133, c134, c135, c136, c137, c138, c139, c140, c141, c142, c143, c144, c145, u146, u147, u148, u149, u150, u151, u152, u153, u154, u155, u156, u157, u158, u159, u160, u161, u162, u163, u164, u165, u166, u167, u168, u169, u170, u171, u172, u173, u174, u175, u176, u177, u178, u179, u180, u181, u182, u183, u184, u185, u186, u187, u188, u189, u190, u191, u192, u193, u194, u195, u196, u197, u198, u199, u200, u201, u202, u203, u204, u205, u206, u207, u208, u209, u210, u211, u212, u213, u214, u215, u216, u217, u218, u219, u220, u221, u222, u223, u224, u225, u226, u227, u228, u229, u230, u231, u232, u233, u234, u235, u236, u237, u238, u239, u240, u241, u242, u243, u244, u245, u246, u247, u248, u249, u250, u251, u252, u253, u254, u255, u256, u257, u258, u259, u260, u261, u262, u263, u264, u265, u266], []⟩ W') :
    Code.wp Try.prog sob2 Q ⟨#[u0, u1, .pointer (some ⟨Bp, 0, none⟩), u3, u4, u5, .pointer (some ⟨x, 0, none⟩), u7, v, u9, .pointer (some ⟨Bo, 0, none⟩), u11, u12, u13, u14, u15, u16, u17, u18, u19, u20, u21, u22, u23, u24, u25, u26, u27, u28, u29, u30, u31, u32, u33, u34, u35, u36, u37, u38, u39, u40, u41, u42, u43, u44, u45, u46, u47, u48, u49, u50, u51, u52, u53, u54, u55, u56, u57, u58, u59, u60, u61, u62, u63, .int .i64 kd, u65, u66, u67, u68, u69, u70, u71, u72, u73, u74, u75, u76, u77, u78, u79, u80, u81, u82, u83, u84, u85, u86, u87, u88, u89, u90, u91, u92, u93, u94, u95, u96, u97, u98, u99, u100, u101, u102, u103, u104, u105, u106, u107, u108, u109, u110, u111, u112, u113, u114, u115, u116, u117, u118, u119, u120, u121, u122, u123, u124, u125, u126, u127, u128, u129, u130, u131, u132, u133, u134, u135, u136, u137, u138, u139, u140, u141, u142, u143, u144, u145, u146, u147, u148, u149, u150, u151, u152, u153, u154, u155, u156, u157, u158, u159, u160, u161, u162, u163, u164, u165, u166, u167, u168, u169, u170, u171, u172, u173, u174, u175, u176, u177, u178, u179, u180, u181, u182, u183, u184, u185, u186, u187, u188, u189, u190, u191, u192, u193, u194, u195, u196, u197, u198, u199, u200, u201, u202, u203, u204, u205, u206, u207, u208, u209, u210, u211, u212, u213, u214, u215, u216, u217, u218, u219, u220, u221, u222, u223, u224, u225, u226, u227, u228, u229, u230, u231, u232, u233, u234, u235, u236, u237, u238, u239, u240, u241, u242, u243, u244, u245, u246, u247, u248, u249, u250, u251, u252, u253, u254, u255, u256, u257, u258, u259, u260, u261, u262, u263, u264, u265, u266], []⟩ X := by
  have HQ := Hid.mk hQ
  clear hQ
  have g0 := HA.out.1.box (j := 0) (List.Mem.head _) rfl
  have g1 := HA.out.1.box (j := 1) (List.Mem.head _) rfl
  have x0 := HA.out.1.box (B := x) (j := 0) (List.Mem.tail _ (List.Mem.head _)) rfl
  have x1 := HA.out.1.box (B := x) (j := 1) (List.Mem.tail _ (List.Mem.head _)) rfl
  have HA0 : Hid (L.live.length ≤ k) := HA.out.2.2.2
  conv => arg 2; whnf
  have z0 : ((1 : Int) == 0) = false := rfl
  subst hk1
  have z1 : ((1 : Int) == 1) = true := rfl
  obtain ⟨hA, hI, hl, hll⟩ := HA.out
  have hIL := hI
  have hc := pop_segr hA hI (by have := HOK.out; omega) (by omega)
  have HC := Hid.mk hc
  have HL := Hid.mk (And.intro hl hll)
  clear hA hI hl hll hIL hc
  go_wp2_with fail
  refine HC.out.mono ?_
  rintro e w3 ⟨er, S', L', rfl, hP, hI, hlast, hf⟩
  have hrow := hP.row
  obtain ⟨ao, cp, rfl⟩ := own_shape hrow
  rcases hf with ⟨he, hL', hnil⟩ | ⟨rfl, hne, hL'⟩
  · have z2 : (er == 0) = false := by simp [he]
    have hz0 : L.live.length = 0 := by simp [hnil]
    rw [hz0] at hP ⊢
    have HP := Hid.mk (And.intro hP (And.intro hI (And.intro hlast hL')))
    clear hP hI hlast hL' hrow hz0 hnil
    go_wp2_with fail
    refine HQ.out _ _ _ _ _ _ _ _ _ _ _ _ _ _ _ _ _ _ _ _ _ _ _ _ _ _ _ _ _ _ _ _ _ _ _ _ _ _ _ _ _ _ _ _ _ _ _ _ _ _ _ _ _ _ _ _ _ _ _ _ _ _ _ _ _ _ _ _ _ _ _ _ _ _ _ _ _ _ _ _ _ _ _ _ _ _ _ _ _ ?_
    obtain ⟨hP, hI, hlast, rfl⟩ := HP.out
    exact ⟨S', L', hP.sub (fun y hy => List.Mem.tail _ hy), hI, by have := HL.out; omega, by have := HL.out; omega⟩
  · obtain ⟨g, rfl, hcp, hcut2⟩ := hP.cut hne
    have hpos : 1 ≤ L.live.length := List.length_pos_iff.2 hne
    have HP := Hid.mk (And.intro hcut2 (And.intro hI (And.intro hlast hL')))
    have hz : decide (0 < L.live.length) = true := by simp; omega
    have hw : IntKind.i64.wrap ((L.live.length : Int) - 1) = ((L.live.length - 1 : Nat) : Int) := by rw [IntKind.wrap_i64]; have := HL.out.2; omega
    clear hP hI hlast hL' hrow hcut2
    go_wp2_with fail
    refine HQ.out _ _ _ _ _ _ _ _ _ _ _ _ _ _ _ _ _ _ _ _ _ _ _ _ _ _ _ _ _ _ _ _ _ _ _ _ _ _ _ _ _ _ _ _ _ _ _ _ _ _ _ _ _ _ _ _ _ _ _ _ _ _ _ _ _ _ _ _ _ _ _ _ _ _ _ _ _ _ _ _ _ _ _ _ _ _ _ _ _ ?_
    obtain ⟨hP, hI, hlast, hL'⟩ := HP.out
    have hq := hP.sub (E' := [(x, pl24 p b pr q), (q, qlo pr s c), (pr, rs0)]) (fun y hy => List.Mem.tail _ hy)
    rw [← hL'] at hq
    have e : L.live.length - 1 = L'.live.length := by rw [hL']; simp
    exact ⟨S', L', by rw [e]; exact hq, hI, by have := HL.out; omega, by rw [hL']; simp; have := HL.out; omega⟩
set_option maxRecDepth 100000 in
set_option maxHeartbeats 4000000 in
theorem so2_k3 {wb X : World} {x p b pr q Bo Bp k : Nat} {s c kd N : Int} {S : Sp} {L : Lk} {v : Value} {Q : Exit → Act → World → Prop} {u0 u1 u3 u4 u5 u7 u9 u11 u12 u13 u14 u15 u16 u17 u18 u19 u20 u21 u22 u23 u24 u25 u26 u27 u28 u29 u30 u31 u32 u33 u34 u35 u36 u37 u38 u39 u40 u41 u42 u43 u44 u45 u46 u47 u48 u49 u50 u51 u52 u53 u54 u55 u56 u57 u58 u59 u60 u61 u62 u63 u65 u66 u67 u68 u69 u70 u71 u72 u73 u74 u75 u76 u77 u78 u79 u80 u81 u82 u83 u84 u85 u86 u87 u88 u89 u90 u91 u92 u93 u94 u95 u96 u97 u98 u99 u100 u101 u102 u103 u104 u105 u106 u107 u108 u109 u110 u111 u112 u113 u114 u115 u116 u117 u118 u119 u120 u121 u122 u123 u124 u125 u126 u127 u128 u129 u130 u131 u132 u133 u134 u135 u136 u137 u138 u139 u140 u141 u142 u143 u144 u145 u146 u147 u148 u149 u150 u151 u152 u153 u154 u155 u156 u157 u158 u159 u160 u161 u162 u163 u164 u165 u166 u167 u168 u169 u170 u171 u172 u173 u174 u175 u176 u177 u178 u179 u180 u181 u182 u183 u184 u185 u186 u187 u188 u189 u190 u191 u192 u193 u194 u195 u196 u197 u198 u199 u200 u201 u202 u203 u204 u205 u206 u207 u208 u209 u210 u211 u212 u213 u214 u215 u216 u217 u218 u219 u220 u221 u222 u223 u224 u225 u226 u227 u228 u229 u230 u231 u232 u233 u234 u235 u236 u237 u238 u239 u240 u241 u242 u243 u244 u245 u246 u247 u248 u249 u250 u251 u252 u253 u254 u255 u256 u257 u258 u259 u260 u261 u262 u263 u264 u265 u266 : Value}
    (_HOK : Hid (256 ≤ s ∧ s ≤ 65536 ∧ 0 ≤ c ∧ c ≤ 64)) (hk60 : k ≤ 60) (_HD : Hid (wb.cell? ⟨Bp, 0, none⟩ = some (.int .i64 s)))
    (HA : Hid (SegR wb p b s c S L [(Bo, .cells #[.int .i64 kd, .int .i64 N] 80), (x, pl24 p b pr q), (q, qlo pr s c), (pr, rs0)] v L.live X ∧ SInv S L s c ∧ S.last ≤ 65540 * (k : Int) ∧ L.live.length ≤ k)) (hk3 : kd = 3)
    (hQ : ∀ (c4 c8 c11 c12 c13 c14 c15 c65 c66 c67 c68 c69 c70 c71 c72 c73 c74 c75 c76 c77 c78 c79 c80 c81 c82 c83 c84 c85 c86 c87 c88 c89 c90 c91 c92 c93 c94 c95 c96 c97 c98 c99 c100 c101 c102 c103 c104 c105 c106 c107 c108 c109 c110 c111 c112 c113 c114 c115 c116 c117 c118 c119 c120 c121 c122 c123 c124 c125 c126 c127 c128 c129 c130 c131 c132 c133 c134 c135 c136 c137 c138 c139 c140 c141 c142 c143 c144 c145 : Value) (W' : World), OrdI wb x p b pr q s c (k + 1) c8 W' →
      Q .normal ⟨#[u0, u1, .pointer (some ⟨Bp, 0, none⟩), u3, c4, u5, .pointer (some ⟨x, 0, none⟩), u7, c8, u9, .pointer (some ⟨Bo, 0, none⟩), c11, c12, c13, c14, c15, u16, u17, u18, u19, u20, u21, u22, u23, u24, u25, u26, u27, u28, u29, u30, u31, u32, u33, u34, u35, u36, u37, u38, u39, u40, u41, u42, u43, u44, u45, u46, u47, u48, u49, u50, u51, u52, u53, u54, u55, u56, u57, u58, u59, u60, u61, u62, u63, .int .i64 kd, c65, c66, c67, c68, c69, c70, c71, c72, c73, c74, c75, c76, c77, c78, c79, c80, c81, c82, c83, c84, c85, c86, c87, c88, c89, c90, c91, c92, c93, c94, c95, c96, c97, c98, c99, c100, c101, c102, c103, c104, c105, c106, c107, c108, c109, c110, c111, c112, c113, c114, c115, c116, c117, c118, c119, c120, c121, c122, c123, c124, c125, c126, c127, c128, c129, c130, c131, c132, c133, c134, c135, c136, c137, c138, c139, c140, c141, c142, c143, c144, c145, u146, u147, u148, u149, u150, u151, u152, u153, u154, u155, u156, u157, u158, u159, u160, u161, u162, u163, u164, u165, u166, u167, u168, u169, u170, u171, u172, u173, u174, u175, u176, u177, u178, u179, u180, u181, u182, u183, u184, u185, u186, u187, u188, u189, u190, u191, u192, u193, u194, u195, u196, u197, u198, u199, u200, u201, u202, u203, u204, u205, u206, u207, u208, u209, u210, u211, u212, u213, u214, u215, u216, u217, u218, u219, u220, u221, u222, u223, u224, u225, u226, u227, u228, u229, u230, u231, u232, u233, u234, u235, u236, u237, u238, u239, u240, u241, u242, u243, u244, u245, u246, u247, u248, u249, u250, u251, u252, u253, u254, u255, u256, u257, u258, u259, u260, u261, u262, u263, u264, u265, u266], []⟩ W') :
    Code.wp Try.prog sob2 Q ⟨#[u0, u1, .pointer (some ⟨Bp, 0, none⟩), u3, u4, u5, .pointer (some ⟨x, 0, none⟩), u7, v, u9, .pointer (some ⟨Bo, 0, none⟩), u11, u12, u13, u14, u15, u16, u17, u18, u19, u20, u21, u22, u23, u24, u25, u26, u27, u28, u29, u30, u31, u32, u33, u34, u35, u36, u37, u38, u39, u40, u41, u42, u43, u44, u45, u46, u47, u48, u49, u50, u51, u52, u53, u54, u55, u56, u57, u58, u59, u60, u61, u62, u63, .int .i64 kd, u65, u66, u67, u68, u69, u70, u71, u72, u73, u74, u75, u76, u77, u78, u79, u80, u81, u82, u83, u84, u85, u86, u87, u88, u89, u90, u91, u92, u93, u94, u95, u96, u97, u98, u99, u100, u101, u102, u103, u104, u105, u106, u107, u108, u109, u110, u111, u112, u113, u114, u115, u116, u117, u118, u119, u120, u121, u122, u123, u124, u125, u126, u127, u128, u129, u130, u131, u132, u133, u134, u135, u136, u137, u138, u139, u140, u141, u142, u143, u144, u145, u146, u147, u148, u149, u150, u151, u152, u153, u154, u155, u156, u157, u158, u159, u160, u161, u162, u163, u164, u165, u166, u167, u168, u169, u170, u171, u172, u173, u174, u175, u176, u177, u178, u179, u180, u181, u182, u183, u184, u185, u186, u187, u188, u189, u190, u191, u192, u193, u194, u195, u196, u197, u198, u199, u200, u201, u202, u203, u204, u205, u206, u207, u208, u209, u210, u211, u212, u213, u214, u215, u216, u217, u218, u219, u220, u221, u222, u223, u224, u225, u226, u227, u228, u229, u230, u231, u232, u233, u234, u235, u236, u237, u238, u239, u240, u241, u242, u243, u244, u245, u246, u247, u248, u249, u250, u251, u252, u253, u254, u255, u256, u257, u258, u259, u260, u261, u262, u263, u264, u265, u266], []⟩ X := by
  have HQ := Hid.mk hQ
  clear hQ
  have g0 := HA.out.1.box (j := 0) (List.Mem.head _) rfl
  have g1 := HA.out.1.box (j := 1) (List.Mem.head _) rfl
  have x0 := HA.out.1.box (B := x) (j := 0) (List.Mem.tail _ (List.Mem.head _)) rfl
  have x1 := HA.out.1.box (B := x) (j := 1) (List.Mem.tail _ (List.Mem.head _)) rfl
  have HA0 : Hid (L.live.length ≤ k) := HA.out.2.2.2
  conv => arg 2; whnf
  have z0 : ((3 : Int) == 0) = false := rfl
  have z1 : ((3 : Int) == 1) = false := rfl
  subst hk3
  have z3 : ((3 : Int) == 3) = true := rfl
  obtain ⟨hA, hI, hl, hll⟩ := HA.out
  have hT := top_segr hA (by omega)
  have HT := Hid.mk hT
  have HL := Hid.mk (And.intro hI (And.intro hl hll))
  clear hA hT hI hl hll
  go_wp2_with fail
  refine HT.out.mono ?_
  rintro e w3 ⟨hP, rfl⟩
  clear HT
  by_cases hne : L.live = []
  · have ht : topOf L.live = ((0, 0), false) := by rw [hne]; rfl
    rw [ht]
    have HP := Hid.mk (hP.alloc (.cells #[.int .i64 0, .int .i64 0] 39))
    clear hP hne ht
    go_wp2_with fail
    refine HQ.out _ _ _ _ _ _ _ _ _ _ _ _ _ _ _ _ _ _ _ _ _ _ _ _ _ _ _ _ _ _ _ _ _ _ _ _ _ _ _ _ _ _ _ _ _ _ _ _ _ _ _ _ _ _ _ _ _ _ _ _ _ _ _ _ _ _ _ _ _ _ _ _ _ _ _ _ _ _ _ _ _ _ _ _ _ _ _ _ _ ?_
    obtain ⟨hI, hl, hll⟩ := HL.out
    exact ⟨S, L, HP.out.sub (fun y hy => List.Mem.tail _ (List.Mem.tail _ hy)), hI, by omega, by omega⟩
  · obtain ⟨pre, y, hpre, ht⟩ := topOf_some hne
    obtain ⟨t1, t2⟩ := y
    rw [ht]
    have hmem : (t1, t2) ∈ L.live := by rw [hpre]; simp
    have hO := HL.out.1.of hP.ok (List.mem_append.2 (.inl hmem))
    simp only at hO
    obtain ⟨o1, o2, o3, o4, -⟩ := hO
    have hlast := HL.out.2.1
    have hAl := hP.alloc (.cells #[.int .i64 t1, .int .i64 t2] 39)
    have HMem := Hid.mk hmem
    have HOk := Hid.mk hP.ok
    clear hP hne ht hpre hmem
    obtain ⟨Y, hY⟩ : ∃ Y, w3.alloc (.cells #[.int .i64 t1, .int .i64 t2] 39) = Y := ⟨_, rfl⟩
    obtain ⟨B1, hB1⟩ : ∃ B1, w3.heap.size = B1 := ⟨_, rfl⟩
    have HYB := Hid.mk (And.intro hY hB1)
    rw [hY, hB1] at hAl
    clear hY hB1
    go_upto_region 25 with (fail)
    rw [HYB.out.1, HYB.out.2]
    have k0 := hAl.box (B := x) (j := 0) (List.Mem.tail _ (List.Mem.tail _ (List.Mem.head _))) rfl
    have k1 := hAl.box (B := B1) (j := 0) (List.Mem.head _) rfl
    have k2 := hAl.box (B := B1) (j := 1) (List.Mem.head _) rfl
    have k3 := hAl.box (B := Bo) (j := 1) (List.Mem.tail _ (List.Mem.head _)) rfl
    have c0 := hAl.keep (Below.refl _ _).drew
    obtain ⟨n1, n2, n3, n4⟩ := pos_in (N := N) o2
    have hne0 : ¬ t2 = 0 := by omega
    have w2 : IntKind.i64.wrap (N.tmod t2 + t2) = N.tmod t2 + t2 := by rw [IntKind.wrap_i64]; omega
    have w4 : IntKind.i64.wrap (t1 + (N.tmod t2 + t2).tmod t2) = t1 + (N.tmod t2 + t2).tmod t2 := by rw [IntKind.wrap_i64]; omega
    have HN34 := Hid.mk (And.intro n3 n4)
    clear n1 n2 n3 n4 o1 o2 o3 o4 hlast
    go_region_held3 (fun W' => W'.cell? ⟨x, 0, none⟩ = some (.pointer (some ⟨p, 0, none⟩)) ∧ W'.cell? ⟨B1, 0, none⟩ = some (.int .i64 t1) ∧ W'.cell? ⟨B1, 1, none⟩ = some (.int .i64 t2) ∧ W'.cell? ⟨Bo, 1, none⟩ = some (.int .i64 N)) (first | exact ⟨f0, f1, f2, f3⟩ | exact ⟨k0, k1, k2, k3⟩) ((go_at_call 17; refine (put_segr (w := wb) (b := b) (sz := s) (ca := c) (S := S) (L := L) (E := [(B1, .cells #[.int .i64 t1, .int .i64 t2] 39), (Bo, .cells #[.int .i64 3, .int .i64 N] 80), (x, pl24 p b pr q), (q, qlo pr s c), (pr, rs0)]) (v := v) (xs := L.live) ?_ _ _ _).mono ?_; exact c0; rintro e wx ⟨hx, rfl⟩; have f0 := hx.box (B := x) (j := 0) (List.Mem.tail _ (List.Mem.tail _ (List.Mem.head _))) rfl; have f1 := hx.box (B := B1) (j := 0) (List.Mem.head _) rfl; have f2 := hx.box (B := B1) (j := 1) (List.Mem.head _) rfl; have f3 := hx.box (B := Bo) (j := 1) (List.Mem.tail _ (List.Mem.head _)) rfl))
    clear f0 f1 f2 f3 k0 k1 k2 k3 w2 w4 c0 hAl
    have HX := Hid.mk hx
    clear hx
    go_wp2_with fail
    refine HQ.out _ _ _ _ _ _ _ _ _ _ _ _ _ _ _ _ _ _ _ _ _ _ _ _ _ _ _ _ _ _ _ _ _ _ _ _ _ _ _ _ _ _ _ _ _ _ _ _ _ _ _ _ _ _ _ _ _ _ _ _ _ _ _ _ _ _ _ _ _ _ _ _ _ _ _ _ _ _ _ _ _ _ _ _ _ _ _ _ _ ?_
    obtain ⟨hI, hl, hll⟩ := HL.out
    have hS : (S.put (t1 + (N.tmod t2 + t2).tmod t2) (1, 0)).2.last = S.last := put_last _ _ _
    exact ⟨_, L, HX.out.sub (fun y hy => List.Mem.tail _ (List.Mem.tail _ hy)), hI.put (x := (t1, t2)) HOk.out HMem.out HN34.out.1 HN34.out.2 (1, 0), by rw [hS]; omega, by omega⟩
set_option maxRecDepth 100000 in
set_option maxHeartbeats 4000000 in
theorem so2_kx {wb X : World} {x p b pr q Bo Bp k : Nat} {s c kd N : Int} {S : Sp} {L : Lk} {v : Value} {Q : Exit → Act → World → Prop} {u0 u1 u3 u4 u5 u7 u9 u11 u12 u13 u14 u15 u16 u17 u18 u19 u20 u21 u22 u23 u24 u25 u26 u27 u28 u29 u30 u31 u32 u33 u34 u35 u36 u37 u38 u39 u40 u41 u42 u43 u44 u45 u46 u47 u48 u49 u50 u51 u52 u53 u54 u55 u56 u57 u58 u59 u60 u61 u62 u63 u65 u66 u67 u68 u69 u70 u71 u72 u73 u74 u75 u76 u77 u78 u79 u80 u81 u82 u83 u84 u85 u86 u87 u88 u89 u90 u91 u92 u93 u94 u95 u96 u97 u98 u99 u100 u101 u102 u103 u104 u105 u106 u107 u108 u109 u110 u111 u112 u113 u114 u115 u116 u117 u118 u119 u120 u121 u122 u123 u124 u125 u126 u127 u128 u129 u130 u131 u132 u133 u134 u135 u136 u137 u138 u139 u140 u141 u142 u143 u144 u145 u146 u147 u148 u149 u150 u151 u152 u153 u154 u155 u156 u157 u158 u159 u160 u161 u162 u163 u164 u165 u166 u167 u168 u169 u170 u171 u172 u173 u174 u175 u176 u177 u178 u179 u180 u181 u182 u183 u184 u185 u186 u187 u188 u189 u190 u191 u192 u193 u194 u195 u196 u197 u198 u199 u200 u201 u202 u203 u204 u205 u206 u207 u208 u209 u210 u211 u212 u213 u214 u215 u216 u217 u218 u219 u220 u221 u222 u223 u224 u225 u226 u227 u228 u229 u230 u231 u232 u233 u234 u235 u236 u237 u238 u239 u240 u241 u242 u243 u244 u245 u246 u247 u248 u249 u250 u251 u252 u253 u254 u255 u256 u257 u258 u259 u260 u261 u262 u263 u264 u265 u266 : Value}
    (_HOK : Hid (256 ≤ s ∧ s ≤ 65536 ∧ 0 ≤ c ∧ c ≤ 64)) (_hk60 : k ≤ 60) (_HD : Hid (wb.cell? ⟨Bp, 0, none⟩ = some (.int .i64 s)))
    (HA : Hid (SegR wb p b s c S L [(Bo, .cells #[.int .i64 kd, .int .i64 N] 80), (x, pl24 p b pr q), (q, qlo pr s c), (pr, rs0)] v L.live X ∧ SInv S L s c ∧ S.last ≤ 65540 * (k : Int) ∧ L.live.length ≤ k)) (hk0 : ¬ kd = 0) (hk1 : ¬ kd = 1) (hk3 : ¬ kd = 3)
    (hQ : ∀ (c4 c8 c11 c12 c13 c14 c15 c65 c66 c67 c68 c69 c70 c71 c72 c73 c74 c75 c76 c77 c78 c79 c80 c81 c82 c83 c84 c85 c86 c87 c88 c89 c90 c91 c92 c93 c94 c95 c96 c97 c98 c99 c100 c101 c102 c103 c104 c105 c106 c107 c108 c109 c110 c111 c112 c113 c114 c115 c116 c117 c118 c119 c120 c121 c122 c123 c124 c125 c126 c127 c128 c129 c130 c131 c132 c133 c134 c135 c136 c137 c138 c139 c140 c141 c142 c143 c144 c145 : Value) (W' : World), OrdI wb x p b pr q s c (k + 1) c8 W' →
      Q .normal ⟨#[u0, u1, .pointer (some ⟨Bp, 0, none⟩), u3, c4, u5, .pointer (some ⟨x, 0, none⟩), u7, c8, u9, .pointer (some ⟨Bo, 0, none⟩), c11, c12, c13, c14, c15, u16, u17, u18, u19, u20, u21, u22, u23, u24, u25, u26, u27, u28, u29, u30, u31, u32, u33, u34, u35, u36, u37, u38, u39, u40, u41, u42, u43, u44, u45, u46, u47, u48, u49, u50, u51, u52, u53, u54, u55, u56, u57, u58, u59, u60, u61, u62, u63, .int .i64 kd, c65, c66, c67, c68, c69, c70, c71, c72, c73, c74, c75, c76, c77, c78, c79, c80, c81, c82, c83, c84, c85, c86, c87, c88, c89, c90, c91, c92, c93, c94, c95, c96, c97, c98, c99, c100, c101, c102, c103, c104, c105, c106, c107, c108, c109, c110, c111, c112, c113, c114, c115, c116, c117, c118, c119, c120, c121, c122, c123, c124, c125, c126, c127, c128, c129, c130, c131, c132, c133, c134, c135, c136, c137, c138, c139, c140, c141, c142, c143, c144, c145, u146, u147, u148, u149, u150, u151, u152, u153, u154, u155, u156, u157, u158, u159, u160, u161, u162, u163, u164, u165, u166, u167, u168, u169, u170, u171, u172, u173, u174, u175, u176, u177, u178, u179, u180, u181, u182, u183, u184, u185, u186, u187, u188, u189, u190, u191, u192, u193, u194, u195, u196, u197, u198, u199, u200, u201, u202, u203, u204, u205, u206, u207, u208, u209, u210, u211, u212, u213, u214, u215, u216, u217, u218, u219, u220, u221, u222, u223, u224, u225, u226, u227, u228, u229, u230, u231, u232, u233, u234, u235, u236, u237, u238, u239, u240, u241, u242, u243, u244, u245, u246, u247, u248, u249, u250, u251, u252, u253, u254, u255, u256, u257, u258, u259, u260, u261, u262, u263, u264, u265, u266], []⟩ W') :
    Code.wp Try.prog sob2 Q ⟨#[u0, u1, .pointer (some ⟨Bp, 0, none⟩), u3, u4, u5, .pointer (some ⟨x, 0, none⟩), u7, v, u9, .pointer (some ⟨Bo, 0, none⟩), u11, u12, u13, u14, u15, u16, u17, u18, u19, u20, u21, u22, u23, u24, u25, u26, u27, u28, u29, u30, u31, u32, u33, u34, u35, u36, u37, u38, u39, u40, u41, u42, u43, u44, u45, u46, u47, u48, u49, u50, u51, u52, u53, u54, u55, u56, u57, u58, u59, u60, u61, u62, u63, .int .i64 kd, u65, u66, u67, u68, u69, u70, u71, u72, u73, u74, u75, u76, u77, u78, u79, u80, u81, u82, u83, u84, u85, u86, u87, u88, u89, u90, u91, u92, u93, u94, u95, u96, u97, u98, u99, u100, u101, u102, u103, u104, u105, u106, u107, u108, u109, u110, u111, u112, u113, u114, u115, u116, u117, u118, u119, u120, u121, u122, u123, u124, u125, u126, u127, u128, u129, u130, u131, u132, u133, u134, u135, u136, u137, u138, u139, u140, u141, u142, u143, u144, u145, u146, u147, u148, u149, u150, u151, u152, u153, u154, u155, u156, u157, u158, u159, u160, u161, u162, u163, u164, u165, u166, u167, u168, u169, u170, u171, u172, u173, u174, u175, u176, u177, u178, u179, u180, u181, u182, u183, u184, u185, u186, u187, u188, u189, u190, u191, u192, u193, u194, u195, u196, u197, u198, u199, u200, u201, u202, u203, u204, u205, u206, u207, u208, u209, u210, u211, u212, u213, u214, u215, u216, u217, u218, u219, u220, u221, u222, u223, u224, u225, u226, u227, u228, u229, u230, u231, u232, u233, u234, u235, u236, u237, u238, u239, u240, u241, u242, u243, u244, u245, u246, u247, u248, u249, u250, u251, u252, u253, u254, u255, u256, u257, u258, u259, u260, u261, u262, u263, u264, u265, u266], []⟩ X := by
  have HQ := Hid.mk hQ
  clear hQ
  have g0 := HA.out.1.box (j := 0) (List.Mem.head _) rfl
  have g1 := HA.out.1.box (j := 1) (List.Mem.head _) rfl
  have x0 := HA.out.1.box (B := x) (j := 0) (List.Mem.tail _ (List.Mem.head _)) rfl
  have x1 := HA.out.1.box (B := x) (j := 1) (List.Mem.tail _ (List.Mem.head _)) rfl
  have HA0 : Hid (L.live.length ≤ k) := HA.out.2.2.2
  conv => arg 2; whnf
  have z0 : (kd == 0) = false := by simp [hk0]
  have z1 : (kd == 1) = false := by simp [hk1]
  have z3 : (kd == 3) = false := by simp [hk3]
  go_wp2_with fail
  refine HQ.out _ _ _ _ _ _ _ _ _ _ _ _ _ _ _ _ _ _ _ _ _ _ _ _ _ _ _ _ _ _ _ _ _ _ _ _ _ _ _ _ _ _ _ _ _ _ _ _ _ _ _ _ _ _ _ _ _ _ _ _ _ _ _ _ _ _ _ _ _ _ _ _ _ _ _ _ _ _ _ _ _ _ _ _ _ _ _ _ _ ?_
  obtain ⟨hA, hI, hl, hll⟩ := HA.out
  exact ⟨S, L, hA.sub (fun y hy => List.Mem.tail _ hy), hI, by omega, by omega⟩
end Go.Proofs.Ytkooogllajmkeaa
/- Chapter 24's arguments: a slice of structs of two numbers, and a struct of two, as they come in. -/
namespace Go.Proofs.Ytkooogllajmkeaa
open Go.ChangeShapes Go.WideShapes Go.RowKit Go.Deep
theorem Try.cells80 : Try.prog.cellsOf 80 = 2 := by kernel_rfl
theorem Try.cells70 : Try.prog.cellsOf 70 = 2 := by kernel_rfl
/-- a slice of pairs that comes in -/
def RdIn (w : World) (v : Value) (os : List (Int × Int)) : Prop := (∃ ao c, v = .slice ao os.length c) ∧ os.length ≤ maxLen ∧ (∀ x ∈ os, In64 x.1 ∧ In64 x.2) ∧ (0 < os.length → Rd w v os)
set_option maxRecDepth 100000 in
theorem open_pair {H : Type} {enc : TypeId × Value → H} {w : World} {base fuel : Nat} {spare : Nat → Bool} {held : Bool} {cs : List Value} {x : DataW H × List MemPlace}
    (h : DataW.trod enc Try.prog w base spare held fuel 80 cs = some x) (hl : cs.length = 2) :
    ∃ y : Int × Int, (In64 y.1 ∧ In64 y.2) ∧ cs = [.int .i64 y.1, .int .i64 y.2] := by
  obtain ⟨xs, n, _, _, _, hlen, hf⟩ := DataW.trod_struct Try.underlying80 h
  match cs, hl with
  | [v0, v1], _ =>
  match xs, hlen with
  | [y0, y1], _ =>
  have f0 : DataW.trod enc Try.prog w base spare held n 3 (([v0, v1].drop 0).take (Try.prog.cellsOf 3)) = some y0 := hf 0 _ rfl
  have f1 : DataW.trod enc Try.prog w base spare held n 3 (([v0, v1].drop 1).take (Try.prog.cellsOf 3)) = some y1 := hf 1 _ rfl
  rw [Try.cells3] at f0 f1
  simp only [List.drop, List.take] at f0 f1
  obtain ⟨k, e0, _, b0⟩ := DataW.trod_int Try.underlying3 f0
  obtain ⟨m, e1, _, b1⟩ := DataW.trod_int Try.underlying3 f1
  simp only [List.cons.injEq, and_true] at e0 e1
  subst e0 e1
  exact ⟨(k, m), ⟨in64_of_wf b0, in64_of_wf b1⟩, rfl⟩
set_option maxRecDepth 100000 in
theorem open_pairs {H : Type} {enc : TypeId × Value → H} {w : World} {base : Nat} {spare : Nat → Bool} {held : Bool} {v : Value} {d : DataW H} {ps : List MemPlace} {r : Reach} {b0 : Nat}
    (hval : Value.okWide Try.prog w r b0 71 v) (h : DataW.Trod enc Try.prog w base spare held 71 v d ps) : ∃ os, RdIn w v os := by
  obtain ⟨a0, l0, c0, rfl⟩ := okWide_slice Try.underlying71 hval
  obtain ⟨fuel, h⟩ := h
  rcases open_slice Try.underlying71 h with ⟨hcs, _⟩ | ⟨a, len, cap, m, n, D, Pl, hcs, hb, hl, hm, hmm, _, hx⟩
  · simp [Value.cells] at hcs
    obtain ⟨rfl, rfl, rfl⟩ := hcs
    exact ⟨[], ⟨none, 0, rfl⟩, by simp, by simp, by simp⟩
  · simp [Value.cells] at hcs
    obtain ⟨rfl, rfl, rfl⟩ := hcs
    have hlm : l0 ≤ m := by rw [hmm]; split <;> omega
    rcases Nat.eq_zero_or_pos l0 with h0 | h0
    · subst h0
      exact ⟨[], ⟨_, _, rfl⟩, by simp, by simp, by simp⟩
    obtain ⟨ab, ao, sq⟩ := a
    have hs : sq = none := by
      obtain ⟨cs, h1, h2⟩ := hx 0 (by omega)
      rw [Try.cells80] at h1
      obtain ⟨_, hlen, hcell⟩ := World.cells?_some h1
      obtain ⟨y, hy, rfl⟩ := open_pair h2 hlen
      have c := hcell 0 (by omega)
      have := World.cell?_spot c
      simpa [Addr.add] using this
    subst hs
    have each : ∀ i, i < l0 → ∃ y : Int × Int, (In64 y.1 ∧ In64 y.2) ∧ w.cell? ⟨ab, ao + i * 2, none⟩ = some (.int .i64 y.1) ∧ w.cell? ⟨ab, ao + i * 2 + 1, none⟩ = some (.int .i64 y.2) := by
      intro i hi
      obtain ⟨cs, h1, h2⟩ := hx i (by omega)
      rw [Try.cells80] at h1
      obtain ⟨_, hlen, hcell⟩ := World.cells?_some h1
      obtain ⟨y, hy, rfl⟩ := open_pair h2 hlen
      have c0 := hcell 0 (by omega)
      have c1 := hcell 1 (by omega)
      rw [add_add, add_plain] at c0 c1
      exact ⟨y, hy, by simpa using c0, by simpa [Nat.add_assoc] using c1⟩
    obtain ⟨f, hf⟩ := choose_lt each
    refine ⟨(List.range l0).map f, ⟨some ⟨ab, ao, none⟩, c0, by simp⟩, by simp; omega, ?_, fun hp => ?_⟩
    · intro x hx
      obtain ⟨i, hi, rfl⟩ := List.mem_map.1 hx
      exact (hf i (List.mem_range.1 hi)).1
    · refine .inr ⟨ab, ao, c0, by simp, cell_lt (hf 0 h0).2.1, fun i hi => ?_⟩
      have := (hf i (by simpa using hi)).2
      simpa using this
set_option maxRecDepth 100000 in
theorem open_segs {H : Type} {enc : TypeId × Value → H} {w : World} {base : Nat} {spare : Nat → Bool} {held : Bool} {v : Value} {d : DataW H} {ps : List MemPlace} {r : Reach} {b0 : Nat}
    (hval : Value.okWide Try.prog w r b0 70 v) (h : DataW.Trod enc Try.prog w base spare held 70 v d ps) : ∃ s c : Int, v = .agg #[.int .i64 s, .int .i64 c] ∧ In64 s ∧ In64 c := by
  obtain ⟨v0, v1, y0, y1, n, rfl, -, -, h0, h1⟩ := Joins.open_agg2 Try.underlying70 (by kernel_rfl) Try.cells70 hval h
  obtain ⟨k, e0, _, b0⟩ := DataW.trod_int Try.underlying3 h0
  obtain ⟨m, e1, _, b1⟩ := DataW.trod_int Try.underlying3 h1
  simp only [List.cons.injEq, and_true] at e0 e1
  subst e0 e1
  exact ⟨k, m, rfl, in64_of_wf b0, in64_of_wf b1⟩
end Go.Proofs.Ytkooogllajmkeaa
