/- Parts Uq Ur, put together. -/
import Derived.Test.YtpfnnmcokbolhaaGreatMd21
/- The twin's do: Call. -/
namespace Go.Proofs.YtpfnnmcokbolhaaGreat
open Go.RowKit
set_option pp.deepTerms true
section
variable {w W : World} {F G : List Asr} {t b p k g c : Nat} {sz ca many : Int} {C : Ch} {lv pv : Value} {ml l : List Mv} {x : Mv} {Q : List (Int × Pf)} {A : Asr} {T : Tw} {Z : List (Md × Af)} {n : Nat} {o : Op25} {sv av : Value} {last : Bool} {B0 : Nat}
theorem tw_ovCases (h : Sep w (twL t b lv pv (x :: l) Q many ++ G) W) : (x.ov = .slice none 0 0 ∧ x.m.ops = []) ∨ ∃ gs cs, x.ov = .slice (some ⟨gs, 0, none⟩) x.m.ops.length cs ∧ x.m.ops.length ≤ cs := by
  have ho : W.ownsRow 0 34 2 x.ov x.m.ops.length (wcells x.m.ops) := (tw_open h).owns (List.Mem.head _)
  rcases ho.2 with ⟨q, h0⟩ | ⟨g', cap, cur, q, _, _, hc, _⟩
  · exact .inl ⟨q, List.eq_nil_of_length_eq_zero h0⟩
  · exact .inr ⟨_, _, q, hc⟩
theorem tw_ovRd (h : Sep w (twL t b lv pv (x :: l) Q many ++ G) W) : Rd W x.ov x.m.ops := Rd.of_row ((tw_open h).owns (List.Mem.head _)) rfl
theorem subF1 {A : Asr} {L : List Asr} : List.Sublist F (L ++ (A :: F)) := (List.sublist_cons_self _ _).trans (List.sublist_append_right _ _)
set_option maxRecDepth 100000 in
set_option maxHeartbeats 4000000 in
theorem tdo_call {n' : Nat} {N' : Nt} {K : Act → World → Prop} {lm B10 : Nat} {v1 v2 : Int} {u2 u6 u7 u8 u11 u12 u13 u14 u15 u16 u17 u18 u19 u20 u21 u22 u23 u24 u25 u26 u27 u28 u29 u30 u31 u32 u33 u34 u35 u36 u37 u38 u39 u40 u41 u42 u43 u44 u45 u46 u47 u48 u49 u50 u51 u52 u53 u54 u55 u56 u57 u58 u59 u60 u61 u62 u63 u64 u65 u66 u67 u68 u69 u70 u71 u72 u73 u74 u75 u76 u77 u78 u79 u80 u81 u82 u83 u84 u85 u86 u87 u88 u89 u90 u91 u92 u93 u94 u95 u96 u97 u98 u99 u100 u101 u102 u103 u104 u105 u106 u107 u108 u109 u110 u111 u112 u113 u114 u115 u116 u117 u118 u119 u120 u121 u122 u123 u124 u125 u126 u127 u128 u129 u130 u131 u132 u133 u134 u135 u136 u137 u138 u139 u140 u141 u142 u143 u144 u145 u146 u147 u148 u149 u150 u151 u152 u153 u154 u155 u156 u157 u158 u159 u160 u161 u162 u163 u164 u165 u166 u167 u168 u169 u170 u171 u172 u173 u174 u175 u176 u177 u178 u179 u180 u181 u182 u183 u184 u185 u186 u187 u188 u189 u190 u191 u192 u193 u194 u195 u196 u197 u198 u199 u200 u201 u202 u203 u204 u205 u206 u207 u208 u209 u210 u211 u212 u213 u214 u215 u216 u217 u218 u219 u220 u221 u222 u223 u224 u225 u226 u227 u228 u229 u230 u231 u232 u233 u234 u235 u236 u237 u238 u239 u240 u241 u242 u243 u244 u245 u246 u247 u248 u249 u250 u251 u252 u253 u254 u255 u256 u257 u258 u259 u260 u261 u262 u263 u264 u265 u266 u267 u268 u269 u270 u271 u272 u273 u274 u275 u276 u277 u278 u279 u280 u281 u282 u283 u284 u285 u286 u287 u288 u289 u290 u291 u292 u293 u294 u295 u296 u297 u298 u299 u300 u301 u302 u303 u304 u305 u306 u307 u308 u309 u310 u311 u312 u313 u314 u315 u316 u317 u318 u319 u320 u321 u322 u323 u324 u325 u326 u327 u328 u329 u330 u331 u332 u333 u334 u335 u336 u337 u338 : Value} (H0 : Hid (Sep w (twL t b (.slice (some ⟨g, 0, none⟩) (l.length + 1 : Nat) c) pv (x :: l) Q many ++ chP b p k sz ca C (bx B10 (.cells #[.int .i64 v1, .int .i64 v2] 34) :: bx B0 (.cells #[.int .i64 o.kind, .int .i64 o.n, sv, .int .i64 o.l.args, .int .i64 o.l.res, .int .i64 o.l.height, av, .int .i64 o.v.1, .int .i64 o.v.2, .bool last] 36) :: F)) W)) (hs : Sim sz ca n ⟨C, (x :: l).map (·.m), Q, many⟩ Z) (hn : n ≤ 280) (hn' : n + 1 ≤ n') (hlm : l.length = lm) (hv : o.val = (v1, v2)) (hN : stepN (Tw.N ⟨C, (x :: l).map (·.m), Q, many⟩) o = N') (hK : Hid (∀ (tm : Array Value) (W' : World), tm.size = 339 → TwR w W' t b p k sz ca n' N' F → K ⟨tm, []⟩ W')) (hki : o.kind = 0) (hsl : ∀ W', Sep w F W' → Rdi W' sv o.l.slots) (hcap : SlOk sv) (hlen : o.l.slots.length ≤ 100) :
    Code.wp Tryz.prog (pieceOf (Tryz.f8.body.getD .skip) [1, 1, 1, 1, 1, 1, 0, 1, 0, 1, 0]) (Exit.inBlock 2 (Exit.then K (bodyPost Tryz.prog Tryz.f8 (fun e w' => TwR w w' t b p k sz ca n' N' F ∧ e = .returned (.bool true))))) ⟨#[.pointer (some ⟨t, 0, none⟩), (.agg #[.int .i64 o.kind, .int .i64 o.n, sv, .int .i64 o.l.args, .int .i64 o.l.res, .int .i64 o.l.height, av, .int .i64 o.v.1, .int .i64 o.v.2, .bool last]), u2, .pointer (some ⟨B0, 0, none⟩), .bool false, .int .i64 ((lm : Int) + 1), u6, u7, u8, .pointer (some ⟨g, lm * 7, none⟩), .pointer (some ⟨B10, 0, none⟩), u11, u12, u13, u14, u15, u16, u17, u18, u19, u20, u21, u22, u23, u24, u25, u26, u27, u28, u29, u30, u31, u32, u33, u34, u35, u36, u37, u38, u39, u40, u41, u42, u43, u44, u45, u46, u47, u48, u49, u50, u51, u52, u53, u54, u55, u56, u57, u58, u59, u60, u61, u62, u63, u64, u65, u66, u67, u68, u69, u70, u71, u72, u73, u74, u75, u76, u77, u78, u79, u80, u81, u82, u83, u84, u85, u86, u87, u88, u89, u90, u91, u92, u93, u94, u95, u96, u97, u98, u99, u100, u101, u102, u103, u104, u105, u106, u107, u108, u109, u110, u111, u112, u113, u114, u115, u116, u117, u118, u119, u120, u121, u122, u123, u124, u125, u126, u127, u128, u129, u130, u131, u132, u133, u134, u135, u136, u137, u138, u139, u140, u141, u142, u143, u144, u145, u146, u147, u148, u149, u150, u151, u152, u153, u154, u155, u156, u157, u158, u159, u160, u161, u162, u163, u164, u165, u166, u167, u168, u169, u170, u171, u172, u173, u174, u175, u176, u177, u178, u179, u180, u181, u182, u183, u184, u185, u186, u187, u188, u189, u190, u191, u192, u193, u194, u195, u196, u197, u198, u199, u200, u201, u202, u203, u204, u205, u206, u207, u208, u209, u210, u211, u212, u213, u214, u215, u216, u217, u218, u219, u220, u221, u222, u223, u224, u225, u226, u227, u228, u229, u230, u231, u232, u233, u234, u235, u236, u237, u238, u239, u240, u241, u242, u243, u244, u245, u246, u247, u248, u249, u250, u251, u252, u253, u254, u255, u256, u257, u258, u259, u260, u261, u262, u263, u264, u265, u266, u267, u268, u269, u270, u271, u272, u273, u274, u275, u276, u277, u278, u279, u280, u281, u282, u283, u284, u285, u286, u287, u288, u289, u290, u291, u292, u293, u294, u295, u296, u297, u298, u299, u300, u301, u302, u303, u304, u305, u306, u307, u308, u309, u310, u311, u312, u313, u314, u315, u316, u317, u318, u319, u320, u321, u322, u323, u324, u325, u326, u327, u328, u329, u330, u331, u332, u333, u334, u335, u336, u337, u338], []⟩ W := by
  conv => arg 2; whnf
  have hok := hs.ok (by omega)
  have h1 := tw_lose H0.out
  have HX : Hid (∀ {C' W'}, Sep w (chP b p k sz ca C' (twL t b (.slice (some ⟨g, 0, none⟩) (l.length + 1 : Nat) c) pv (x :: l) Q many ++ (bx B0 (.cells #[.int .i64 o.kind, .int .i64 o.n, sv, .int .i64 o.l.args, .int .i64 o.l.res, .int .i64 o.l.height, av, .int .i64 o.v.1, .int .i64 o.v.2, .bool last] 36) :: F))) W' → W'.cell? ⟨t, 0, none⟩ = some (.pointer (some ⟨b, 0, none⟩)) ∧ W'.cell? ⟨B0, 2, none⟩ = some sv ∧ W'.cell? ⟨B0, 3, none⟩ = some (.int .i64 o.l.args) ∧ W'.cell? ⟨B0, 4, none⟩ = some (.int .i64 o.l.res) ∧ W'.cell? ⟨B0, 5, none⟩ = some (.int .i64 o.l.height)) := fun {C' W'} q => by
    have q' := ch_tw q
    obtain ⟨-, -, e2, e3, e4, e5, -, -⟩ := ten_cells q' (q := B0) (tw_mem (List.Mem.head _))
    exact ⟨(tw_k q').1, e2, e3, e4, e5⟩
  obtain ⟨s0, s1, s2, s3, s4⟩ := HX.out (tw_ch h1)
  have HP := ccall_any (place := 1) (tw_ch h1.drew) hok (fun W' q => hsl W' (Sep.sub q subF1)) (by omega) hcap
  have HSIM := Hid.mk hs
  have HLM := Hid.mk hlm
  have HSL := Hid.mk hsl
  have HCAP := Hid.mk hcap
  cases hh : callOk o.l 1 x.m
  · have hno := hs.call_no rfl hh
    rw [hno] at HP
    have HP := Hid.mk HP
    have HNN' : Hid (N' = (Tw.N ⟨C, (x :: l).map (·.m), Q, many⟩)) := by
      rw [← hN]
      unfold Hid stepN Tw.N
      simp only [List.map_cons]
      rw [if_pos hki, hh]
      rfl
    clear hok hs hno hh hlm hki hN hv hsl hcap h1
    go_upto_region 18 with (fail)
    go_region_held3 (fun X => X.cell? ⟨t, 0, none⟩ = some (.pointer (some ⟨b, 0, none⟩)) ∧ X.cell? ⟨B0, 2, none⟩ = some sv ∧ X.cell? ⟨B0, 3, none⟩ = some (.int .i64 o.l.args) ∧ X.cell? ⟨B0, 4, none⟩ = some (.int .i64 o.l.res) ∧ X.cell? ⟨B0, 5, none⟩ = some (.int .i64 o.l.height)) (first | exact s9 | exact ⟨s0, s1, s2, s3, s4⟩) (first | (go_at_call 24; refine HP.out.mono ?_; rintro e w6 ⟨h6, rfl⟩; have s9 := HX.out h6))
    have H6 := Hid.mk (tw_lose (ch_tw h6))
    clear h6 s9 HP HX s0 s1 s2 s3 s4
    go_wp2_with fail
    exact hK.out _ _ rfl ⟨_, _, ⟨_, _, _, rfl, H6.out⟩, HSIM.out.mono (by omega), HNN'.out.symm⟩
  · obtain ⟨r1, a0, a1, Z', hs2⟩ := hs.call (by omega) rfl hh
    simp only at r1 a1 hs2
    rw [r1] at HP
    obtain ⟨C2, hC2⟩ : ∃ C2, (callC sz C o.l 1).2 = C2 := ⟨_, rfl⟩
    rw [hC2] at HP hs2
    have HP := Hid.mk HP
    obtain ⟨na, hna⟩ := Int.eq_ofNat_of_zero_le a0
    obtain ⟨m, hm⟩ : ∃ m, x.m.ops.length = m := ⟨_, rfl⟩
    obtain ⟨-, -, -, -, hol⟩ := hs.md (m := x.m) (by simp)
    rw [hna, Int.toNat_natCast, hm] at hs2
    rw [hm] at hol
    have hnam : na ≤ m := by omega
    obtain ⟨kk, hkk⟩ : ∃ kk, m - na = kk := ⟨_, rfl⟩
    rw [hkk] at hs2
    have HS2 := Hid.mk hs2
    have HM := Hid.mk hm
    have HDA : Hid ((1 : Int) * 128 + (m : Int) = 128 + (x.m.ops.length : Int)) := by unfold Hid; rw [hm]; omega
    have hlay : layOk o.l = true := by
      have := hh
      simp only [callOk, Bool.and_eq_true] at this
      exact (can_iff' this.1.1).1
    have HLO := Hid.mk hlay
    have hal := ((layOk_iff _).1 hlay).2.2.2.1
    have HDR : Hid (m - kk ≤ o.l.slots.length) := by unfold Hid; omega
    have HNN' : Hid (N' = Tw.N ⟨C2, ⟨o.l, fillV o.l.slots (x.m.ops.drop kk), [], many + 1, 128 + x.m.ops.length⟩ :: x.m.withOps (x.m.ops.take kk) :: l.map (·.m), Q, many + 1⟩) := by
      rw [← hN]
      unfold Hid stepN Tw.N
      simp only [List.map_cons]
      rw [if_pos hki, hh]
      simp only [if_true]
      unfold Nt.begun
      simp only [hna, Int.toNat_natCast, hm, hkk]
    have hm1 := hs.n1
    simp only at hm1
    have HMN : Hid (0 ≤ many ∧ many ≤ 1000) := by unfold Hid; omega
    have HLL : Hid (l.length ≤ 280) := by
      have := hs.len.1
      unfold Hid
      simp at this
      omega
    rw [hna] at s2
    have w1 : IntKind.i64.wrap ((m : Int) - (na : Int)) = (kk : Int) := by rw [IntKind.wrap_i64]; omega
    have hkm : kk ≤ m := by omega
    have hkm' : (kk : Int) ≤ (m : Int) := by omega
    have HNA := Hid.mk hna
    clear hs hs2 hok hh hki hN hv hlm hsl hcap h1 r1 a0 a1 hC2 hna hm hkk hlay hal hm1
    go_upto_region 18 with (fail)
    go_region_held3 (fun X => X.cell? ⟨t, 0, none⟩ = some (.pointer (some ⟨b, 0, none⟩)) ∧ X.cell? ⟨B0, 2, none⟩ = some sv ∧ X.cell? ⟨B0, 3, none⟩ = some (.int .i64 (na : Int)) ∧ X.cell? ⟨B0, 4, none⟩ = some (.int .i64 o.l.res) ∧ X.cell? ⟨B0, 5, none⟩ = some (.int .i64 o.l.height)) (first | exact s9 | exact ⟨s0, s1, s2, s3, s4⟩) (first | (go_at_call 24; rw [← HNA.out]; refine HP.out.mono ?_; rintro e w6 ⟨h6, rfl⟩; have s9 := HX.out h6; rw [HNA.out] at s9))
    have h7 := ch_tw h6
    obtain ⟨-, -, -, -, -, -, k5, -, -⟩ := tw_topAt h7
    rw [HLM.out] at k5
    have hcase := tw_ovCases h7
    rw [HM.out] at hcase
    obtain ⟨t0, t1, t2, t3, t4⟩ := s9
    have H7 := Hid.mk h7
    clear h6 h7 HX HP s0 s1 s2 s3 s4
    rcases hcase with ⟨hov, hnil⟩ | ⟨gs, cs, hov, hcs⟩
    · have hz : m = 0 := by rw [← HM.out, hnil]; rfl
      obtain rfl : na = 0 := by omega
      obtain rfl : kk = 0 := by omega
      subst hz
      have HAPP : Hid (∀ X, Sep w (twL t b (.slice (some ⟨g, 0, none⟩) (l.length + 1 : Nat) c) pv (x :: l) Q many ++ chP b p k sz ca C2 (bx B0 (.cells #[.int .i64 o.kind, .int .i64 o.n, sv, .int .i64 o.l.args, .int .i64 o.l.res, .int .i64 o.l.height, av, .int .i64 o.v.1, .int .i64 o.v.2, .bool last] 36) :: F)) X → AppArg X (.slice none 0 0) 0 2 (wcells (x.m.ops.drop 0))) := fun X q => by
        rw [hnil]
        exact ⟨rfl, by simp [wcells], .inl ⟨rfl, rfl⟩⟩
      clear hnil
      have HOV := Hid.mk hov
      rw [hov] at k5
      clear hov
      go_upto_region 19 with (fail)
      go_quiet (fail)
      have h8 := Sep.keep H7.out (below_drewN (Below.refl w6.heap.size w6) nq)
      obtain ⟨X7, hX7⟩ : ∃ X, X = w6.drewN nq := ⟨_, rfl⟩
      rw [← hX7] at h8 ⊢
      obtain ⟨-, -, -, -, -, -, k5, -, -⟩ := tw_topAt h8
      rw [HLM.out, HOV.out] at k5
      have k5 := alloc_cell (o := .cells #[] 34) k5
      have h9 := Sep.lit h8 34 2
      have HRW := Hid.mk (Sep.owns h9 (List.Mem.head _))
      have HAP := Hid.mk (HAPP.out _ h9.tl)
      have H9 := Hid.mk h9
      obtain ⟨i0, hi, hz0, hz1, hz2⟩ := info_parts infoV
      clear h8 h9 hX7 H7 HAPP
      go_wp2_with (at_builtin; refine wpList_append_x _ rfl _ _ _ (by rfl) 0 34 i0 (.agg #[.int .i64 0, .int .i64 0]) 2 16 Tryz.underlying32 hi hz0 hz1 hz2 rfl (by decide) (.slice (some ⟨X7.heap.size, 0, none⟩) 0 0) 0 [] rfl HRW.out 0 (wcells (x.m.ops.drop 0)) (.slice none 0 0) rfl HAP.out (by unfold maxLen; omega) (by omega) (Nat.zero_le _) ?_)
      intro a2 cap2 w10 hown2 hg2 hat2
      have h10 := Sep.grown' H9.out hown2 hg2 (by rw [World.size_alloc]; exact hat2)
      have h11 : Sep w (twL t b (.slice (some ⟨g, 0, none⟩) (l.length + 1 : Nat) c) pv (x :: l) Q many ++ chP b p k sz ca C2 (vrow (.slice a2 0 cap2) (x.m.ops.drop 0) :: bx B0 (.cells #[.int .i64 o.kind, .int .i64 o.n, sv, .int .i64 o.l.args, .int .i64 o.l.res, .int .i64 o.l.height, av, .int .i64 o.v.1, .int .i64 o.v.2, .bool last] 36) :: F)) w10 := by
        have e : rw_ 0 34 2 (.slice a2 0 cap2) 0 (wcells (x.m.ops.drop 0)) = vrow (.slice a2 0 cap2) (x.m.ops.drop 0) := by
          unfold vrow
          rw [List.length_drop, HM.out]
        first | rw [e] at h10 | (rw [List.drop_zero] at e; rw [e] at h10)
        exact tw_in h10
      obtain ⟨-, -, -, -, -, -, k5', -, kz⟩ := tw_topAt h11
      rw [HLM.out, HOV.out] at k5'
      have kz5 := kz (lm * 7 + 5)
      have h12 := tw_opsCut (n2 := 0) h11 (by rw [HOV.out, HM.out]) (by rw [HM.out]; omega)
      rw [HLM.out] at h12
      have h12' : Sep w (twL t b (.slice (some ⟨g, 0, none⟩) (l.length + 1 : Nat) c) pv ({ x with ov := .slice none 0 0, m := x.m.withOps (x.m.ops.take 0) } :: l) Q many ++ chP b p k sz ca C2 (vrow (.slice a2 0 cap2) (x.m.ops.drop 0) :: bx B0 (.cells #[.int .i64 o.kind, .int .i64 o.n, sv, .int .i64 o.l.args, .int .i64 o.l.res, .int .i64 o.l.height, av, .int .i64 o.v.1, .int .i64 o.v.2, .bool last] 36) :: F)) (w10.setCell ⟨g, lm * 7 + 5, none⟩ (.slice none 0 0)) := by rw [HLM.out]; exact h12
      obtain ⟨-, -, e2, e3, e4, e5, -, -⟩ := ten_cells h12' (q := B0) (tw_mem (List.Mem.tail _ (List.Mem.head _)))
      have HB := Hid.mk (tdo_begun h12' HSL.out HCAP.out HLO.out (by rw [List.length_drop, HM.out]; have := HDR.out; omega) (by have := HLL.out; rw [List.length_cons]; omega) HMN.out (128 + x.m.ops.length))
      clear h10 h11 h12 h12' hown2 hg2 hat2 HRW HAP H9 kz k5
      go_wp2_with fail
      refine HB.out.mono ?_
      rintro e w13 ⟨⟨lv', y, h13, hy⟩, u, rfl⟩
      have H13 := Hid.mk h13
      have HY := Hid.mk hy
      clear HB h13 hy e2 e3 e4 e5 k5' kz5
      go_wp2_with fail
      refine hK.out _ _ rfl ⟨_, _, ⟨_, _, _, ?_, H13.out⟩, HS2.out.mono hn', ?_⟩
      · simp only [List.map_cons]
        rw [HY.out, HDA.out]
      · first | (rw [HNN'.out, ← HDA.out]; done) | (rw [HNN'.out, ← HDA.out]; rfl)
    · by_cases hcn : cs = kk
      · obtain rfl : m = cs := by omega
        obtain rfl : m = kk := by omega
        have HAPP : Hid (∀ X, Sep w (twL t b (.slice (some ⟨g, 0, none⟩) (l.length + 1 : Nat) c) pv (x :: l) Q many ++ chP b p k sz ca C2 (bx B0 (.cells #[.int .i64 o.kind, .int .i64 o.n, sv, .int .i64 o.l.args, .int .i64 o.l.res, .int .i64 o.l.height, av, .int .i64 o.v.1, .int .i64 o.v.2, .bool last] 36) :: F)) X → AppArg X (.slice (some ⟨gs, 0, none⟩) 0 0) 0 2 (wcells (x.m.ops.drop m))) := fun X q => by
          have e : x.m.ops.drop m = [] := List.drop_eq_nil_of_le (by rw [HM.out]; exact Nat.le_refl _)
          rw [e]
          exact ⟨rfl, by simp [wcells], .inr ⟨_, _, rfl, fun j u hu => by simp [wcells] at hu⟩⟩
        clear hcn
        have HOV := Hid.mk hov
        rw [hov] at k5
        clear hov
        go_upto_region 19 with (fail)
        go_quiet (fail)
        have h8 := Sep.keep H7.out (below_drewN (Below.refl w6.heap.size w6) nq)
        obtain ⟨X7, hX7⟩ : ∃ X, X = w6.drewN nq := ⟨_, rfl⟩
        rw [← hX7] at h8 ⊢
        obtain ⟨-, -, -, -, -, -, k5, -, -⟩ := tw_topAt h8
        rw [HLM.out, HOV.out] at k5
        have k5 := alloc_cell (o := .cells #[] 34) k5
        have h9 := Sep.lit h8 34 2
        have HRW := Hid.mk (Sep.owns h9 (List.Mem.head _))
        have HAP := Hid.mk (HAPP.out _ h9.tl)
        have H9 := Hid.mk h9
        obtain ⟨i0, hi, hz0, hz1, hz2⟩ := info_parts infoV
        clear h8 h9 hX7 H7 HAPP
        go_wp2_with (at_builtin; refine wpList_append_x _ rfl _ _ _ (by rfl) 0 34 i0 (.agg #[.int .i64 0, .int .i64 0]) 2 16 Tryz.underlying32 hi hz0 hz1 hz2 rfl (by decide) (.slice (some ⟨X7.heap.size, 0, none⟩) 0 0) 0 [] rfl HRW.out 0 (wcells (x.m.ops.drop m)) (.slice (some ⟨gs, 0, none⟩) 0 0) rfl HAP.out (by unfold maxLen; omega) (by omega) (Nat.zero_le _) ?_)
        intro a2 cap2 w10 hown2 hg2 hat2
        have h10 := Sep.grown' H9.out hown2 hg2 (by rw [World.size_alloc]; exact hat2)
        have h11 : Sep w (twL t b (.slice (some ⟨g, 0, none⟩) (l.length + 1 : Nat) c) pv (x :: l) Q many ++ chP b p k sz ca C2 (vrow (.slice a2 0 cap2) (x.m.ops.drop m) :: bx B0 (.cells #[.int .i64 o.kind, .int .i64 o.n, sv, .int .i64 o.l.args, .int .i64 o.l.res, .int .i64 o.l.height, av, .int .i64 o.v.1, .int .i64 o.v.2, .bool last] 36) :: F)) w10 := by
          have e : rw_ 0 34 2 (.slice a2 0 cap2) 0 (wcells (x.m.ops.drop m)) = vrow (.slice a2 0 cap2) (x.m.ops.drop m) := by
            unfold vrow
            rw [List.length_drop, HM.out, Nat.sub_self]
          first | rw [e] at h10 | (rw [List.drop_zero] at e; rw [e] at h10)
          exact tw_in h10
        obtain ⟨-, -, -, -, -, -, k5', -, kz⟩ := tw_topAt h11
        rw [HLM.out, HOV.out] at k5'
        have kz5 := kz (lm * 7 + 5)
        have h12 := tw_opsCut (n2 := m) h11 (by rw [HOV.out, HM.out]) (by rw [HM.out]; omega)
        rw [HLM.out] at h12
        have h12' : Sep w (twL t b (.slice (some ⟨g, 0, none⟩) (l.length + 1 : Nat) c) pv ({ x with ov := .slice (some ⟨gs, 0, none⟩) m m, m := x.m.withOps (x.m.ops.take m) } :: l) Q many ++ chP b p k sz ca C2 (vrow (.slice a2 0 cap2) (x.m.ops.drop m) :: bx B0 (.cells #[.int .i64 o.kind, .int .i64 o.n, sv, .int .i64 o.l.args, .int .i64 o.l.res, .int .i64 o.l.height, av, .int .i64 o.v.1, .int .i64 o.v.2, .bool last] 36) :: F)) (w10.setCell ⟨g, lm * 7 + 5, none⟩ (.slice (some ⟨gs, 0, none⟩) m m)) := by rw [HLM.out]; exact h12
        obtain ⟨-, -, e2, e3, e4, e5, -, -⟩ := ten_cells h12' (q := B0) (tw_mem (List.Mem.tail _ (List.Mem.head _)))
        have HB := Hid.mk (tdo_begun h12' HSL.out HCAP.out HLO.out (by rw [List.length_drop, HM.out]; have := HDR.out; omega) (by have := HLL.out; rw [List.length_cons]; omega) HMN.out (128 + x.m.ops.length))
        clear h10 h11 h12 h12' hown2 hg2 hat2 HRW HAP H9 kz k5
        go_wp2_with fail
        refine HB.out.mono ?_
        rintro e w13 ⟨⟨lv', y, h13, hy⟩, u, rfl⟩
        have H13 := Hid.mk h13
        have HY := Hid.mk hy
        clear HB h13 hy e2 e3 e4 e5 k5' kz5
        go_wp2_with fail
        refine hK.out _ _ rfl ⟨_, _, ⟨_, _, _, ?_, H13.out⟩, HS2.out.mono hn', ?_⟩
        · simp only [List.map_cons]
          rw [HY.out, HDA.out]
        · first | (rw [HNN'.out, ← HDA.out]; done) | (rw [HNN'.out, ← HDA.out]; rfl)
      · have HAPP : Hid (∀ X, Sep w (twL t b (.slice (some ⟨g, 0, none⟩) (l.length + 1 : Nat) c) pv (x :: l) Q many ++ chP b p k sz ca C2 (bx B0 (.cells #[.int .i64 o.kind, .int .i64 o.n, sv, .int .i64 o.l.args, .int .i64 o.l.res, .int .i64 o.l.height, av, .int .i64 o.v.1, .int .i64 o.v.2, .bool last] 36) :: F)) X → AppArg X (.slice (some ⟨gs, kk * 2, none⟩) (m - kk) (cs - kk)) (m - kk) 2 (wcells (x.m.ops.drop kk))) := fun X q => by
          have hr := tw_ovRd q
          rw [hov] at hr
          have := (Rd.part hr HM.out (a := kk) (r := m - kk) (by omega) (cs - kk)).app
          rw [List.take_of_length_le (by rw [List.length_drop, HM.out]; exact Nat.le_refl _), List.length_drop, HM.out] at this
          exact this
        have HOV := Hid.mk hov
        rw [hov] at k5
        clear hov
        go_upto_region 19 with (fail)
        go_quiet (fail)
        have h8 := Sep.keep H7.out (below_drewN (Below.refl w6.heap.size w6) nq)
        obtain ⟨X7, hX7⟩ : ∃ X, X = w6.drewN nq := ⟨_, rfl⟩
        rw [← hX7] at h8 ⊢
        obtain ⟨-, -, -, -, -, -, k5, -, -⟩ := tw_topAt h8
        rw [HLM.out, HOV.out] at k5
        have k5 := alloc_cell (o := .cells #[] 34) k5
        have h9 := Sep.lit h8 34 2
        have HRW := Hid.mk (Sep.owns h9 (List.Mem.head _))
        have HAP := Hid.mk (HAPP.out _ h9.tl)
        have H9 := Hid.mk h9
        obtain ⟨i0, hi, hz0, hz1, hz2⟩ := info_parts infoV
        clear h8 h9 hX7 H7 HAPP
        go_wp2_with (at_builtin; refine wpList_append_x _ rfl _ _ _ (by rfl) 0 34 i0 (.agg #[.int .i64 0, .int .i64 0]) 2 16 Tryz.underlying32 hi hz0 hz1 hz2 rfl (by decide) (.slice (some ⟨X7.heap.size, 0, none⟩) 0 0) 0 [] rfl HRW.out (m - kk) (wcells (x.m.ops.drop kk)) (.slice (some ⟨gs, kk * 2, none⟩) (m - kk) (cs - kk)) rfl HAP.out (by unfold maxLen; omega) (by omega) (Nat.zero_le _) ?_)
        intro a2 cap2 w10 hown2 hg2 hat2
        have h10 := Sep.grown' H9.out hown2 hg2 (by rw [World.size_alloc]; exact hat2)
        have h11 : Sep w (twL t b (.slice (some ⟨g, 0, none⟩) (l.length + 1 : Nat) c) pv (x :: l) Q many ++ chP b p k sz ca C2 (vrow (.slice a2 (m - kk) cap2) (x.m.ops.drop kk) :: bx B0 (.cells #[.int .i64 o.kind, .int .i64 o.n, sv, .int .i64 o.l.args, .int .i64 o.l.res, .int .i64 o.l.height, av, .int .i64 o.v.1, .int .i64 o.v.2, .bool last] 36) :: F)) w10 := by
          have e : rw_ 0 34 2 (.slice a2 (m - kk) cap2) (m - kk) (wcells (x.m.ops.drop kk)) = vrow (.slice a2 (m - kk) cap2) (x.m.ops.drop kk) := by
            unfold vrow
            rw [List.length_drop, HM.out]
          first | rw [e] at h10 | (rw [List.drop_zero] at e; rw [e] at h10)
          exact tw_in h10
        obtain ⟨-, -, -, -, -, -, k5', -, kz⟩ := tw_topAt h11
        rw [HLM.out, HOV.out] at k5'
        have kz5 := kz (lm * 7 + 5)
        have h12 := tw_opsCut (n2 := kk) h11 (by rw [HOV.out, HM.out]) (by rw [HM.out]; omega)
        rw [HLM.out] at h12
        have h12' : Sep w (twL t b (.slice (some ⟨g, 0, none⟩) (l.length + 1 : Nat) c) pv ({ x with ov := .slice (some ⟨gs, 0, none⟩) kk cs, m := x.m.withOps (x.m.ops.take kk) } :: l) Q many ++ chP b p k sz ca C2 (vrow (.slice a2 (m - kk) cap2) (x.m.ops.drop kk) :: bx B0 (.cells #[.int .i64 o.kind, .int .i64 o.n, sv, .int .i64 o.l.args, .int .i64 o.l.res, .int .i64 o.l.height, av, .int .i64 o.v.1, .int .i64 o.v.2, .bool last] 36) :: F)) (w10.setCell ⟨g, lm * 7 + 5, none⟩ (.slice (some ⟨gs, 0, none⟩) kk cs)) := by rw [HLM.out]; exact h12
        obtain ⟨-, -, e2, e3, e4, e5, -, -⟩ := ten_cells h12' (q := B0) (tw_mem (List.Mem.tail _ (List.Mem.head _)))
        have HB := Hid.mk (tdo_begun h12' HSL.out HCAP.out HLO.out (by rw [List.length_drop, HM.out]; have := HDR.out; omega) (by have := HLL.out; rw [List.length_cons]; omega) HMN.out (128 + x.m.ops.length))
        clear h10 h11 h12 h12' hown2 hg2 hat2 HRW HAP H9 kz k5
        go_wp2_with fail
        refine HB.out.mono ?_
        rintro e w13 ⟨⟨lv', y, h13, hy⟩, u, rfl⟩
        have H13 := Hid.mk h13
        have HY := Hid.mk hy
        clear HB h13 hy e2 e3 e4 e5 k5' kz5
        go_wp2_with fail
        refine hK.out _ _ rfl ⟨_, _, ⟨_, _, _, ?_, H13.out⟩, HS2.out.mono hn', ?_⟩
        · simp only [List.map_cons]
          rw [HY.out, HDA.out]
        · first | (rw [HNN'.out, ← HDA.out]; done) | (rw [HNN'.out, ← HDA.out]; rfl)
end
end Go.Proofs.YtpfnnmcokbolhaaGreat
/- The twin's do: Pop. -/
namespace Go.Proofs.YtpfnnmcokbolhaaGreat
open Go.RowKit
set_option pp.deepTerms true
section
variable {w W : World} {F G : List Asr} {t b p k g c : Nat} {sz ca many : Int} {C : Ch} {lv pv : Value} {ml l : List Mv} {x : Mv} {Q : List (Int × Pf)} {A : Asr} {T : Tw} {Z : List (Md × Af)} {n : Nat} {o : Op25} {sv av : Value} {last : Bool} {B0 : Nat}
set_option maxRecDepth 100000 in
set_option maxHeartbeats 4000000 in
theorem tdo_pop {n' : Nat} {N' : Nt} {K : Act → World → Prop} {lm B10 : Nat} {v1 v2 : Int} {u2 u6 u7 u8 u11 u12 u13 u14 u15 u16 u17 u18 u19 u20 u21 u22 u23 u24 u25 u26 u27 u28 u29 u30 u31 u32 u33 u34 u35 u36 u37 u38 u39 u40 u41 u42 u43 u44 u45 u46 u47 u48 u49 u50 u51 u52 u53 u54 u55 u56 u57 u58 u59 u60 u61 u62 u63 u64 u65 u66 u67 u68 u69 u70 u71 u72 u73 u74 u75 u76 u77 u78 u79 u80 u81 u82 u83 u84 u85 u86 u87 u88 u89 u90 u91 u92 u93 u94 u95 u96 u97 u98 u99 u100 u101 u102 u103 u104 u105 u106 u107 u108 u109 u110 u111 u112 u113 u114 u115 u116 u117 u118 u119 u120 u121 u122 u123 u124 u125 u126 u127 u128 u129 u130 u131 u132 u133 u134 u135 u136 u137 u138 u139 u140 u141 u142 u143 u144 u145 u146 u147 u148 u149 u150 u151 u152 u153 u154 u155 u156 u157 u158 u159 u160 u161 u162 u163 u164 u165 u166 u167 u168 u169 u170 u171 u172 u173 u174 u175 u176 u177 u178 u179 u180 u181 u182 u183 u184 u185 u186 u187 u188 u189 u190 u191 u192 u193 u194 u195 u196 u197 u198 u199 u200 u201 u202 u203 u204 u205 u206 u207 u208 u209 u210 u211 u212 u213 u214 u215 u216 u217 u218 u219 u220 u221 u222 u223 u224 u225 u226 u227 u228 u229 u230 u231 u232 u233 u234 u235 u236 u237 u238 u239 u240 u241 u242 u243 u244 u245 u246 u247 u248 u249 u250 u251 u252 u253 u254 u255 u256 u257 u258 u259 u260 u261 u262 u263 u264 u265 u266 u267 u268 u269 u270 u271 u272 u273 u274 u275 u276 u277 u278 u279 u280 u281 u282 u283 u284 u285 u286 u287 u288 u289 u290 u291 u292 u293 u294 u295 u296 u297 u298 u299 u300 u301 u302 u303 u304 u305 u306 u307 u308 u309 u310 u311 u312 u313 u314 u315 u316 u317 u318 u319 u320 u321 u322 u323 u324 u325 u326 u327 u328 u329 u330 u331 u332 u333 u334 u335 u336 u337 u338 : Value} (H0 : Hid (Sep w (twL t b (.slice (some ⟨g, 0, none⟩) (l.length + 1 : Nat) c) pv (x :: l) Q many ++ chP b p k sz ca C (bx B10 (.cells #[.int .i64 v1, .int .i64 v2] 34) :: bx B0 (.cells #[.int .i64 o.kind, .int .i64 o.n, sv, .int .i64 o.l.args, .int .i64 o.l.res, .int .i64 o.l.height, av, .int .i64 o.v.1, .int .i64 o.v.2, .bool last] 36) :: F)) W)) (hs : Sim sz ca n ⟨C, (x :: l).map (·.m), Q, many⟩ Z) (hn : n ≤ 280) (hn' : n ≤ n') (hlm : l.length = lm) (hv : o.val = (v1, v2)) (hN : stepN (Tw.N ⟨C, (x :: l).map (·.m), Q, many⟩) o = N') (hK : Hid (∀ (tm : Array Value) (W' : World), tm.size = 339 → TwR w W' t b p k sz ca n' N' F → K ⟨tm, []⟩ W')) (hki : o.kind = 6) :
    Code.wp Tryz.prog (pieceOf (Tryz.f8.body.getD .skip) [1, 1, 1, 1, 1, 1, 0, 1, 0, 1, 1, 1, 1, 1, 1, 1, 1, 1, 1, 1, 0]) (Exit.inBlock 2 (Exit.then K (bodyPost Tryz.prog Tryz.f8 (fun e w' => TwR w w' t b p k sz ca n' N' F ∧ e = .returned (.bool true))))) ⟨#[.pointer (some ⟨t, 0, none⟩), (.agg #[.int .i64 o.kind, .int .i64 o.n, sv, .int .i64 o.l.args, .int .i64 o.l.res, .int .i64 o.l.height, av, .int .i64 o.v.1, .int .i64 o.v.2, .bool last]), u2, .pointer (some ⟨B0, 0, none⟩), .bool false, .int .i64 ((lm : Int) + 1), u6, u7, u8, .pointer (some ⟨g, lm * 7, none⟩), .pointer (some ⟨B10, 0, none⟩), u11, u12, u13, u14, u15, u16, u17, u18, u19, u20, u21, u22, u23, u24, u25, u26, u27, u28, u29, u30, u31, u32, u33, u34, u35, u36, u37, u38, u39, u40, u41, u42, u43, u44, u45, u46, u47, u48, u49, u50, u51, u52, u53, u54, u55, u56, u57, u58, u59, u60, u61, u62, u63, u64, u65, u66, u67, u68, u69, u70, u71, u72, u73, u74, u75, u76, u77, u78, u79, u80, u81, u82, u83, u84, u85, u86, u87, u88, u89, u90, u91, u92, u93, u94, u95, u96, u97, u98, u99, u100, u101, u102, u103, u104, u105, u106, u107, u108, u109, u110, u111, u112, u113, u114, u115, u116, u117, u118, u119, u120, u121, u122, u123, u124, u125, u126, u127, u128, u129, u130, u131, u132, u133, u134, u135, u136, u137, u138, u139, u140, u141, u142, u143, u144, u145, u146, u147, u148, u149, u150, u151, u152, u153, u154, u155, u156, u157, u158, u159, u160, u161, u162, u163, u164, u165, u166, u167, u168, u169, u170, u171, u172, u173, u174, u175, u176, u177, u178, u179, u180, u181, u182, u183, u184, u185, u186, u187, u188, u189, u190, u191, u192, u193, u194, u195, u196, u197, u198, u199, u200, u201, u202, u203, u204, u205, u206, u207, u208, u209, u210, u211, u212, u213, u214, u215, u216, u217, u218, u219, u220, u221, u222, u223, u224, u225, u226, u227, u228, u229, u230, u231, u232, u233, u234, u235, u236, u237, u238, u239, u240, u241, u242, u243, u244, u245, u246, u247, u248, u249, u250, u251, u252, u253, u254, u255, u256, u257, u258, u259, u260, u261, u262, u263, u264, u265, u266, u267, u268, u269, u270, u271, u272, u273, u274, u275, u276, u277, u278, u279, u280, u281, u282, u283, u284, u285, u286, u287, u288, u289, u290, u291, u292, u293, u294, u295, u296, u297, u298, u299, u300, u301, u302, u303, u304, u305, u306, u307, u308, u309, u310, u311, u312, u313, u314, u315, u316, u317, u318, u319, u320, u321, u322, u323, u324, u325, u326, u327, u328, u329, u330, u331, u332, u333, u334, u335, u336, u337, u338], []⟩ W := by
  conv => arg 2; whnf
  have hok := hs.ok (by omega)
  have h1 := tw_lose (tw_lose H0.out)
  have k0 := (tw_k h1).1
  have HP := cpop_any (tw_ch h1) hok
  have HSIM := Hid.mk hs
  have HLM := Hid.mk hlm
  have hql := hs.n2
  simp only at hql
  have HQL : Hid (Q.length ≤ 1000000) := Hid.mk (by omega)
  rcases List.eq_nil_or_concat x.m.ops with hnil | ⟨o0, y, hops⟩
  · have hno := hs.pop_no rfl hnil
    rw [hno] at HP
    have HP := Hid.mk HP
    have HNN' : Hid (N' = (Tw.N ⟨C, (x :: l).map (·.m), Q, many⟩)) := by
      rw [← hN]
      unfold Hid stepN Tw.N
      simp only [List.map_cons]
      rw [if_neg (by omega), if_neg (by omega), if_neg (by omega), if_neg (by omega), if_neg (by omega), if_pos hki]
      have e : x.m.withOps x.m.ops.dropLast = x.m := by
        cases hx : x.m with
        | mk a1 a2 a3 a4 a5 =>
          rw [hx] at hnil
          simp only at hnil
          subst hnil
          rfl
      rw [e]
    have HNIL := Hid.mk hnil
    clear hok hs hno hlm hki hN hv h1 hnil
    go_wp2_with fail
    refine HP.out.mono ?_
    rintro e w6 ⟨h6, rfl⟩
    have h7 := tw_more (ch_tw h6) (.cells #[.int .i64 0, .int .i64 0] 34)
    obtain ⟨-, -, -, -, -, -, k5, -, -⟩ := tw_topAt h7
    obtain ⟨ao, c2, hov, -, -⟩ := tw_ovShape h7
    rw [HNIL.out] at hov
    rw [HLM.out, hov] at k5
    simp only [List.length_nil] at k5
    have H6 := Hid.mk (tw_lose h7)
    clear h6 h7 HP k0 hov
    go_wp2_with fail
    exact hK.out _ _ rfl ⟨_, _, ⟨_, _, _, rfl, H6.out⟩, HSIM.out.mono (by omega), HNN'.out.symm⟩
  · have hops : x.m.ops = o0 ++ [y] := by rw [hops, List.concat_eq_append]
    obtain ⟨e1, Z', hs2⟩ := hs.pop rfl hops
    simp only at e1 hs2
    have hvo := ((hs.vo (m := x.m) (by simp)).2 y (by rw [hops]; simp)).2
    simp only at hvo
    obtain ⟨C2, hC2⟩ : ∃ C2, (popC C).2 = C2 := ⟨_, rfl⟩
    obtain ⟨⟨r1, r2⟩, hr⟩ : ∃ r, here Q y = r := ⟨_, rfl⟩
    rw [e1, hC2, hr] at HP
    rw [hC2] at hs2
    have HP := Hid.mk HP
    have HS2 := Hid.mk hs2
    obtain ⟨kk, hkk⟩ : ∃ kk, o0.length = kk := ⟨_, rfl⟩
    have hm : x.m.ops.length = kk + 1 := by rw [hops, List.length_append, hkk]; rfl
    obtain ⟨-, -, -, -, hol⟩ := hs.md (m := x.m) (by simp)
    rw [hm] at hol
    have HM := Hid.mk hm
    have HNN' : Hid (N' = Tw.N ⟨C2, x.m.withOps o0 :: l.map (·.m), Q, many⟩) := by
      rw [← hN]
      unfold Hid stepN Tw.N
      simp only [List.map_cons]
      rw [if_neg (by omega), if_neg (by omega), if_neg (by omega), if_neg (by omega), if_neg (by omega), if_pos hki, hops, List.dropLast_concat]
    have HTK : Hid (x.m.ops.take kk = o0) := by unfold Hid; rw [hops, ← hkk, List.take_left]
    obtain ⟨y1, y2⟩ := y
    have HY : Hid (∃ hj : kk < x.m.ops.length, x.m.ops[kk] = (y1, y2)) := ⟨by omega, by simp only [hops]; rw [List.getElem_append_right (by omega)]; simp [hkk]⟩
    have HT : Hid (∀ {ml' : List Mv} {lv' pv' : Value} {G' : List Asr} {W'}, Sep w (twL t b lv' pv' ml' Q many ++ G') W' → Calls Tryz.prog 30 #[.pointer (some ⟨t, 0, none⟩), .agg #[.int .i64 y1, .int .i64 y2]] W' fun e w' => Below W'.heap.size W' w' ∧ e = .returned (.agg #[.int .i64 r1, .int .i64 r2])) := fun {ml' lv' pv' G' W'} q => by
      have := there_any q (y1, y2) hvo HQL.out
      rw [hr] at this
      exact this
    have w1 : IntKind.i64.wrap (((kk + 1 : Nat) : Int) - 1) = (kk : Int) := by rw [IntKind.wrap_i64]; omega
    have w2 : IntKind.i64.wrap ((kk : Int) + 1 - 1) = (kk : Int) := by rw [IntKind.wrap_i64]; omega
    have w3 : IntKind.i64.wrap (kk : Int) = (kk : Int) := by rw [IntKind.wrap_i64]; omega
    have z0 : decide ((kk : Int) + 1 > 0) = true := by simp
    have z1 : decide (0 < (kk : Int) + 1) = true := by simp
    have hk3 : kk < kk + 1 := by omega
    have hk4 : (kk : Int) < (kk : Int) + 1 := by omega
    clear hok hs hs2 hlm hki hN hv h1 hops e1 hvo hC2 hr hkk hm
    go_wp2_with fail
    refine HP.out.mono ?_
    rintro e w6 ⟨h6, rfl⟩
    have h7 := tw_more (ch_tw h6) (.cells #[.int .i64 r1, .int .i64 r2] 34)
    obtain ⟨B17, hB17⟩ : ∃ B, w6.heap.size = B := ⟨_, rfl⟩
    obtain ⟨X7, hX7⟩ : ∃ X, X = w6.alloc (.cells #[.int .i64 r1, .int .i64 r2] 34) := ⟨_, rfl⟩
    rw [hB17, ← hX7] at h7
    obtain ⟨-, -, -, -, -, -, k5, -, -⟩ := tw_topAt h7
    rcases tw_ovCases h7 with ⟨-, q⟩ | ⟨gs, cs, hov, hcs⟩
    · have := HM.out; rw [q] at this; simp at this
    rw [HM.out] at hov hcs
    have hkc : kk ≤ cs := by omega
    have HOV := Hid.mk hov
    rw [HLM.out, hov] at k5
    obtain ⟨hjx, hy⟩ := HY.out
    obtain ⟨o0', o1'⟩ := tw_ovAt h7 hov HM.out hjx
    rw [hy] at o0' o1'
    have H7 := Hid.mk h7
    clear h6 h7 HP k0 hov hjx hy
    go_upto_region 45 with (fail)
    have hX7' : w6.alloc (.cells #[.int .i64 r1, .int .i64 r2] 34) = X7 := hX7.symm
    rw [hX7']
    clear hX7 hX7'
    go_upto_region 48 with (fail)
    have o0 := o0'
    have o1 := o1'
    clear o0' o1'
    refine wp_region_L 13 (fun X => X.cell? ⟨g, lm * 7 + 5, none⟩ = some (.slice (some ⟨gs, 0, none⟩) (kk + 1 : Nat) cs) ∧ X.cell? ⟨gs, kk * 2, none⟩ = some (.int .i64 y1) ∧ X.cell? ⟨gs, kk * 2 + 1, none⟩ = some (.int .i64 y2)) (by kernel_rfl) ⟨k5, o0, o1⟩ (fun hHeld => ?_)
    refine wpAnyL_take (i := 0) (v := ?_) rfl (by kernel_rfl) (by kernel_rfl) (by kernel_rfl) (by kernel_rfl) (fun _ _ _ h => h) (Or.inl ⟨by rfl, ?_⟩) (by assumption) ?_
    rotate_left
    · (intro w hSw; (try dsimp only at hSw); go_simp <;> with_reducible rfl)
    (try simp only [Act.put, List.getElem_toArray, List.getElem_cons_zero, List.getElem_cons_succ, List.setIfInBounds_toArray, List.set_cons_zero, List.set_cons_succ])
    refine wpAnyL_take (i := 1) (v := ?_) rfl (by kernel_rfl) (by kernel_rfl) (by kernel_rfl) (by kernel_rfl) (fun _ _ _ h => h) (Or.inl ⟨by rfl, ?_⟩) (by assumption) ?_
    rotate_left
    · (intro w hSw; (try dsimp only at hSw); go_simp <;> with_reducible rfl)
    (try simp only [Act.put, List.getElem_toArray, List.getElem_cons_zero, List.getElem_cons_succ, List.setIfInBounds_toArray, List.set_cons_zero, List.set_cons_succ])
    refine wpAnyL_take (i := 2) (v := ?_) rfl (by kernel_rfl) (by kernel_rfl) (by kernel_rfl) (by kernel_rfl) (fun _ _ _ h => h) (Or.inl ⟨by rfl, ?_⟩) (by assumption) ?_
    rotate_left
    · (intro w hSw; (try dsimp only at hSw); go_simp <;> with_reducible rfl)
    (try simp only [Act.put, List.getElem_toArray, List.getElem_cons_zero, List.getElem_cons_succ, List.setIfInBounds_toArray, List.set_cons_zero, List.set_cons_succ])
    refine wpAnyL_take (i := 3) (v := ?_) rfl (by kernel_rfl) (by kernel_rfl) (by kernel_rfl) (by kernel_rfl) (fun _ _ _ h => h) (Or.inl ⟨by rfl, ?_⟩) (by assumption) ?_
    rotate_left
    · (intro w hSw; (try dsimp only at hSw); go_simp <;> with_reducible rfl)
    (try simp only [Act.put, List.getElem_toArray, List.getElem_cons_zero, List.getElem_cons_succ, List.setIfInBounds_toArray, List.set_cons_zero, List.set_cons_succ])
    refine wpAnyL_take (i := 4) (v := ?_) rfl (by kernel_rfl) (by kernel_rfl) (by kernel_rfl) (by kernel_rfl) (fun _ _ _ h => h) (Or.inl ⟨by rfl, ?_⟩) (by assumption) ?_
    rotate_left
    · (intro w hSw; (try dsimp only at hSw); go_simp <;> with_reducible rfl)
    (try simp only [Act.put, List.getElem_toArray, List.getElem_cons_zero, List.getElem_cons_succ, List.setIfInBounds_toArray, List.set_cons_zero, List.set_cons_succ])
    refine wpAnyL_take (i := 5) (v := ?_) rfl (by kernel_rfl) (by kernel_rfl) (by kernel_rfl) (by kernel_rfl) (fun _ _ _ h => h) (Or.inl ⟨by rfl, ?_⟩) (by assumption) ?_
    rotate_left
    · (intro w hSw; (try dsimp only at hSw); go_simp <;> with_reducible rfl)
    (try simp only [Act.put, List.getElem_toArray, List.getElem_cons_zero, List.getElem_cons_succ, List.setIfInBounds_toArray, List.set_cons_zero, List.set_cons_succ])
    refine wpAnyL_take (i := 6) (v := ?_) rfl (by kernel_rfl) (by kernel_rfl) (by kernel_rfl) (by kernel_rfl) (fun _ _ _ h => h) (Or.inl ⟨by rfl, ?_⟩) (by assumption) ?_
    rotate_left
    · (intro w hSw; (try dsimp only at hSw); go_simp <;> with_reducible rfl)
    (try simp only [Act.put, List.getElem_toArray, List.getElem_cons_zero, List.getElem_cons_succ, List.setIfInBounds_toArray, List.set_cons_zero, List.set_cons_succ])
    refine wpAnyL_take (i := 7) (v := ?_) rfl (by kernel_rfl) (by kernel_rfl) (by kernel_rfl) (by kernel_rfl) (fun _ _ _ h => h) (Or.inl ⟨by rfl, ?_⟩) (by assumption) ?_
    rotate_left
    · (intro w hSw; (try dsimp only at hSw); go_simp <;> with_reducible rfl)
    (try simp only [Act.put, List.getElem_toArray, List.getElem_cons_zero, List.getElem_cons_succ, List.setIfInBounds_toArray, List.set_cons_zero, List.set_cons_succ])
    refine wpAnyL_take (i := 8) (v := ?_) rfl (by kernel_rfl) (by kernel_rfl) (by kernel_rfl) (by kernel_rfl) (fun _ _ _ h => h) (Or.inl ⟨by rfl, ?_⟩) (by assumption) ?_
    rotate_left
    · (intro w hSw; (try dsimp only at hSw); go_simp <;> with_reducible rfl)
    (try simp only [Act.put, List.getElem_toArray, List.getElem_cons_zero, List.getElem_cons_succ, List.setIfInBounds_toArray, List.set_cons_zero, List.set_cons_succ])
    refine wpAnyL_take (i := 9) (v := ?_) rfl (by kernel_rfl) (by kernel_rfl) (by kernel_rfl) (by kernel_rfl) (fun _ _ _ h => h) (Or.inl ⟨by rfl, ?_⟩) (by assumption) ?_
    rotate_left
    · (intro w hSw; (try dsimp only at hSw); go_simp <;> with_reducible rfl)
    (try simp only [Act.put, List.getElem_toArray, List.getElem_cons_zero, List.getElem_cons_succ, List.setIfInBounds_toArray, List.set_cons_zero, List.set_cons_succ])
    refine wpAnyL_take (i := 10) (v := ?_) rfl (by kernel_rfl) (by kernel_rfl) (by kernel_rfl) (by kernel_rfl) (fun _ _ _ h => h) (Or.inl ⟨by rfl, ?_⟩) (by assumption) ?_
    rotate_left
    · (intro w hSw; (try dsimp only at hSw); go_simp <;> with_reducible rfl)
    (try simp only [Act.put, List.getElem_toArray, List.getElem_cons_zero, List.getElem_cons_succ, List.setIfInBounds_toArray, List.set_cons_zero, List.set_cons_succ])
    refine wpAnyL_take (i := 11) (v := ?_) rfl (by kernel_rfl) (by kernel_rfl) (by kernel_rfl) (by kernel_rfl) (fun _ _ _ h => h) (Or.inl ⟨by rfl, ?_⟩) (by assumption) ?_
    rotate_left
    · (intro w hSw; (try dsimp only at hSw); go_simp <;> with_reducible rfl)
    (try simp only [Act.put, List.getElem_toArray, List.getElem_cons_zero, List.getElem_cons_succ, List.setIfInBounds_toArray, List.set_cons_zero, List.set_cons_succ])
    refine wpAnyL_only (i := 12) (by kernel_rfl) rfl (fun K hK => ?_)
    go_simp
    refine hK _ _ (fun _ => ⟨alloc_cell hHeld.1, alloc_cell hHeld.2.1, alloc_cell hHeld.2.2⟩) (fun hHeld0 => ?_)
    have hHeld := hHeld0 rfl
    clear hK K hHeld0
    (try simp only [Act.put, List.getElem_toArray, List.getElem_cons_zero, List.getElem_cons_succ, List.setIfInBounds_toArray, List.set_cons_zero, List.set_cons_succ])
    refine wpAnyL_only (i := 13) (by kernel_rfl) rfl (fun K hK => ?_)
    go_simp
    refine hK _ _ (fun q => by cases q) (fun hHeld0 => ?_)
    clear hK K hHeld0
    refine wpAnyL_done (by kernel_rfl) ?_
    have h8 := (tw_more H7.out (.cells #[.int .i64 y1, .int .i64 y2] 34)).drew
    obtain ⟨B19, hB19⟩ : ∃ B, X7.heap.size = B := ⟨_, rfl⟩
    obtain ⟨X8, hX8⟩ : ∃ X, X = (X7.alloc (.cells #[.int .i64 y1, .int .i64 y2] 34)).drew := ⟨_, rfl⟩
    rw [← hX8, hB19] at h8
    rw [← hX8, hB19]
    obtain ⟨-, -, -, -, -, -, k5', -, kz⟩ := tw_topAt h8
    rw [HLM.out, HOV.out] at k5'
    have kz5 := kz (lm * 7 + 5)
    have H8 := Hid.mk h8
    clear hX8 hB19 H7 hHeld k5 o0 o1 h8 kz
    go_upto_region 49 with (fail)
    refine wp_region_L 14 (fun X => X.cell? ⟨g, lm * 7 + 5, none⟩ = some (.slice (some ⟨gs, 0, none⟩) (kk + 1 : Nat) cs)) (by kernel_rfl) k5' (fun hHeld => ?_)
    refine wpAnyL_take (i := 0) (v := ?_) rfl (by kernel_rfl) (by kernel_rfl) (by kernel_rfl) (by kernel_rfl) (fun _ _ _ h => h) (Or.inl ⟨by rfl, ?_⟩) (by assumption) ?_
    rotate_left
    · (intro w hSw; (try dsimp only at hSw); go_simp <;> with_reducible rfl)
    (try simp only [Act.put, List.getElem_toArray, List.getElem_cons_zero, List.getElem_cons_succ, List.setIfInBounds_toArray, List.set_cons_zero, List.set_cons_succ])
    refine wpAnyL_take (i := 1) (v := ?_) rfl (by kernel_rfl) (by kernel_rfl) (by kernel_rfl) (by kernel_rfl) (fun _ _ _ h => h) (Or.inl ⟨by rfl, ?_⟩) (by assumption) ?_
    rotate_left
    · (intro w hSw; (try dsimp only at hSw); go_simp <;> with_reducible rfl)
    (try simp only [Act.put, List.getElem_toArray, List.getElem_cons_zero, List.getElem_cons_succ, List.setIfInBounds_toArray, List.set_cons_zero, List.set_cons_succ])
    refine wpAnyL_take (i := 2) (v := ?_) rfl (by kernel_rfl) (by kernel_rfl) (by kernel_rfl) (by kernel_rfl) (fun _ _ _ h => h) (Or.inl ⟨by rfl, ?_⟩) (by assumption) ?_
    rotate_left
    · (intro w hSw; (try dsimp only at hSw); go_simp <;> with_reducible rfl)
    (try simp only [Act.put, List.getElem_toArray, List.getElem_cons_zero, List.getElem_cons_succ, List.setIfInBounds_toArray, List.set_cons_zero, List.set_cons_succ])
    refine wpAnyL_take (i := 3) (v := ?_) rfl (by kernel_rfl) (by kernel_rfl) (by kernel_rfl) (by kernel_rfl) (fun _ _ _ h => h) (Or.inl ⟨by rfl, ?_⟩) (by assumption) ?_
    rotate_left
    · (intro w hSw; (try dsimp only at hSw); go_simp <;> with_reducible rfl)
    (try simp only [Act.put, List.getElem_toArray, List.getElem_cons_zero, List.getElem_cons_succ, List.setIfInBounds_toArray, List.set_cons_zero, List.set_cons_succ])
    refine wpAnyL_take (i := 4) (v := ?_) rfl (by kernel_rfl) (by kernel_rfl) (by kernel_rfl) (by kernel_rfl) (fun _ _ _ h => h) (Or.inl ⟨by rfl, ?_⟩) (by assumption) ?_
    rotate_left
    · (intro w hSw; (try dsimp only at hSw); go_simp <;> with_reducible rfl)
    (try simp only [Act.put, List.getElem_toArray, List.getElem_cons_zero, List.getElem_cons_succ, List.setIfInBounds_toArray, List.set_cons_zero, List.set_cons_succ])
    refine wpAnyL_take (i := 5) (v := ?_) rfl (by kernel_rfl) (by kernel_rfl) (by kernel_rfl) (by kernel_rfl) (fun _ _ _ h => h) (Or.inl ⟨by rfl, ?_⟩) (by assumption) ?_
    rotate_left
    · (intro w hSw; (try dsimp only at hSw); go_simp <;> with_reducible rfl)
    (try simp only [Act.put, List.getElem_toArray, List.getElem_cons_zero, List.getElem_cons_succ, List.setIfInBounds_toArray, List.set_cons_zero, List.set_cons_succ])
    refine wpAnyL_take (i := 6) (v := ?_) rfl (by kernel_rfl) (by kernel_rfl) (by kernel_rfl) (by kernel_rfl) (fun _ _ _ h => h) (Or.inl ⟨by rfl, ?_⟩) (by assumption) ?_
    rotate_left
    · (intro w hSw; (try dsimp only at hSw); go_simp <;> with_reducible rfl)
    (try simp only [Act.put, List.getElem_toArray, List.getElem_cons_zero, List.getElem_cons_succ, List.setIfInBounds_toArray, List.set_cons_zero, List.set_cons_succ])
    refine wpAnyL_take (i := 7) (v := ?_) rfl (by kernel_rfl) (by kernel_rfl) (by kernel_rfl) (by kernel_rfl) (fun _ _ _ h => h) (Or.inl ⟨by rfl, ?_⟩) (by assumption) ?_
    rotate_left
    · (intro w hSw; (try dsimp only at hSw); go_simp <;> with_reducible rfl)
    (try simp only [Act.put, List.getElem_toArray, List.getElem_cons_zero, List.getElem_cons_succ, List.setIfInBounds_toArray, List.set_cons_zero, List.set_cons_succ])
    refine wpAnyL_take (i := 8) (v := ?_) rfl (by kernel_rfl) (by kernel_rfl) (by kernel_rfl) (by kernel_rfl) (fun _ _ _ h => h) (Or.inl ⟨by rfl, ?_⟩) (by assumption) ?_
    rotate_left
    · (intro w hSw; (try dsimp only at hSw); go_simp <;> with_reducible rfl)
    (try simp only [Act.put, List.getElem_toArray, List.getElem_cons_zero, List.getElem_cons_succ, List.setIfInBounds_toArray, List.set_cons_zero, List.set_cons_succ])
    refine wpAnyL_take (i := 9) (v := ?_) rfl (by kernel_rfl) (by kernel_rfl) (by kernel_rfl) (by kernel_rfl) (fun _ _ _ h => h) (Or.inl ⟨by rfl, ?_⟩) (by assumption) ?_
    rotate_left
    · (intro w hSw; (try dsimp only at hSw); go_simp <;> with_reducible rfl)
    (try simp only [Act.put, List.getElem_toArray, List.getElem_cons_zero, List.getElem_cons_succ, List.setIfInBounds_toArray, List.set_cons_zero, List.set_cons_succ])
    refine wpAnyL_take (i := 10) (v := ?_) rfl (by kernel_rfl) (by kernel_rfl) (by kernel_rfl) (by kernel_rfl) (fun _ _ _ h => h) (Or.inl ⟨by rfl, ?_⟩) (by assumption) ?_
    rotate_left
    · (intro w hSw; (try dsimp only at hSw); go_simp <;> with_reducible rfl)
    (try simp only [Act.put, List.getElem_toArray, List.getElem_cons_zero, List.getElem_cons_succ, List.setIfInBounds_toArray, List.set_cons_zero, List.set_cons_succ])
    refine wpAnyL_take (i := 11) (v := ?_) rfl (by kernel_rfl) (by kernel_rfl) (by kernel_rfl) (by kernel_rfl) (fun _ _ _ h => h) (Or.inl ⟨by rfl, ?_⟩) (by assumption) ?_
    rotate_left
    · (intro w hSw; (try dsimp only at hSw); go_simp <;> with_reducible rfl)
    (try simp only [Act.put, List.getElem_toArray, List.getElem_cons_zero, List.getElem_cons_succ, List.setIfInBounds_toArray, List.set_cons_zero, List.set_cons_succ])
    refine wpAnyL_only (i := 12) (by kernel_rfl) rfl (fun K hK => ?_)
    go_simp
    refine hK _ _ (fun _ => hHeld) (fun hHeld0 => ?_)
    have hHeld := hHeld0 rfl
    clear hK K hHeld0
    (try simp only [Act.put, List.getElem_toArray, List.getElem_cons_zero, List.getElem_cons_succ, List.setIfInBounds_toArray, List.set_cons_zero, List.set_cons_succ])
    refine wpAnyL_only (i := 13) (by kernel_rfl) rfl (fun K hK => ?_)
    go_simp
    refine hK _ _ (fun _ => hHeld) (fun hHeld0 => ?_)
    have hHeld := hHeld0 rfl
    clear hK K hHeld0
    (try simp only [Act.put, List.getElem_toArray, List.getElem_cons_zero, List.getElem_cons_succ, List.setIfInBounds_toArray, List.set_cons_zero, List.set_cons_succ])
    refine wpAnyL_only (i := 14) (by kernel_rfl) rfl (fun K hK => ?_)
    go_simp
    refine hK _ _ (fun q => by cases q) (fun hHeld0 => ?_)
    clear hK K hHeld0
    refine wpAnyL_done (by kernel_rfl) ?_
    have h9 := Sep.drew (tw_opsCut (n2 := kk) H8.out (by rw [HOV.out, HM.out]) (by rw [HM.out]; omega))
    rw [HLM.out] at h9
    obtain ⟨X9, hX9⟩ : ∃ X, X = (X8.setCell ⟨g, lm * 7 + 5, none⟩ (.slice (some ⟨gs, 0, none⟩) kk cs)).drew := ⟨_, rfl⟩
    rw [← hX9] at h9 ⊢
    have h9' : Sep w (twL t b (.slice (some ⟨g, 0, none⟩) (l.length + 1 : Nat) c) pv ({ x with ov := .slice (some ⟨gs, 0, none⟩) kk cs, m := x.m.withOps (x.m.ops.take kk) } :: l) Q many ++ chP b p k sz ca C2 (bx B19 (.cells #[.int .i64 y1, .int .i64 y2] 34) :: bx B17 (.cells #[.int .i64 r1, .int .i64 r2] 34) :: F)) X9 := by rw [HLM.out]; exact h9
    obtain ⟨a0, a1, -⟩ := two_cells h9' (q := B19) (tw_mem (List.Mem.head _))
    obtain ⟨a2, a3, -⟩ := two_cells h9' (q := B17) (tw_mem (List.Mem.tail _ (List.Mem.head _)))
    have H9 := Hid.mk h9'
    clear hX9 h9 h9' H8 hHeld k5' kz5
    go_upto_region 50 with (fail)
    go_region_held3 (fun X => X.cell? ⟨B17, 0, none⟩ = some (.int .i64 r1) ∧ X.cell? ⟨B17, 1, none⟩ = some (.int .i64 r2) ∧ X.cell? ⟨B19, 0, none⟩ = some (.int .i64 y1) ∧ X.cell? ⟨B19, 1, none⟩ = some (.int .i64 y2)) (first | exact s9 | exact ⟨a2, a3, a0, a1⟩) (first | (go_at_call 30; refine (HT.out H9.out.drew).mono ?_; rintro e wb ⟨hbb, rfl⟩; have s9 := And.intro (keep_dr hbb a2) (And.intro (keep_dr hbb a3) (And.intro (keep_dr hbb a0) (keep_dr hbb a1)))))
    have hb := tw_lose (tw_lose (Sep.keep H9.out.drew hbb))
    have HB := Hid.mk hb
    clear hb hbb H9 HT s9 a0 a1 a2 a3
    go_wp2_with fail
    go_ret
    exact ⟨⟨_, _, ⟨_, _, _, (by simp only [List.map_cons]; rw [HTK.out]), HB.out⟩, HS2.out.mono (by omega), HNN'.out.symm⟩, rfl⟩
end
end Go.Proofs.YtpfnnmcokbolhaaGreat
