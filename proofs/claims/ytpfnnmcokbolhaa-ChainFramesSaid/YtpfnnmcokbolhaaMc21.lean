/- Parts Uk Ul Um Un Uo, put together. -/
import Derived.Test.YtpfnnmcokbolhaaMc8
import Derived.Test.YtpfnnmcokbolhaaMc15
import Derived.Test.YtpfnnmcokbolhaaMc20
/- The twin's do: its words, and where there is no frame. -/
namespace Go.Proofs.Ytpfnnmcokbolhaa
open Go.RowKit
set_option pp.deepTerms true
theorem ten_cells {w W : World} {q : Nat} {v0 v1 v2 v3 v4 v5 v6 v7 v8 v9 : Value} {T : TypeId} {L : List Asr} (h : Sep w L W) (hm : bx q (.cells #[v0, v1, v2, v3, v4, v5, v6, v7, v8, v9] T) ∈ L) : W.cell? ⟨q, 0, none⟩ = some v0 ∧ W.cell? ⟨q, 1, none⟩ = some v1 ∧ W.cell? ⟨q, 2, none⟩ = some v2 ∧ W.cell? ⟨q, 3, none⟩ = some v3 ∧ W.cell? ⟨q, 4, none⟩ = some v4 ∧ W.cell? ⟨q, 5, none⟩ = some v5 ∧ W.cell? ⟨q, 7, none⟩ = some v7 ∧ W.cell? ⟨q, 8, none⟩ = some v8 := by
  have B := Sep.at h hm
  exact ⟨by rw [cell_of_row _ _ 0 _ _ _ B]; rfl, by rw [cell_of_row _ _ 1 _ _ _ B]; rfl, by rw [cell_of_row _ _ 2 _ _ _ B]; rfl, by rw [cell_of_row _ _ 3 _ _ _ B]; rfl, by rw [cell_of_row _ _ 4 _ _ _ B]; rfl, by rw [cell_of_row _ _ 5 _ _ _ B]; rfl, by rw [cell_of_row _ _ 7 _ _ _ B]; rfl, by rw [cell_of_row _ _ 8 _ _ _ B]; rfl⟩
theorem zargs_len (l : Lay) : (zargs l).length = min l.args.toNat l.slots.length := by simp [zargs]
theorem zargs_at {l : Lay} {j : Nat} (h : j < (zargs l).length) : ∃ hj : j < l.slots.length, (zargs l)[j] = (l.slots[j], 0) := by
  have := zargs_len l
  exact ⟨by omega, by simp [zargs]⟩
section
variable {w W : World} {F G : List Asr} {t b p k g c : Nat} {sz ca many : Int} {C : Ch} {lv pv : Value} {ml l : List Mv} {x : Mv} {Q : List (Int × Pf)} {A : Asr} {T : Tw} {Z : List (Md × Af)} {n : Nat} {o : Op25} {sv av : Value} {last : Bool} {B0 : Nat}
theorem tw_in (h : Sep w (A :: (twL t b lv pv ml Q many ++ chP b p k sz ca C F)) W) : Sep w (twL t b lv pv ml Q many ++ chP b p k sz ca C (A :: F)) W := by
  rw [twch_eq] at h ⊢
  exact h.perm List.perm_middle.symm
theorem subF2 {A B : Asr} {L : List Asr} : List.Sublist F (L ++ (A :: B :: F)) := ((List.sublist_cons_self _ _).trans (List.sublist_cons_self _ _)).trans (List.sublist_append_right _ _)
theorem subG {A B : Asr} : List.Sublist F (chP b p k sz ca C (A :: B :: F)) := subF2 (L := [_, _, _])
/-- Run, beside the twin, with the arguments that are noughts -/
theorem tdo_run {v : Value} {place : Int} (h : Sep w (twL t b lv pv ml Q many ++ chP b p k sz ca C (vrow v (zargs o.l) :: A :: F)) W) (ok : ChOk C) (hsl : ∀ W', Sep w F W' → Rdi W' sv o.l.slots) (hcap : SlOk sv) (hlen : o.l.slots.length ≤ 100) :
    Calls Try.prog 12 #[.pointer (some ⟨b, 0, none⟩), layV sv o.l, v, .int .i64 place] W fun e w' => Sep w (twL t b lv pv ml Q many ++ chP b p k sz ca (runC sz C o.l (zargs o.l) place).2 (vrow v (zargs o.l) :: A :: F)) w' ∧ e = .returned (.int .i64 (runC sz C o.l (zargs o.l) place).1) := by
  refine (crun_any (tw_ch h) ok (fun W' q => hsl W' (Sep.sub q subF2)) (by omega) hcap (fun W' q => Rd.of_row (Sep.owns q (List.mem_append.2 (.inr (List.Mem.head _)))) rfl) (by rw [zargs_len]; omega)).mono ?_
  rintro e w' ⟨h1, rfl⟩
  exact ⟨ch_tw h1, rfl⟩
theorem tdo_begun {v : Value} {args : List (Int × Int)} {C' : Ch} (h : Sep w (twL t b lv pv ml Q many ++ chP b p k sz ca C' (vrow v args :: A :: F)) W) (hsl : ∀ W', Sep w F W' → Rdi W' sv o.l.slots) (hcap : SlOk sv) (hk : layOk o.l = true) (hargs : args.length ≤ o.l.slots.length) (hml : ml.length ≤ 1000) (hm0 : 0 ≤ many ∧ many ≤ 1000) (link : Int) :
    Calls Try.prog 31 #[.pointer (some ⟨t, 0, none⟩), layV sv o.l, v] W fun e w' => (∃ lv' x, Sep w (twL t b lv' pv (x :: ml) Q (many + 1) ++ chP b p k sz ca C' F) w' ∧ x.m = ⟨o.l, fillV o.l.slots args, [], many + 1, link⟩) ∧ ∃ u, e = .returned u := by
  refine (tbegun_any h (fun W' q => hsl W' (Sep.sub q subG)) (fun W' q => Rd.of_row (Sep.owns q (List.Mem.tail _ (List.Mem.tail _ (List.Mem.tail _ (List.Mem.head _))))) rfl) hcap hk hargs hml hm0 link).mono ?_
  rintro e w' ⟨⟨lv', x, h1, hx⟩, hu⟩
  exact ⟨⟨lv', x, tw_lose (tw_lose h1), hx⟩, hu⟩
set_option maxRecDepth 100000 in
set_option maxHeartbeats 4000000 in
theorem tdo_nil4 {n' : Nat} {N' : Nt} {K K1 : Act → World → Prop} {ka c0 : Nat} {ao : Option Addr} {u2 u7 u8 u9 u10 u11 u12 u13 u14 u15 u16 u17 u18 u19 u20 u21 u22 u23 u24 u25 u26 u27 u28 u29 u30 u31 u32 u33 u34 u35 u36 u37 u38 u42 u43 u44 u45 u46 u47 u48 u49 u50 u51 u52 u53 u54 u55 u56 u57 u58 u59 u60 u61 u62 u63 u64 u65 u66 u67 u68 u69 u70 u71 u72 u73 u74 u75 u76 u77 u78 u79 u80 u81 u82 u83 u84 u85 u86 u87 u88 u89 u90 u91 u92 u93 u94 u95 u96 u97 u98 u99 u100 u101 u102 u103 u104 u105 u106 u107 u108 u109 u110 u111 u112 u113 u114 u115 u116 u117 u118 u119 u120 u121 u122 u123 u124 u125 u126 u127 u128 u129 u130 u131 u132 u133 u134 u135 u136 u137 u138 u139 u140 u141 u142 u143 u144 u145 u146 u147 u148 u149 u150 u151 u152 u153 u154 u155 u156 u157 u158 u159 u160 u161 u162 u163 u164 u165 u166 u167 u168 u169 u170 u171 u172 u173 u174 u175 u176 u177 u178 u179 u180 u181 u182 u183 u184 u185 u186 u187 u188 u189 u190 u191 u192 u193 u194 u195 u196 u197 u198 u199 u200 u201 u202 u203 u204 u205 u206 u207 u208 u209 u210 u211 u212 u213 u214 u215 u216 u217 u218 u219 u220 u221 u222 u223 u224 u225 u226 u227 u228 u229 u230 u231 u232 u233 u234 u235 u236 u237 u238 u239 u240 u241 u242 u243 u244 u245 u246 u247 u248 u249 u250 u251 u252 u253 u254 u255 u256 u257 u258 u259 u260 u261 u262 u263 u264 u265 u266 u267 u268 u269 u270 u271 u272 u273 u274 u275 u276 u277 u278 u279 u280 u281 u282 u283 u284 u285 u286 u287 u288 u289 u290 u291 u292 u293 u294 u295 u296 u297 u298 u299 u300 u301 u302 u303 u304 u305 u306 u307 u308 u309 u310 u311 u312 u313 u314 u315 u316 u317 u318 u319 u320 u321 u322 u323 u324 u325 u326 u327 u328 u329 u330 u331 u332 u333 u334 u335 u336 u337 u338 : Value} (H0 : Hid (Sep w (twL t b lv pv [] Q many ++ chP b p k sz ca C (bx B0 (.cells #[.int .i64 o.kind, .int .i64 o.n, sv, .int .i64 o.l.args, .int .i64 o.l.res, .int .i64 o.l.height, av, .int .i64 o.v.1, .int .i64 o.v.2, .bool last] 36) :: F)) W)) (hs : Sim sz ca n ⟨C, [], Q, many⟩ Z) (hn : n ≤ 280) (hn' : n + 1 ≤ n') (hN : stepN (Tw.N ⟨C, [], Q, many⟩) o = N') (HK : Hid (∀ a w', Code.wp Try.prog (pieceOf (Try.f8.body.getD .skip) [1, 1, 0, 1, 0, 1, 1]) (Exit.then K1 (bodyPost Try.prog Try.f8 (fun e w' => TwR w w' t b p k sz ca n' N' F ∧ e = .returned (.bool true)))) a w' → K a w'))
    (hsl : ∀ W', Sep w F W' → Rdi W' sv o.l.slots) (hcap : SlOk sv) (hlen : o.l.slots.length ≤ 100) (hka : ka = min o.l.args.toNat o.l.slots.length) (hr : ∀ W', Sep w F W' → Rdi W' (.slice ao ka c0) (o.l.slots.take ka)) :
    Code.wp Try.prog (pieceOf (Try.f8.body.getD .skip) [1, 1, 0, 1, 0, 1, 0, 1]) (Exit.then K (Exit.then K1 (bodyPost Try.prog Try.f8 (fun e w' => TwR w w' t b p k sz ca n' N' F ∧ e = .returned (.bool true))))) ⟨#[.pointer (some ⟨t, 0, none⟩), (.agg #[.int .i64 o.kind, .int .i64 o.n, sv, .int .i64 o.l.args, .int .i64 o.l.res, .int .i64 o.l.height, av, .int .i64 o.v.1, .int .i64 o.v.2, .bool last]), u2, .pointer (some ⟨B0, 0, none⟩), .bool false, .int .i64 0, .slice none 0 0, u7, u8, u9, u10, u11, u12, u13, u14, u15, u16, u17, u18, u19, u20, u21, u22, u23, u24, u25, u26, u27, u28, u29, u30, u31, u32, u33, u34, u35, u36, u37, u38, .slice ao ka c0, .int .i64 (ka : Int), .int .i64 0, u42, u43, u44, u45, u46, u47, u48, u49, u50, u51, u52, u53, u54, u55, u56, u57, u58, u59, u60, u61, u62, u63, u64, u65, u66, u67, u68, u69, u70, u71, u72, u73, u74, u75, u76, u77, u78, u79, u80, u81, u82, u83, u84, u85, u86, u87, u88, u89, u90, u91, u92, u93, u94, u95, u96, u97, u98, u99, u100, u101, u102, u103, u104, u105, u106, u107, u108, u109, u110, u111, u112, u113, u114, u115, u116, u117, u118, u119, u120, u121, u122, u123, u124, u125, u126, u127, u128, u129, u130, u131, u132, u133, u134, u135, u136, u137, u138, u139, u140, u141, u142, u143, u144, u145, u146, u147, u148, u149, u150, u151, u152, u153, u154, u155, u156, u157, u158, u159, u160, u161, u162, u163, u164, u165, u166, u167, u168, u169, u170, u171, u172, u173, u174, u175, u176, u177, u178, u179, u180, u181, u182, u183, u184, u185, u186, u187, u188, u189, u190, u191, u192, u193, u194, u195, u196, u197, u198, u199, u200, u201, u202, u203, u204, u205, u206, u207, u208, u209, u210, u211, u212, u213, u214, u215, u216, u217, u218, u219, u220, u221, u222, u223, u224, u225, u226, u227, u228, u229, u230, u231, u232, u233, u234, u235, u236, u237, u238, u239, u240, u241, u242, u243, u244, u245, u246, u247, u248, u249, u250, u251, u252, u253, u254, u255, u256, u257, u258, u259, u260, u261, u262, u263, u264, u265, u266, u267, u268, u269, u270, u271, u272, u273, u274, u275, u276, u277, u278, u279, u280, u281, u282, u283, u284, u285, u286, u287, u288, u289, u290, u291, u292, u293, u294, u295, u296, u297, u298, u299, u300, u301, u302, u303, u304, u305, u306, u307, u308, u309, u310, u311, u312, u313, u314, u315, u316, u317, u318, u319, u320, u321, u322, u323, u324, u325, u326, u327, u328, u329, u330, u331, u332, u333, u334, u335, u336, u337, u338], []⟩ W := by
  conv => arg 2; whnf
  have HSIM := Hid.mk hs
  have HSL := Hid.mk hsl
  have HCAP := Hid.mk hcap
  have HNN := Hid.mk hN
  clear hs hsl hcap hN
  have hzl : (zargs o.l).length = ka := by rw [zargs_len, hka]
  obtain ⟨i0, hi, hz0, hz1, hz2⟩ := info_parts infoV
  have HZL := Hid.mk hzl
  have HR := Hid.mk hr
  have HKA : Hid (ka ≤ o.l.slots.length) := by unfold Hid; omega
  have hka2 : ka ≤ 100 := by have := HKA.out; omega
  clear hka hr hzl
  go_wp2_with fail
  go_loopw [6, 41] (fun v i wr => ∃ (j : Nat) (ar : Option Addr) (cr : Nat), i = .int .i64 (j : Int) ∧ j ≤ ka ∧ v = .slice ar j cr ∧ Hid (Sep w (rw_ 0 34 2 (.slice ar j cr) j (wcells ((zargs o.l).take j)) :: (twL t b lv pv [] Q many ++ chP b p k sz ca C (bx B0 (.cells #[.int .i64 o.kind, .int .i64 o.n, sv, .int .i64 o.l.args, .int .i64 o.l.res, .int .i64 o.l.height, av, .int .i64 o.v.1, .int .i64 o.v.2, .bool last] 36) :: F))) wr)) (fun _ i _ => ka - (intOf i).toNat)
  case atStart => exact ⟨0, none, 0, rfl, Nat.zero_le _, rfl, Hid.mk (by
    have := Sep.row H0.out (Below.refl W.heap.size W) (World.ownsRow_nil W W.heap.size 34 2)
    simpa [wcells] using Sep.rerow this (by intro b q; exact q) (World.ownsRow_nil W 0 34 2))⟩
  case round =>
    obtain ⟨j, ar, cr, rfl, hj, rfl, HREL⟩ := hrel
    by_cases hlt : j < ka
    · have hjz : j < (zargs o.l).length := by rw [HZL.out]; exact hlt
      obtain ⟨hjs, hze⟩ := zargs_at hjz
      have hrd := HR.out _ (Sep.sub HREL.out.tl (by rw [twch_eq]; exact (List.sublist_cons_self _ _).trans (List.sublist_append_right _ _)))
      have htl : (o.l.slots.take ka).length = ka := by have := HKA.out; simp; omega
      obtain ⟨bb, oo, c1, e, hbb, hcs⟩ := hrd.some (by rw [htl]; omega)
      simp only [Value.slice.injEq] at e
      obtain ⟨rfl, -, rfl⟩ := e
      have hc1 := hcs j (by rw [htl]; exact hlt)
      have hel : (o.l.slots.take ka)[j]'(by rw [htl]; exact hlt) = o.l.slots[j] := by simp
      rw [hel] at hc1
      obtain ⟨u, hu⟩ : ∃ u, o.l.slots[j] = u := ⟨_, rfl⟩
      rw [hu] at hc1 hze
      have hlt' : (j : Int) < (ka : Int) := by omega
      have hlt2 : decide ((j : Int) < (ka : Int)) = true := by simpa using hlt
      have HRW : Hid (∀ o', (wr.alloc o').ownsRow 0 34 2 (.slice ar j cr) j (wcells ((zargs o.l).take j))) := fun o' => (Sep.owns HREL.out (List.Mem.head _)).alloc _
      have HTK : Hid ((zargs o.l).take (j + 1) = (zargs o.l).take j ++ [(u, 0)]) := by unfold Hid; rw [List.take_succ_eq_append_getElem hjz, hze]
      have hnw := heap_alloc_new wr (.cells #[.int .i64 u, .int .i64 0] 34)
      clear hrd htl hcs hel hu hze hjz hjs hbb
      go_wp2_with (at_builtin; refine wpList_append_x _ rfl _ _ _ (by rfl) 0 34 i0 (.agg #[.int .i64 0, .int .i64 0]) 2 16 Try.underlying32 hi hz0 hz1 hz2 rfl (by decide) (.slice ar j cr) j _ rfl (HRW.out _) 1 (#[.int .i64 u, .int .i64 0] : Array Value).toList (.slice (some ⟨wr.heap.size, 0, none⟩) 1 1) rfl (AppArg.one (n := 2) hnw rfl (by simp [Value.oneCell'])) (by unfold maxLen; omega) (by omega) (Nat.zero_le _) ?_)
      intro a2 cap2 w2 hown2 hg2 hat2
      have h2 := Sep.app (Sep.keep HREL.out ((Below.refl wr.heap.size wr).alloc (Nat.le_refl _) (.cells #[.int .i64 u, .int .i64 0] 34))) hown2 hg2 (by rw [World.size_alloc]; exact hat2)
      have h3 : Sep w (rw_ 0 34 2 (.slice a2 (j + 1) cap2) (j + 1) (wcells ((zargs o.l).take (j + 1))) :: (twL t b lv pv [] Q many ++ chP b p k sz ca C (bx B0 (.cells #[.int .i64 o.kind, .int .i64 o.n, sv, .int .i64 o.l.args, .int .i64 o.l.res, .int .i64 o.l.height, av, .int .i64 o.v.1, .int .i64 o.v.2, .bool last] 36) :: F))) w2 := by
        have e : wcells ((zargs o.l).take j ++ [(u, 0)]) = wcells ((zargs o.l).take j) ++ (#[.int .i64 u, .int .i64 0] : Array Value).toList := by simp [wcells, wcell]
        rw [HTK.out, e]
        exact h2
      have H3 := Hid.mk h3
      clear h2 h3 hown2 hg2 hat2 hnw HRW HREL HTK hc1
      go_wp2_with fail
      exact ⟨⟨j + 1, a2, cap2, by go_num, by omega, rfl, H3⟩, by simp [intOf]; omega⟩
    · obtain rfl : j = ka := by omega
      have HRW : Hid (Sep w (vrow (.slice ar j cr) (zargs o.l) :: (twL t b lv pv [] Q many ++ chP b p k sz ca C (bx B0 (.cells #[.int .i64 o.kind, .int .i64 o.n, sv, .int .i64 o.l.args, .int .i64 o.l.res, .int .i64 o.l.height, av, .int .i64 o.v.1, .int .i64 o.v.2, .bool last] 36) :: F))) wr) := by
        have := HREL.out
        rw [← HZL.out, List.take_length] at this
        unfold Hid vrow
        rw [← HZL.out]
        exact this
      have HV := Hid.mk (tw_in HRW.out)
      clear HREL HRW
      have hok := HSIM.out.ok (by omega)
      have HXC : Hid (∀ {C' : Ch} {W' : World}, Sep w (twL t b lv pv [] Q many ++ chP b p k sz ca C' (vrow (.slice ar j cr) (zargs o.l) :: bx B0 (.cells #[.int .i64 o.kind, .int .i64 o.n, sv, .int .i64 o.l.args, .int .i64 o.l.res, .int .i64 o.l.height, av, .int .i64 o.v.1, .int .i64 o.v.2, .bool last] 36) :: F)) W' → W'.cell? ⟨t, 0, none⟩ = some (.pointer (some ⟨b, 0, none⟩)) ∧ W'.cell? ⟨B0, 2, none⟩ = some sv ∧ W'.cell? ⟨B0, 3, none⟩ = some (.int .i64 o.l.args) ∧ W'.cell? ⟨B0, 4, none⟩ = some (.int .i64 o.l.res) ∧ W'.cell? ⟨B0, 5, none⟩ = some (.int .i64 o.l.height)) := fun {C' W'} q => by
        obtain ⟨-, -, e2, e3, e4, e5, -, -⟩ := ten_cells q (q := B0) (tw_mem (List.Mem.tail _ (List.Mem.head _)))
        exact ⟨(tw_k q).1, e2, e3, e4, e5⟩
      obtain ⟨s0, s1, s2, s3, s4⟩ := HXC.out HV.out
      have HRUN := tdo_run (place := 0) HV.out.drew hok HSL.out HCAP.out hlen
      have hzl := HZL.out
      cases hcan : o.l.can 0
      · have hno : runC sz C o.l (zargs o.l) 0 = (250, C) := Rep.run_no hcan
        rw [hno] at HRUN
        have HRUN := Hid.mk HRUN
        have HNN' : Hid (N' = Tw.N ⟨C, [], Q, many⟩) := by
          rw [← HNN.out]
          unfold Hid stepN Tw.N
          simp [hcan]
        clear hno hok
        go_wp2_with fail
        refine HK.out _ _ ?_
        conv => arg 2; whnf
        go_upto_region 9 with (fail)
        go_region_held3 (fun X => X.cell? ⟨t, 0, none⟩ = some (.pointer (some ⟨b, 0, none⟩)) ∧ X.cell? ⟨B0, 2, none⟩ = some sv ∧ X.cell? ⟨B0, 3, none⟩ = some (.int .i64 o.l.args) ∧ X.cell? ⟨B0, 4, none⟩ = some (.int .i64 o.l.res) ∧ X.cell? ⟨B0, 5, none⟩ = some (.int .i64 o.l.height)) (first | exact s9 | exact ⟨s0, s1, s2, s3, s4⟩) (first | (go_at_call 12; refine HRUN.out.mono ?_; rintro e w6 ⟨h6, rfl⟩; have s9 := HXC.out h6))
        have H6 := Hid.mk (tw_lose (tw_lose h6))
        clear h6 s9 HRUN HV HXC s0 s1 s2 s3 s4
        go_wp2_with fail
        go_ret
        exact ⟨⟨_, _, ⟨_, _, _, rfl, H6.out⟩, HSIM.out.mono (by omega), HNN'.out.symm⟩, rfl⟩
      · obtain ⟨r1, Z', hs2⟩ := HSIM.out.run (l := o.l) (place := 0) (by omega) hcan
        simp only at r1
        rw [r1] at HRUN
        have HRUN := Hid.mk HRUN
        have HS2 := Hid.mk hs2
        have HNN' : Hid (N' = (Tw.N ⟨C, [], Q, many⟩).begun o.l (zargs o.l) 0 []) := by
          rw [← HNN.out]
          unfold Hid stepN Tw.N
          simp [hcan]
        have hl := (can_iff' hcan).1
        have hm1 := HSIM.out.n1
        simp only at hm1
        have HB : Hid (∀ {C' : Ch} {W' : World}, Sep w (twL t b lv pv [] Q many ++ chP b p k sz ca C' (vrow (.slice ar j cr) (zargs o.l) :: bx B0 (.cells #[.int .i64 o.kind, .int .i64 o.n, sv, .int .i64 o.l.args, .int .i64 o.l.res, .int .i64 o.l.height, av, .int .i64 o.v.1, .int .i64 o.v.2, .bool last] 36) :: F)) W' → Calls Try.prog 31 #[.pointer (some ⟨t, 0, none⟩), layV sv o.l, .slice ar j cr] W' fun e w' => (∃ lv' x, Sep w (twL t b lv' pv [x] Q (many + 1) ++ chP b p k sz ca C' F) w' ∧ x.m = ⟨o.l, fillV o.l.slots (zargs o.l), [], many + 1, 0⟩) ∧ ∃ u, e = .returned u) := fun {C' W'} q => tdo_begun q HSL.out HCAP.out hl (by rw [hzl]; exact HKA.out) (by simp) ⟨by omega, by omega⟩ 0
        clear hs2 r1 hok hl hm1
        go_wp2_with fail
        refine HK.out _ _ ?_
        conv => arg 2; whnf
        go_upto_region 9 with (fail)
        go_region_held3 (fun X => X.cell? ⟨t, 0, none⟩ = some (.pointer (some ⟨b, 0, none⟩)) ∧ X.cell? ⟨B0, 2, none⟩ = some sv ∧ X.cell? ⟨B0, 3, none⟩ = some (.int .i64 o.l.args) ∧ X.cell? ⟨B0, 4, none⟩ = some (.int .i64 o.l.res) ∧ X.cell? ⟨B0, 5, none⟩ = some (.int .i64 o.l.height)) (first | exact s9 | exact ⟨s0, s1, s2, s3, s4⟩) (first | (go_at_call 12; refine HRUN.out.mono ?_; rintro e w6 ⟨h6, rfl⟩; have s9 := HXC.out h6))
        obtain ⟨t0, t1, t2, t3, t4⟩ := s9
        have H6 := Hid.mk h6
        clear h6 HRUN HV HXC s0 s1 s2 s3 s4
        go_wp2_with fail
        refine (HB.out H6.out).mono ?_
        rintro e w7 ⟨⟨lv', x', h7, hx⟩, u, rfl⟩
        have H7 := Hid.mk h7
        have HX7 := Hid.mk hx
        clear h7 hx HB H6 t0 t1 t2 t3 t4
        go_wp2_with fail
        go_ret
        refine ⟨⟨_, _, ⟨_, _, _, ?_, H7.out⟩, HS2.out.mono hn', ?_⟩, rfl⟩
        · simp only [List.map_cons, List.map_nil]; rw [HX7.out]; rfl
        · rw [HNN'.out]; rfl
end
end Go.Proofs.Ytpfnnmcokbolhaa
/- The twin's do: Run on a frame. -/
namespace Go.Proofs.Ytpfnnmcokbolhaa
open Go.RowKit
set_option pp.deepTerms true
section
variable {w W : World} {F G : List Asr} {t b p k g c : Nat} {sz ca many : Int} {C : Ch} {lv pv : Value} {ml l : List Mv} {x : Mv} {Q : List (Int × Pf)} {A : Asr} {T : Tw} {Z : List (Md × Af)} {n : Nat} {o : Op25} {sv av : Value} {last : Bool} {B0 : Nat}
set_option maxRecDepth 100000 in
set_option maxHeartbeats 4000000 in
theorem tdo_run4 {n' : Nat} {N' : Nt} {K K2 : Act → World → Prop} {ka c0 : Nat} {ao : Option Addr} {u2 u5 u6 u7 u8 u9 u10 u11 u12 u14 u15 u16 u17 u18 u19 u20 u21 u22 u23 u24 u25 u26 u27 u28 u29 u30 u31 u32 u33 u34 u35 u36 u37 u38 u39 u40 u41 u42 u43 u44 u45 u46 u47 u48 u49 u50 u51 u52 u53 u54 u55 u56 u57 u58 u59 u60 u61 u62 u63 u64 u65 u66 u67 u68 u69 u70 u71 u72 u73 u74 u75 u76 u77 u78 u79 u80 u81 u82 u83 u84 u85 u86 u87 u88 u89 u90 u91 u92 u93 u94 u95 u96 u97 u98 u99 u100 u101 u102 u103 u104 u105 u106 u107 u108 u109 u110 u111 u112 u113 u114 u115 u116 u117 u118 u119 u120 u121 u122 u123 u124 u125 u126 u127 u128 u129 u130 u131 u132 u133 u134 u138 u139 u140 u141 u142 u143 u144 u145 u146 u147 u148 u149 u150 u151 u152 u153 u154 u155 u156 u157 u158 u159 u160 u161 u162 u163 u164 u165 u166 u167 u168 u169 u170 u171 u172 u173 u174 u175 u176 u177 u178 u179 u180 u181 u182 u183 u184 u185 u186 u187 u188 u189 u190 u191 u192 u193 u194 u195 u196 u197 u198 u199 u200 u201 u202 u203 u204 u205 u206 u207 u208 u209 u210 u211 u212 u213 u214 u215 u216 u217 u218 u219 u220 u221 u222 u223 u224 u225 u226 u227 u228 u229 u230 u231 u232 u233 u234 u235 u236 u237 u238 u239 u240 u241 u242 u243 u244 u245 u246 u247 u248 u249 u250 u251 u252 u253 u254 u255 u256 u257 u258 u259 u260 u261 u262 u263 u264 u265 u266 u267 u268 u269 u270 u271 u272 u273 u274 u275 u276 u277 u278 u279 u280 u281 u282 u283 u284 u285 u286 u287 u288 u289 u290 u291 u292 u293 u294 u295 u296 u297 u298 u299 u300 u301 u302 u303 u304 u305 u306 u307 u308 u309 u310 u311 u312 u313 u314 u315 u316 u317 u318 u319 u320 u321 u322 u323 u324 u325 u326 u327 u328 u329 u330 u331 u332 u333 u334 u335 u336 u337 u338 : Value} (H0 : Hid (Sep w (twL t b lv pv (x :: l) Q many ++ chP b p k sz ca C (bx B0 (.cells #[.int .i64 o.kind, .int .i64 o.n, sv, .int .i64 o.l.args, .int .i64 o.l.res, .int .i64 o.l.height, av, .int .i64 o.v.1, .int .i64 o.v.2, .bool last] 36) :: F)) W)) (hs : Sim sz ca n ⟨C, (x :: l).map (·.m), Q, many⟩ Z) (hn : n ≤ 280) (hn' : n + 1 ≤ n') (hki : o.kind = 1) (hN : stepN (Tw.N ⟨C, (x :: l).map (·.m), Q, many⟩) o = N') (hK : Hid (∀ (tm : Array Value) (W' : World), tm.size = 339 → TwR w W' t b p k sz ca n' N' F → K ⟨tm, []⟩ W')) (HK2 : Hid (∀ a w', Code.wp Try.prog (pieceOf (Try.f8.body.getD .skip) [1, 1, 1, 1, 1, 1, 0, 1, 0, 1, 1, 1, 0, 1, 1]) (Exit.inBlock 2 (Exit.then K (bodyPost Try.prog Try.f8 (fun e w' => TwR w w' t b p k sz ca n' N' F ∧ e = .returned (.bool true))))) a w' → K2 a w'))
    (hsl : ∀ W', Sep w F W' → Rdi W' sv o.l.slots) (hcap : SlOk sv) (hlen : o.l.slots.length ≤ 100) (hka : ka = min o.l.args.toNat o.l.slots.length) (hr : ∀ W', Sep w F W' → Rdi W' (.slice ao ka c0) (o.l.slots.take ka)) :
    Code.wp Try.prog (pieceOf (Try.f8.body.getD .skip) [1, 1, 1, 1, 1, 1, 0, 1, 0, 1, 1, 1, 0, 1, 0, 1]) (Exit.then K2 (Exit.inBlock 2 (Exit.then K (bodyPost Try.prog Try.f8 (fun e w' => TwR w w' t b p k sz ca n' N' F ∧ e = .returned (.bool true)))))) ⟨#[.pointer (some ⟨t, 0, none⟩), (.agg #[.int .i64 o.kind, .int .i64 o.n, sv, .int .i64 o.l.args, .int .i64 o.l.res, .int .i64 o.l.height, av, .int .i64 o.v.1, .int .i64 o.v.2, .bool last]), u2, .pointer (some ⟨B0, 0, none⟩), .bool false, u5, u6, u7, u8, u9, u10, u11, u12, .slice none 0 0, u14, u15, u16, u17, u18, u19, u20, u21, u22, u23, u24, u25, u26, u27, u28, u29, u30, u31, u32, u33, u34, u35, u36, u37, u38, u39, u40, u41, u42, u43, u44, u45, u46, u47, u48, u49, u50, u51, u52, u53, u54, u55, u56, u57, u58, u59, u60, u61, u62, u63, u64, u65, u66, u67, u68, u69, u70, u71, u72, u73, u74, u75, u76, u77, u78, u79, u80, u81, u82, u83, u84, u85, u86, u87, u88, u89, u90, u91, u92, u93, u94, u95, u96, u97, u98, u99, u100, u101, u102, u103, u104, u105, u106, u107, u108, u109, u110, u111, u112, u113, u114, u115, u116, u117, u118, u119, u120, u121, u122, u123, u124, u125, u126, u127, u128, u129, u130, u131, u132, u133, u134, .slice ao ka c0, .int .i64 (ka : Int), .int .i64 0, u138, u139, u140, u141, u142, u143, u144, u145, u146, u147, u148, u149, u150, u151, u152, u153, u154, u155, u156, u157, u158, u159, u160, u161, u162, u163, u164, u165, u166, u167, u168, u169, u170, u171, u172, u173, u174, u175, u176, u177, u178, u179, u180, u181, u182, u183, u184, u185, u186, u187, u188, u189, u190, u191, u192, u193, u194, u195, u196, u197, u198, u199, u200, u201, u202, u203, u204, u205, u206, u207, u208, u209, u210, u211, u212, u213, u214, u215, u216, u217, u218, u219, u220, u221, u222, u223, u224, u225, u226, u227, u228, u229, u230, u231, u232, u233, u234, u235, u236, u237, u238, u239, u240, u241, u242, u243, u244, u245, u246, u247, u248, u249, u250, u251, u252, u253, u254, u255, u256, u257, u258, u259, u260, u261, u262, u263, u264, u265, u266, u267, u268, u269, u270, u271, u272, u273, u274, u275, u276, u277, u278, u279, u280, u281, u282, u283, u284, u285, u286, u287, u288, u289, u290, u291, u292, u293, u294, u295, u296, u297, u298, u299, u300, u301, u302, u303, u304, u305, u306, u307, u308, u309, u310, u311, u312, u313, u314, u315, u316, u317, u318, u319, u320, u321, u322, u323, u324, u325, u326, u327, u328, u329, u330, u331, u332, u333, u334, u335, u336, u337, u338], []⟩ W := by
  conv => arg 2; whnf
  have HSIM := Hid.mk hs
  have HSL := Hid.mk hsl
  have HCAP := Hid.mk hcap
  have HNN := Hid.mk hN
  have HKI := Hid.mk hki
  clear hs hsl hcap hN hki
  have hzl : (zargs o.l).length = ka := by rw [zargs_len, hka]
  obtain ⟨i0, hi, hz0, hz1, hz2⟩ := info_parts infoV
  have HZL := Hid.mk hzl
  have HR := Hid.mk hr
  have HKA : Hid (ka ≤ o.l.slots.length) := by unfold Hid; omega
  have hka2 : ka ≤ 100 := by have := HKA.out; omega
  clear hka hr hzl
  go_wp2_with fail
  go_loopw [13, 137] (fun v i wr => ∃ (j : Nat) (ar : Option Addr) (cr : Nat), i = .int .i64 (j : Int) ∧ j ≤ ka ∧ v = .slice ar j cr ∧ Hid (Sep w (rw_ 0 34 2 (.slice ar j cr) j (wcells ((zargs o.l).take j)) :: (twL t b lv pv (x :: l) Q many ++ chP b p k sz ca C (bx B0 (.cells #[.int .i64 o.kind, .int .i64 o.n, sv, .int .i64 o.l.args, .int .i64 o.l.res, .int .i64 o.l.height, av, .int .i64 o.v.1, .int .i64 o.v.2, .bool last] 36) :: F))) wr)) (fun _ i _ => ka - (intOf i).toNat)
  case atStart => exact ⟨0, none, 0, rfl, Nat.zero_le _, rfl, Hid.mk (by
    have := Sep.row H0.out (Below.refl W.heap.size W) (World.ownsRow_nil W W.heap.size 34 2)
    simpa [wcells] using Sep.rerow this (by intro b q; exact q) (World.ownsRow_nil W 0 34 2))⟩
  case round =>
    obtain ⟨j, ar, cr, rfl, hj, rfl, HREL⟩ := hrel
    by_cases hlt : j < ka
    · have hjz : j < (zargs o.l).length := by rw [HZL.out]; exact hlt
      obtain ⟨hjs, hze⟩ := zargs_at hjz
      have hrd := HR.out _ (Sep.sub HREL.out.tl (by rw [twch_eq]; exact (List.sublist_cons_self _ _).trans (List.sublist_append_right _ _)))
      have htl : (o.l.slots.take ka).length = ka := by have := HKA.out; simp; omega
      obtain ⟨bb, oo, c1, e, hbb, hcs⟩ := hrd.some (by rw [htl]; omega)
      simp only [Value.slice.injEq] at e
      obtain ⟨rfl, -, rfl⟩ := e
      have hc1 := hcs j (by rw [htl]; exact hlt)
      have hel : (o.l.slots.take ka)[j]'(by rw [htl]; exact hlt) = o.l.slots[j] := by simp
      rw [hel] at hc1
      obtain ⟨u, hu⟩ : ∃ u, o.l.slots[j] = u := ⟨_, rfl⟩
      rw [hu] at hc1 hze
      have hlt' : (j : Int) < (ka : Int) := by omega
      have hlt2 : decide ((j : Int) < (ka : Int)) = true := by simpa using hlt
      have HRW : Hid (∀ o', (wr.alloc o').ownsRow 0 34 2 (.slice ar j cr) j (wcells ((zargs o.l).take j))) := fun o' => (Sep.owns HREL.out (List.Mem.head _)).alloc _
      have HTK : Hid ((zargs o.l).take (j + 1) = (zargs o.l).take j ++ [(u, 0)]) := by unfold Hid; rw [List.take_succ_eq_append_getElem hjz, hze]
      have hnw := heap_alloc_new wr (.cells #[.int .i64 u, .int .i64 0] 34)
      clear hrd htl hcs hel hu hze hjz hjs hbb
      go_wp2_with (at_builtin; refine wpList_append_x _ rfl _ _ _ (by rfl) 0 34 i0 (.agg #[.int .i64 0, .int .i64 0]) 2 16 Try.underlying32 hi hz0 hz1 hz2 rfl (by decide) (.slice ar j cr) j _ rfl (HRW.out _) 1 (#[.int .i64 u, .int .i64 0] : Array Value).toList (.slice (some ⟨wr.heap.size, 0, none⟩) 1 1) rfl (AppArg.one (n := 2) hnw rfl (by simp [Value.oneCell'])) (by unfold maxLen; omega) (by omega) (Nat.zero_le _) ?_)
      intro a2 cap2 w2 hown2 hg2 hat2
      have h2 := Sep.app (Sep.keep HREL.out ((Below.refl wr.heap.size wr).alloc (Nat.le_refl _) (.cells #[.int .i64 u, .int .i64 0] 34))) hown2 hg2 (by rw [World.size_alloc]; exact hat2)
      have h3 : Sep w (rw_ 0 34 2 (.slice a2 (j + 1) cap2) (j + 1) (wcells ((zargs o.l).take (j + 1))) :: (twL t b lv pv (x :: l) Q many ++ chP b p k sz ca C (bx B0 (.cells #[.int .i64 o.kind, .int .i64 o.n, sv, .int .i64 o.l.args, .int .i64 o.l.res, .int .i64 o.l.height, av, .int .i64 o.v.1, .int .i64 o.v.2, .bool last] 36) :: F))) w2 := by
        have e : wcells ((zargs o.l).take j ++ [(u, 0)]) = wcells ((zargs o.l).take j) ++ (#[.int .i64 u, .int .i64 0] : Array Value).toList := by simp [wcells, wcell]
        rw [HTK.out, e]
        exact h2
      have H3 := Hid.mk h3
      clear h2 h3 hown2 hg2 hat2 hnw HRW HREL HTK hc1
      go_wp2_with fail
      exact ⟨⟨j + 1, a2, cap2, by go_num, by omega, rfl, H3⟩, by simp [intOf]; omega⟩
    · obtain rfl : j = ka := by omega
      have HRW : Hid (Sep w (vrow (.slice ar j cr) (zargs o.l) :: (twL t b lv pv (x :: l) Q many ++ chP b p k sz ca C (bx B0 (.cells #[.int .i64 o.kind, .int .i64 o.n, sv, .int .i64 o.l.args, .int .i64 o.l.res, .int .i64 o.l.height, av, .int .i64 o.v.1, .int .i64 o.v.2, .bool last] 36) :: F))) wr) := by
        have := HREL.out
        rw [← HZL.out, List.take_length] at this
        unfold Hid vrow
        rw [← HZL.out]
        exact this
      have HV := Hid.mk (tw_in HRW.out)
      clear HREL HRW
      have hok := HSIM.out.ok (by omega)
      have HXC : Hid (∀ {C' : Ch} {W' : World}, Sep w (twL t b lv pv (x :: l) Q many ++ chP b p k sz ca C' (vrow (.slice ar j cr) (zargs o.l) :: bx B0 (.cells #[.int .i64 o.kind, .int .i64 o.n, sv, .int .i64 o.l.args, .int .i64 o.l.res, .int .i64 o.l.height, av, .int .i64 o.v.1, .int .i64 o.v.2, .bool last] 36) :: F)) W' → W'.cell? ⟨t, 0, none⟩ = some (.pointer (some ⟨b, 0, none⟩)) ∧ W'.cell? ⟨B0, 2, none⟩ = some sv ∧ W'.cell? ⟨B0, 3, none⟩ = some (.int .i64 o.l.args) ∧ W'.cell? ⟨B0, 4, none⟩ = some (.int .i64 o.l.res) ∧ W'.cell? ⟨B0, 5, none⟩ = some (.int .i64 o.l.height)) := fun {C' W'} q => by
        obtain ⟨-, -, e2, e3, e4, e5, -, -⟩ := ten_cells q (q := B0) (tw_mem (List.Mem.tail _ (List.Mem.head _)))
        exact ⟨(tw_k q).1, e2, e3, e4, e5⟩
      obtain ⟨s0, s1, s2, s3, s4⟩ := HXC.out HV.out
      have HRUN := tdo_run (place := 1) HV.out.drew hok HSL.out HCAP.out hlen
      have hzl := HZL.out
      cases hcan : o.l.can 1
      · have hno : runC sz C o.l (zargs o.l) 1 = (250, C) := Rep.run_no hcan
        rw [hno] at HRUN
        have HRUN := Hid.mk HRUN
        have HNN' : Hid (N' = Tw.N ⟨C, (x :: l).map (·.m), Q, many⟩) := by
          rw [← HNN.out]
          unfold Hid stepN Tw.N
          simp [hcan, HKI.out]
        clear hno hok
        go_wp2_with fail
        refine HK2.out _ _ ?_
        conv => arg 2; whnf
        go_upto_region 30 with (fail)
        go_region_held3 (fun X => X.cell? ⟨t, 0, none⟩ = some (.pointer (some ⟨b, 0, none⟩)) ∧ X.cell? ⟨B0, 2, none⟩ = some sv ∧ X.cell? ⟨B0, 3, none⟩ = some (.int .i64 o.l.args) ∧ X.cell? ⟨B0, 4, none⟩ = some (.int .i64 o.l.res) ∧ X.cell? ⟨B0, 5, none⟩ = some (.int .i64 o.l.height)) (first | exact s9 | exact ⟨s0, s1, s2, s3, s4⟩) (first | (go_at_call 12; refine HRUN.out.mono ?_; rintro e w6 ⟨h6, rfl⟩; have s9 := HXC.out h6))
        have H6 := Hid.mk (tw_lose (tw_lose h6))
        clear h6 s9 HRUN HV HXC s0 s1 s2 s3 s4
        go_wp2_with fail
        exact hK.out _ _ rfl ⟨_, _, ⟨_, _, _, rfl, H6.out⟩, HSIM.out.mono (by omega), HNN'.out.symm⟩
      · obtain ⟨r1, Z', hs2⟩ := HSIM.out.run (l := o.l) (place := 1) (by omega) hcan
        simp only at r1
        rw [r1] at HRUN
        have HRUN := Hid.mk HRUN
        have HS2 := Hid.mk hs2
        have HNN' : Hid (N' = (Tw.N ⟨C, (x :: l).map (·.m), Q, many⟩).begun o.l (zargs o.l) (128 + x.m.ops.length) ((x :: l).map (·.m))) := by
          rw [← HNN.out]
          unfold Hid stepN Tw.N
          simp [hcan, HKI.out]
        have hl := (can_iff' hcan).1
        have hm1 := HSIM.out.n1
        have hln := HSIM.out.len.1
        simp only at hm1
        simp only [List.length_map] at hln
        have HB : Hid (∀ {C' : Ch} {W' : World}, Sep w (twL t b lv pv (x :: l) Q many ++ chP b p k sz ca C' (vrow (.slice ar j cr) (zargs o.l) :: bx B0 (.cells #[.int .i64 o.kind, .int .i64 o.n, sv, .int .i64 o.l.args, .int .i64 o.l.res, .int .i64 o.l.height, av, .int .i64 o.v.1, .int .i64 o.v.2, .bool last] 36) :: F)) W' → Calls Try.prog 31 #[.pointer (some ⟨t, 0, none⟩), layV sv o.l, .slice ar j cr] W' fun e w' => (∃ lv' y, Sep w (twL t b lv' pv (y :: x :: l) Q (many + 1) ++ chP b p k sz ca C' F) w' ∧ y.m = ⟨o.l, fillV o.l.slots (zargs o.l), [], many + 1, 128 + x.m.ops.length⟩) ∧ ∃ u, e = .returned u) := fun {C' W'} q => tdo_begun q HSL.out HCAP.out hl (by rw [hzl]; exact HKA.out) (by omega) ⟨by omega, by omega⟩ _
        clear hs2 r1 hok hl hm1 hln
        go_wp2_with fail
        refine HK2.out _ _ ?_
        conv => arg 2; whnf
        go_upto_region 30 with (fail)
        go_region_held3 (fun X => X.cell? ⟨t, 0, none⟩ = some (.pointer (some ⟨b, 0, none⟩)) ∧ X.cell? ⟨B0, 2, none⟩ = some sv ∧ X.cell? ⟨B0, 3, none⟩ = some (.int .i64 o.l.args) ∧ X.cell? ⟨B0, 4, none⟩ = some (.int .i64 o.l.res) ∧ X.cell? ⟨B0, 5, none⟩ = some (.int .i64 o.l.height)) (first | exact s9 | exact ⟨s0, s1, s2, s3, s4⟩) (first | (go_at_call 12; refine HRUN.out.mono ?_; rintro e w6 ⟨h6, rfl⟩; have s9 := HXC.out h6))
        obtain ⟨t0, t1, t2, t3, t4⟩ := s9
        have H6 := Hid.mk h6
        clear h6 HRUN HV HXC s0 s1 s2 s3 s4
        go_wp2_with fail
        refine (HB.out H6.out).mono ?_
        rintro e w7 ⟨⟨lv', x', h7, hx⟩, u, rfl⟩
        have H7 := Hid.mk h7
        have HX7 := Hid.mk hx
        clear h7 hx HB H6 t0 t1 t2 t3 t4
        go_wp2_with fail
        refine hK.out _ _ rfl ⟨_, _, ⟨_, _, _, ?_, H7.out⟩, HS2.out.mono hn', ?_⟩
        · simp only [List.map_cons]; rw [HX7.out]; simp
        · rw [HNN'.out]
          unfold Tw.N Nt.begun
          simp
end
end Go.Proofs.Ytpfnnmcokbolhaa
/- The twin's do: Push, Store. -/
namespace Go.Proofs.Ytpfnnmcokbolhaa
open Go.RowKit
set_option pp.deepTerms true
theorem val_ptr {o : Op25} {v1 v2 : Int} (h : o.val = (v1, v2)) (q : v1 = 4) : v2 = 0 := by
  unfold Op25.val at h
  split at h
  · simp only [Prod.mk.injEq] at h; omega
  · rename_i e
    rw [h] at e
    exact absurd q e
theorem val_here {o : Op25} {v1 v2 : Int} (h : o.val = (v1, v2)) (Q : List (Int × Pf)) : here Q (v1, v2) = (v1, v2) := by
  unfold here
  rw [if_neg]
  rintro ⟨q1, q2⟩
  simp only at q1 q2
  have := val_ptr h q1
  omega
section
variable {w W : World} {F G : List Asr} {t b p k g c : Nat} {sz ca many : Int} {C : Ch} {lv pv : Value} {ml l : List Mv} {x : Mv} {Q : List (Int × Pf)} {A : Asr} {T : Tw} {Z : List (Md × Af)} {n : Nat} {o : Op25} {sv av : Value} {last : Bool} {B0 : Nat}
set_option maxRecDepth 100000 in
set_option maxHeartbeats 4000000 in
theorem tdo_push {n' : Nat} {N' : Nt} {K : Act → World → Prop} {lm B10 : Nat} {v1 v2 : Int} {u2 u6 u7 u8 u11 u12 u13 u14 u15 u16 u17 u18 u19 u20 u21 u22 u23 u24 u25 u26 u27 u28 u29 u30 u31 u32 u33 u34 u35 u36 u37 u38 u39 u40 u41 u42 u43 u44 u45 u46 u47 u48 u49 u50 u51 u52 u53 u54 u55 u56 u57 u58 u59 u60 u61 u62 u63 u64 u65 u66 u67 u68 u69 u70 u71 u72 u73 u74 u75 u76 u77 u78 u79 u80 u81 u82 u83 u84 u85 u86 u87 u88 u89 u90 u91 u92 u93 u94 u95 u96 u97 u98 u99 u100 u101 u102 u103 u104 u105 u106 u107 u108 u109 u110 u111 u112 u113 u114 u115 u116 u117 u118 u119 u120 u121 u122 u123 u124 u125 u126 u127 u128 u129 u130 u131 u132 u133 u134 u135 u136 u137 u138 u139 u140 u141 u142 u143 u144 u145 u146 u147 u148 u149 u150 u151 u152 u153 u154 u155 u156 u157 u158 u159 u160 u161 u162 u163 u164 u165 u166 u167 u168 u169 u170 u171 u172 u173 u174 u175 u176 u177 u178 u179 u180 u181 u182 u183 u184 u185 u186 u187 u188 u189 u190 u191 u192 u193 u194 u195 u196 u197 u198 u199 u200 u201 u202 u203 u204 u205 u206 u207 u208 u209 u210 u211 u212 u213 u214 u215 u216 u217 u218 u219 u220 u221 u222 u223 u224 u225 u226 u227 u228 u229 u230 u231 u232 u233 u234 u235 u236 u237 u238 u239 u240 u241 u242 u243 u244 u245 u246 u247 u248 u249 u250 u251 u252 u253 u254 u255 u256 u257 u258 u259 u260 u261 u262 u263 u264 u265 u266 u267 u268 u269 u270 u271 u272 u273 u274 u275 u276 u277 u278 u279 u280 u281 u282 u283 u284 u285 u286 u287 u288 u289 u290 u291 u292 u293 u294 u295 u296 u297 u298 u299 u300 u301 u302 u303 u304 u305 u306 u307 u308 u309 u310 u311 u312 u313 u314 u315 u316 u317 u318 u319 u320 u321 u322 u323 u324 u325 u326 u327 u328 u329 u330 u331 u332 u333 u334 u335 u336 u337 u338 : Value} (H0 : Hid (Sep w (twL t b (.slice (some ⟨g, 0, none⟩) (l.length + 1 : Nat) c) pv (x :: l) Q many ++ chP b p k sz ca C (bx B10 (.cells #[.int .i64 v1, .int .i64 v2] 34) :: bx B0 (.cells #[.int .i64 o.kind, .int .i64 o.n, sv, .int .i64 o.l.args, .int .i64 o.l.res, .int .i64 o.l.height, av, .int .i64 o.v.1, .int .i64 o.v.2, .bool last] 36) :: F)) W)) (hs : Sim sz ca n ⟨C, (x :: l).map (·.m), Q, many⟩ Z) (hn : n ≤ 280) (hn' : n + 1 ≤ n') (hlm : l.length = lm) (hv : o.val = (v1, v2)) (hN : stepN (Tw.N ⟨C, (x :: l).map (·.m), Q, many⟩) o = N') (hK : Hid (∀ (tm : Array Value) (W' : World), tm.size = 339 → TwR w W' t b p k sz ca n' N' F → K ⟨tm, []⟩ W')) (hki : o.kind = 5) :
    Code.wp Try.prog (pieceOf (Try.f8.body.getD .skip) [1, 1, 1, 1, 1, 1, 0, 1, 0, 1, 1, 1, 1, 1, 1, 1, 1, 1, 0]) (Exit.inBlock 2 (Exit.then K (bodyPost Try.prog Try.f8 (fun e w' => TwR w w' t b p k sz ca n' N' F ∧ e = .returned (.bool true))))) ⟨#[.pointer (some ⟨t, 0, none⟩), (.agg #[.int .i64 o.kind, .int .i64 o.n, sv, .int .i64 o.l.args, .int .i64 o.l.res, .int .i64 o.l.height, av, .int .i64 o.v.1, .int .i64 o.v.2, .bool last]), u2, .pointer (some ⟨B0, 0, none⟩), .bool false, .int .i64 ((lm : Int) + 1), u6, u7, u8, .pointer (some ⟨g, lm * 7, none⟩), .pointer (some ⟨B10, 0, none⟩), u11, u12, u13, u14, u15, u16, u17, u18, u19, u20, u21, u22, u23, u24, u25, u26, u27, u28, u29, u30, u31, u32, u33, u34, u35, u36, u37, u38, u39, u40, u41, u42, u43, u44, u45, u46, u47, u48, u49, u50, u51, u52, u53, u54, u55, u56, u57, u58, u59, u60, u61, u62, u63, u64, u65, u66, u67, u68, u69, u70, u71, u72, u73, u74, u75, u76, u77, u78, u79, u80, u81, u82, u83, u84, u85, u86, u87, u88, u89, u90, u91, u92, u93, u94, u95, u96, u97, u98, u99, u100, u101, u102, u103, u104, u105, u106, u107, u108, u109, u110, u111, u112, u113, u114, u115, u116, u117, u118, u119, u120, u121, u122, u123, u124, u125, u126, u127, u128, u129, u130, u131, u132, u133, u134, u135, u136, u137, u138, u139, u140, u141, u142, u143, u144, u145, u146, u147, u148, u149, u150, u151, u152, u153, u154, u155, u156, u157, u158, u159, u160, u161, u162, u163, u164, u165, u166, u167, u168, u169, u170, u171, u172, u173, u174, u175, u176, u177, u178, u179, u180, u181, u182, u183, u184, u185, u186, u187, u188, u189, u190, u191, u192, u193, u194, u195, u196, u197, u198, u199, u200, u201, u202, u203, u204, u205, u206, u207, u208, u209, u210, u211, u212, u213, u214, u215, u216, u217, u218, u219, u220, u221, u222, u223, u224, u225, u226, u227, u228, u229, u230, u231, u232, u233, u234, u235, u236, u237, u238, u239, u240, u241, u242, u243, u244, u245, u246, u247, u248, u249, u250, u251, u252, u253, u254, u255, u256, u257, u258, u259, u260, u261, u262, u263, u264, u265, u266, u267, u268, u269, u270, u271, u272, u273, u274, u275, u276, u277, u278, u279, u280, u281, u282, u283, u284, u285, u286, u287, u288, u289, u290, u291, u292, u293, u294, u295, u296, u297, u298, u299, u300, u301, u302, u303, u304, u305, u306, u307, u308, u309, u310, u311, u312, u313, u314, u315, u316, u317, u318, u319, u320, u321, u322, u323, u324, u325, u326, u327, u328, u329, u330, u331, u332, u333, u334, u335, u336, u337, u338], []⟩ W := by
  conv => arg 2; whnf
  have hok := hs.ok (by omega)
  obtain ⟨-, -, -, -, hol⟩ := hs.md (m := x.m) (by simp)
  obtain ⟨ao, c2, hov, hc2, hao⟩ := tw_ovShape H0.out
  obtain ⟨m, hm⟩ : ∃ m, x.m.ops.length = m := ⟨_, rfl⟩
  rw [hm] at hol hc2 hao
  have HX : Hid (∀ {C' W'}, Sep w (chP b p k sz ca C' (twL t b (.slice (some ⟨g, 0, none⟩) (l.length + 1 : Nat) c) pv (x :: l) Q many ++ (bx B10 (.cells #[.int .i64 v1, .int .i64 v2] 34) :: bx B0 (.cells #[.int .i64 o.kind, .int .i64 o.n, sv, .int .i64 o.l.args, .int .i64 o.l.res, .int .i64 o.l.height, av, .int .i64 o.v.1, .int .i64 o.v.2, .bool last] 36) :: F))) W' → W'.cell? ⟨t, 0, none⟩ = some (.pointer (some ⟨b, 0, none⟩)) ∧ W'.cell? ⟨B10, 0, none⟩ = some (.int .i64 v1) ∧ W'.cell? ⟨B10, 1, none⟩ = some (.int .i64 v2)) := fun {C' W'} q => by
    have q' := ch_tw q
    obtain ⟨e1, e2, -⟩ := two_cells q' (q := B10) (tw_mem (List.Mem.head _))
    exact ⟨(tw_k q').1, e1, e2⟩
  obtain ⟨s0, s1, s2⟩ := HX.out (tw_ch H0.out)
  have HP := cpush_any (tw_ch H0.out.drew) hok (v1, v2)
  have HSIM := Hid.mk hs
  have HLM := Hid.mk hlm
  have HM := Hid.mk hm
  have HOV := Hid.mk hov
  have HKI := Hid.mk hki
  have HNN := Hid.mk hN
  have HV := Hid.mk hv
  by_cases hh : okV v1 v2 = true ∧ (x.m.ops.length : Int) ≠ x.m.lay.height
  · have hV : VOk Q.length (v1, v2) := ⟨hh.1, fun q => by have := val_ptr hv q; simp only; omega⟩
    obtain ⟨r1, Z', hs2⟩ := hs.push rfl hV hh.2
    simp only [val_here hv] at r1 hs2
    rw [r1] at HP
    have HP := Hid.mk HP
    have HS2 := Hid.mk hs2
    have HNN' : Hid (N' = Tw.N ⟨C, x.m.withOps (x.m.ops ++ [(v1, v2)]) :: l.map (·.m), Q, many⟩) := by
      rw [← hN]
      unfold Hid stepN Tw.N
      simp only [List.map_cons]
      rw [if_neg (by omega), if_neg (by omega), if_neg (by omega), if_neg (by omega), if_pos hki, hv, if_pos hh]
    clear hok hs hs2 hV r1 hh hlm hm hov hki hN hv
    go_upto_region 41 with (fail)
    go_region_held3 (fun X => X.cell? ⟨t, 0, none⟩ = some (.pointer (some ⟨b, 0, none⟩)) ∧ X.cell? ⟨B10, 0, none⟩ = some (.int .i64 v1) ∧ X.cell? ⟨B10, 1, none⟩ = some (.int .i64 v2)) (first | exact s9 | exact ⟨s0, s1, s2⟩) (first | (go_at_call 14; refine HP.out.mono ?_; rintro e w6 ⟨h6, rfl⟩; have s9 := HX.out h6))
    have h7 := ch_tw h6
    obtain ⟨-, -, -, -, -, -, k5, -, kz⟩ := tw_topAt h7
    rw [HLM.out, HOV.out, HM.out] at k5
    obtain ⟨t0, t1, t2⟩ := s9
    have HRW : w6.ownsRow 0 34 2 (.slice ao m c2) m (wcells x.m.ops) := by
      have : w6.ownsRow 0 34 2 x.ov x.m.ops.length (wcells x.m.ops) := (tw_open h7).owns (List.Mem.head _)
      rw [HOV.out, HM.out] at this
      exact this
    have HRW4 : Hid (∀ X4, X4 = w6.drew → X4.ownsRow 0 34 2 (.slice ao m c2) m (wcells x.m.ops)) := fun X4 q => by rw [q]; exact HRW.drew
    have H7 := Hid.mk h7
    obtain ⟨ip0, ip, ipz0, ipz1, ipz2⟩ := info_parts infoV
    clear h6 h7 HX HP HRW s0 s1 s2
    go_upto_region 42 with (fail)
    refine wp_region_L 10 (fun X => X.cell? ⟨g, lm * 7 + 5, none⟩ = some (.slice ao m c2) ∧ X.cell? ⟨B10, 0, none⟩ = some (.int .i64 v1) ∧ X.cell? ⟨B10, 1, none⟩ = some (.int .i64 v2)) (by kernel_rfl) ⟨k5, t1, t2⟩ (fun hHeld => ?_)
    obtain ⟨X8, hX8⟩ : ∃ X, X = w6.drew := ⟨_, rfl⟩
    rw [← hX8] at hHeld ⊢
    have HX8e := Hid.mk hX8
    clear hX8
    refine wpAnyL_take (i := 0) (v := ?_) rfl (by kernel_rfl) (by kernel_rfl) (by kernel_rfl) (by kernel_rfl) (fun _ _ _ h => h) (Or.inl ⟨by rfl, ?_⟩) (by assumption) ?_
    rotate_left
    · (intro w hSw; (try dsimp only at hSw); go_simp <;> with_reducible rfl)
    (try simp only [Act.put, List.getElem_toArray, List.getElem_cons_zero, List.getElem_cons_succ, List.setIfInBounds_toArray, List.set_cons_zero, List.set_cons_succ])
    refine wpAnyL_take (i := 1) (v := ?_) rfl (by kernel_rfl) (by kernel_rfl) (by kernel_rfl) (by kernel_rfl) (fun _ _ _ h => h) (Or.inl ⟨by rfl, ?_⟩) (by assumption) ?_
    rotate_left
    · (intro w hSw; (try dsimp only at hSw); go_simp <;> with_reducible rfl)
    (try simp only [Act.put, List.getElem_toArray, List.getElem_cons_zero, List.getElem_cons_succ, List.setIfInBounds_toArray, List.set_cons_zero, List.set_cons_succ])
    refine wpAnyL_take (i := 2) (v := ?_) rfl (by kernel_rfl) (by kernel_rfl) (by kernel_rfl) (by kernel_rfl) (fun _ _ _ h => h) (Or.inl ⟨by rfl, ?_⟩) (by assumption) ?_
    rotate_left
    · (intro w hSw; (try dsimp only at hSw); go_simp <;> with_reducible rfl)
    (try simp only [Act.put, List.getElem_toArray, List.getElem_cons_zero, List.getElem_cons_succ, List.setIfInBounds_toArray, List.set_cons_zero, List.set_cons_succ])
    refine wpAnyL_take (i := 3) (v := ?_) rfl (by kernel_rfl) (by kernel_rfl) (by kernel_rfl) (by kernel_rfl) (fun _ _ _ h => h) (Or.inl ⟨by rfl, ?_⟩) (by assumption) ?_
    rotate_left
    · (intro w hSw; (try dsimp only at hSw); go_simp <;> with_reducible rfl)
    (try simp only [Act.put, List.getElem_toArray, List.getElem_cons_zero, List.getElem_cons_succ, List.setIfInBounds_toArray, List.set_cons_zero, List.set_cons_succ])
    refine wpAnyL_take (i := 4) (v := ?_) rfl (by kernel_rfl) (by kernel_rfl) (by kernel_rfl) (by kernel_rfl) (fun _ _ _ h => h) (Or.inl ⟨by rfl, ?_⟩) (by assumption) ?_
    rotate_left
    · (intro w hSw; (try dsimp only at hSw); go_simp <;> with_reducible rfl)
    (try simp only [Act.put, List.getElem_toArray, List.getElem_cons_zero, List.getElem_cons_succ, List.setIfInBounds_toArray, List.set_cons_zero, List.set_cons_succ])
    refine wpAnyL_take (i := 5) (v := ?_) rfl (by kernel_rfl) (by kernel_rfl) (by kernel_rfl) (by kernel_rfl) (fun _ _ _ h => h) (Or.inl ⟨by rfl, ?_⟩) (by assumption) ?_
    rotate_left
    · (intro w hSw; (try dsimp only at hSw); go_simp <;> with_reducible rfl)
    (try simp only [Act.put, List.getElem_toArray, List.getElem_cons_zero, List.getElem_cons_succ, List.setIfInBounds_toArray, List.set_cons_zero, List.set_cons_succ])
    refine wpAnyL_only (i := 6) (by kernel_rfl) rfl (fun K hK => ?_)
    go_simp
    refine hK _ _ (fun _ => ⟨alloc_cell hHeld.1, alloc_cell hHeld.2.1, alloc_cell hHeld.2.2⟩) (fun hHeld0 => ?_)
    have hHeld := hHeld0 rfl
    clear hK K hHeld0
    (try simp only [Act.put, List.getElem_toArray, List.getElem_cons_zero, List.getElem_cons_succ, List.setIfInBounds_toArray, List.set_cons_zero, List.set_cons_succ])
    have hnw := heap_alloc_new (X8) (.cells #[.int .i64 v1, .int .i64 v2] 34)
    refine wpAnyL_only (i := 7) (by kernel_rfl) rfl (fun K hK => ?_)
    refine step_append_x _ (by rfl) _ _ _ (by rfl) 0 34 ip0 ((.agg #[.int .i64 0, .int .i64 0])) 2 16 Try.underlying32 ip ipz0 ipz1 ipz2 rfl (by omega) _ m (wcells x.m.ops) (by rfl) ((HRW4.out _ HX8e.out).alloc _) 1 (#[.int .i64 v1, .int .i64 v2] : Array Value).toList _ (by rfl) (AppArg.one (w := ((X8).alloc (.cells #[.int .i64 v1, .int .i64 v2] 34))) hnw rfl (by simp [Value.oneCell'])) (by unfold maxLen; omega) (by omega) (Nat.zero_le _) ?_
    intro g2 cap2 w12 hown2 hg2 hat2
    have h30 := H7.out.drew
    rw [← HX8e.out] at h30
    have h3 := Sep.keep h30 ((Below.refl X8.heap.size X8).alloc (Nat.le_refl _) (.cells #[.int .i64 v1, .int .i64 v2] 34))
    obtain ⟨h4, h5⟩ := tw_push1 (kk := m) (news := [(v1, v2)]) h3 HM.out rfl hown2 (by rw [HOV.out, HM.out]; exact hg2) (by rw [HOV.out, HM.out]; exact hat2)
    obtain ⟨-, -, -, u5, u6⟩ := tw_mid h5
    have hG := Sep.sub h5 (List.Sublist.cons _ (List.Sublist.cons _ (List.Sublist.cons _ (List.Sublist.cons _ (List.Sublist.cons _ (List.sublist_append_right _ _))))))
    obtain ⟨y1, y2, -⟩ := two_cells hG (q := B10) (v1 := .int .i64 v1) (v2 := .int .i64 v2) (T := 34) (by simp [chP])
    rw [HLM.out, HOV.out, HM.out] at u5
    rw [HLM.out] at h4
    have H4 := Hid.mk h4
    have z2 := u6 (lm * 7 + 5)
    clear h30 h3 h4 h5 hG hown2 hg2 hat2 hnw u6 HRW4
    refine hK _ _ (fun _ => ⟨u5, y1, y2⟩) (fun hHeld0 => ?_)
    have hHeld := hHeld0 rfl
    clear hK K hHeld0
    (try simp only [Act.put, List.getElem_toArray, List.getElem_cons_zero, List.getElem_cons_succ, List.setIfInBounds_toArray, List.set_cons_zero, List.set_cons_succ])
    refine wpAnyL_only (i := 8) (by kernel_rfl) rfl (fun K hK => ?_)
    go_simp
    refine hK _ _ (fun _ => ⟨u5, y1, y2⟩) (fun hHeld0 => ?_)
    have hHeld := hHeld0 rfl
    clear hK K hHeld0
    (try simp only [Act.put, List.getElem_toArray, List.getElem_cons_zero, List.getElem_cons_succ, List.setIfInBounds_toArray, List.set_cons_zero, List.set_cons_succ])
    refine wpAnyL_only (i := 9) (by kernel_rfl) rfl (fun K hK => ?_)
    go_simp
    refine hK _ _ (fun _ => ⟨u5, y1, y2⟩) (fun hHeld0 => ?_)
    have hHeld := hHeld0 rfl
    clear hK K hHeld0
    (try simp only [Act.put, List.getElem_toArray, List.getElem_cons_zero, List.getElem_cons_succ, List.setIfInBounds_toArray, List.set_cons_zero, List.set_cons_succ])
    refine wpAnyL_only (i := 10) (by kernel_rfl) rfl (fun K hK => ?_)
    go_simp
    refine hK _ _ (fun q => by cases q) (fun hHeld0 => ?_)
    clear hK K hHeld0
    refine wpAnyL_done (by kernel_rfl) ?_
    clear HX8e H7
    go_wp2_with fail
    exact hK.out _ _ rfl ⟨_, _, ⟨_, _, _, rfl, tw_lose (tw_lose H4.out)⟩, HS2.out.mono (by omega), HNN'.out.symm⟩
  · have hno := hs.push_no rfl (v := (v1, v2)) (by
      by_cases q : okV v1 v2 = true
      · exact .inr (by
          by_cases q2 : (x.m.ops.length : Int) = x.m.lay.height
          · exact q2
          · exact absurd ⟨q, q2⟩ hh)
      · exact .inl (by simpa using q))
    rw [hno] at HP
    have HP := Hid.mk HP
    have HNN' : Hid (N' = (Tw.N ⟨C, (x :: l).map (·.m), Q, many⟩)) := by
      rw [← hN]
      unfold Hid stepN Tw.N
      simp only [List.map_cons]
      rw [if_neg (by omega), if_neg (by omega), if_neg (by omega), if_neg (by omega), if_pos hki, hv, if_neg hh]
    clear hok hs hno hh hlm hm hov hki hN hv
    go_upto_region 41 with (fail)
    go_region_held3 (fun X => X.cell? ⟨t, 0, none⟩ = some (.pointer (some ⟨b, 0, none⟩)) ∧ X.cell? ⟨B10, 0, none⟩ = some (.int .i64 v1) ∧ X.cell? ⟨B10, 1, none⟩ = some (.int .i64 v2)) (first | exact s9 | exact ⟨s0, s1, s2⟩) (first | (go_at_call 14; refine HP.out.mono ?_; rintro e w6 ⟨h6, rfl⟩; have s9 := HX.out h6))
    have H6 := Hid.mk (tw_lose (tw_lose (ch_tw h6)))
    clear h6 s9 HP HX s0 s1 s2
    go_wp2_with fail
    exact hK.out _ _ rfl ⟨_, _, ⟨_, _, _, rfl, H6.out⟩, HSIM.out.mono (by omega), HNN'.out.symm⟩
end
end Go.Proofs.Ytpfnnmcokbolhaa
/- The twin's do: Store. -/
namespace Go.Proofs.Ytpfnnmcokbolhaa
open Go.RowKit
set_option pp.deepTerms true
section
variable {w W : World} {F G : List Asr} {t b p k g c : Nat} {sz ca many : Int} {C : Ch} {lv pv : Value} {ml l : List Mv} {x : Mv} {Q : List (Int × Pf)} {A : Asr} {T : Tw} {Z : List (Md × Af)} {n : Nat} {o : Op25} {sv av : Value} {last : Bool} {B0 : Nat}
set_option maxRecDepth 100000 in
set_option maxHeartbeats 4000000 in
theorem tdo_store {n' : Nat} {N' : Nt} {K : Act → World → Prop} {lm B10 : Nat} {v1 v2 : Int} {u2 u6 u7 u8 u11 u12 u13 u14 u15 u16 u17 u18 u19 u20 u21 u22 u23 u24 u25 u26 u27 u28 u29 u30 u31 u32 u33 u34 u35 u36 u37 u38 u39 u40 u41 u42 u43 u44 u45 u46 u47 u48 u49 u50 u51 u52 u53 u54 u55 u56 u57 u58 u59 u60 u61 u62 u63 u64 u65 u66 u67 u68 u69 u70 u71 u72 u73 u74 u75 u76 u77 u78 u79 u80 u81 u82 u83 u84 u85 u86 u87 u88 u89 u90 u91 u92 u93 u94 u95 u96 u97 u98 u99 u100 u101 u102 u103 u104 u105 u106 u107 u108 u109 u110 u111 u112 u113 u114 u115 u116 u117 u118 u119 u120 u121 u122 u123 u124 u125 u126 u127 u128 u129 u130 u131 u132 u133 u134 u135 u136 u137 u138 u139 u140 u141 u142 u143 u144 u145 u146 u147 u148 u149 u150 u151 u152 u153 u154 u155 u156 u157 u158 u159 u160 u161 u162 u163 u164 u165 u166 u167 u168 u169 u170 u171 u172 u173 u174 u175 u176 u177 u178 u179 u180 u181 u182 u183 u184 u185 u186 u187 u188 u189 u190 u191 u192 u193 u194 u195 u196 u197 u198 u199 u200 u201 u202 u203 u204 u205 u206 u207 u208 u209 u210 u211 u212 u213 u214 u215 u216 u217 u218 u219 u220 u221 u222 u223 u224 u225 u226 u227 u228 u229 u230 u231 u232 u233 u234 u235 u236 u237 u238 u239 u240 u241 u242 u243 u244 u245 u246 u247 u248 u249 u250 u251 u252 u253 u254 u255 u256 u257 u258 u259 u260 u261 u262 u263 u264 u265 u266 u267 u268 u269 u270 u271 u272 u273 u274 u275 u276 u277 u278 u279 u280 u281 u282 u283 u284 u285 u286 u287 u288 u289 u290 u291 u292 u293 u294 u295 u296 u297 u298 u299 u300 u301 u302 u303 u304 u305 u306 u307 u308 u309 u310 u311 u312 u313 u314 u315 u316 u317 u318 u319 u320 u321 u322 u323 u324 u325 u326 u327 u328 u329 u330 u331 u332 u333 u334 u335 u336 u337 u338 : Value} (H0 : Hid (Sep w (twL t b (.slice (some ⟨g, 0, none⟩) (l.length + 1 : Nat) c) pv (x :: l) Q many ++ chP b p k sz ca C (bx B10 (.cells #[.int .i64 v1, .int .i64 v2] 34) :: bx B0 (.cells #[.int .i64 o.kind, .int .i64 o.n, sv, .int .i64 o.l.args, .int .i64 o.l.res, .int .i64 o.l.height, av, .int .i64 o.v.1, .int .i64 o.v.2, .bool last] 36) :: F)) W)) (hs : Sim sz ca n ⟨C, (x :: l).map (·.m), Q, many⟩ Z) (hn : n ≤ 280) (hn' : n + 1 ≤ n') (hlm : l.length = lm) (hv : o.val = (v1, v2)) (hN : stepN (Tw.N ⟨C, (x :: l).map (·.m), Q, many⟩) o = N') (hK : Hid (∀ (tm : Array Value) (W' : World), tm.size = 339 → TwR w W' t b p k sz ca n' N' F → K ⟨tm, []⟩ W')) (hki : o.kind = 8) :
    Code.wp Try.prog (pieceOf (Try.f8.body.getD .skip) [1, 1, 1, 1, 1, 1, 0, 1, 0, 1, 1, 1, 1, 1, 1, 1, 1, 1, 1, 1, 1, 1, 0]) (Exit.inBlock 2 (Exit.then K (bodyPost Try.prog Try.f8 (fun e w' => TwR w w' t b p k sz ca n' N' F ∧ e = .returned (.bool true))))) ⟨#[.pointer (some ⟨t, 0, none⟩), (.agg #[.int .i64 o.kind, .int .i64 o.n, sv, .int .i64 o.l.args, .int .i64 o.l.res, .int .i64 o.l.height, av, .int .i64 o.v.1, .int .i64 o.v.2, .bool last]), u2, .pointer (some ⟨B0, 0, none⟩), .bool false, .int .i64 ((lm : Int) + 1), u6, u7, u8, .pointer (some ⟨g, lm * 7, none⟩), .pointer (some ⟨B10, 0, none⟩), u11, u12, u13, u14, u15, u16, u17, u18, u19, u20, u21, u22, u23, u24, u25, u26, u27, u28, u29, u30, u31, u32, u33, u34, u35, u36, u37, u38, u39, u40, u41, u42, u43, u44, u45, u46, u47, u48, u49, u50, u51, u52, u53, u54, u55, u56, u57, u58, u59, u60, u61, u62, u63, u64, u65, u66, u67, u68, u69, u70, u71, u72, u73, u74, u75, u76, u77, u78, u79, u80, u81, u82, u83, u84, u85, u86, u87, u88, u89, u90, u91, u92, u93, u94, u95, u96, u97, u98, u99, u100, u101, u102, u103, u104, u105, u106, u107, u108, u109, u110, u111, u112, u113, u114, u115, u116, u117, u118, u119, u120, u121, u122, u123, u124, u125, u126, u127, u128, u129, u130, u131, u132, u133, u134, u135, u136, u137, u138, u139, u140, u141, u142, u143, u144, u145, u146, u147, u148, u149, u150, u151, u152, u153, u154, u155, u156, u157, u158, u159, u160, u161, u162, u163, u164, u165, u166, u167, u168, u169, u170, u171, u172, u173, u174, u175, u176, u177, u178, u179, u180, u181, u182, u183, u184, u185, u186, u187, u188, u189, u190, u191, u192, u193, u194, u195, u196, u197, u198, u199, u200, u201, u202, u203, u204, u205, u206, u207, u208, u209, u210, u211, u212, u213, u214, u215, u216, u217, u218, u219, u220, u221, u222, u223, u224, u225, u226, u227, u228, u229, u230, u231, u232, u233, u234, u235, u236, u237, u238, u239, u240, u241, u242, u243, u244, u245, u246, u247, u248, u249, u250, u251, u252, u253, u254, u255, u256, u257, u258, u259, u260, u261, u262, u263, u264, u265, u266, u267, u268, u269, u270, u271, u272, u273, u274, u275, u276, u277, u278, u279, u280, u281, u282, u283, u284, u285, u286, u287, u288, u289, u290, u291, u292, u293, u294, u295, u296, u297, u298, u299, u300, u301, u302, u303, u304, u305, u306, u307, u308, u309, u310, u311, u312, u313, u314, u315, u316, u317, u318, u319, u320, u321, u322, u323, u324, u325, u326, u327, u328, u329, u330, u331, u332, u333, u334, u335, u336, u337, u338], []⟩ W := by
  conv => arg 2; whnf
  have hok := hs.ok (by omega)
  have hne := hs.ne rfl
  have HX : Hid (∀ {C' W'}, Sep w (chP b p k sz ca C' (twL t b (.slice (some ⟨g, 0, none⟩) (l.length + 1 : Nat) c) pv (x :: l) Q many ++ (bx B10 (.cells #[.int .i64 v1, .int .i64 v2] 34) :: bx B0 (.cells #[.int .i64 o.kind, .int .i64 o.n, sv, .int .i64 o.l.args, .int .i64 o.l.res, .int .i64 o.l.height, av, .int .i64 o.v.1, .int .i64 o.v.2, .bool last] 36) :: F))) W' → W'.cell? ⟨t, 0, none⟩ = some (.pointer (some ⟨b, 0, none⟩)) ∧ W'.cell? ⟨B0, 1, none⟩ = some (.int .i64 o.n) ∧ W'.cell? ⟨B10, 0, none⟩ = some (.int .i64 v1) ∧ W'.cell? ⟨B10, 1, none⟩ = some (.int .i64 v2)) := fun {C' W'} q => by
    have q' := ch_tw q
    obtain ⟨e1, e2, -⟩ := two_cells q' (q := B10) (tw_mem (List.Mem.head _))
    obtain ⟨-, e3, -⟩ := ten_cells q' (q := B0) (tw_mem (List.Mem.tail _ (List.Mem.head _)))
    exact ⟨(tw_k q').1, e3, e1, e2⟩
  obtain ⟨s0, s1, s2, s3⟩ := HX.out (tw_ch H0.out)
  have HP := cstore_any (tw_ch H0.out.drew) hok hne o.n (v1, v2)
  have HSIM := Hid.mk hs
  have HLM := Hid.mk hlm
  have HKI := Hid.mk hki
  have HNN := Hid.mk hN
  by_cases hh : slotIs x.m.lay o.n v1 = true ∧ okV v1 v2 = true
  · obtain ⟨r1, n0, n1, Z', hs2⟩ := hs.store rfl (v := (v1, v2)) hh.2 (val_ptr hv) hh.1
    simp only at r1 n0 n1 hs2
    obtain ⟨j, hj⟩ := Int.eq_ofNat_of_zero_le n0
    rw [hj] at n1
    have hjs : j < x.m.slots.length := by omega
    rw [r1] at HP
    have HP := Hid.mk HP
    have HS2 := Hid.mk hs2
    have HJ := Hid.mk hj
    have HJS := Hid.mk hjs
    have HNN' : Hid (N' = Tw.N ⟨(storeC C o.n (v1, v2)).2, x.m.set j (v1, v2) :: l.map (·.m), Q, many⟩) := by
      rw [← hN]
      unfold Hid stepN Tw.N
      simp only [List.map_cons]
      rw [if_neg (by omega), if_neg (by omega), if_neg (by omega), if_neg (by omega), if_neg (by omega), if_neg (by omega), if_pos hki, hv, if_pos hh, hj, Int.toNat_natCast]
    obtain ⟨gs, cs, hsv, hcs, -⟩ := tw_slot (pre := []) H0.out hjs
    obtain ⟨ns, hns⟩ : ∃ ns, x.m.slots.length = ns := ⟨_, rfl⟩
    rw [hns] at hsv hcs
    have hjn : (j : Int) < (ns : Int) := by omega
    have hjn2 : j < ns := by omega
    have HSV := Hid.mk hsv
    have HJN := Hid.mk (And.intro hjn (And.intro hjn2 hcs))
    clear hjn hjn2 hcs
    clear hok hne hs hs2 r1 n0 n1 hh hlm hki hN hv hjs hsv hns hj
    go_upto_region 52 with (fail)
    go_region_held3 (fun X => X.cell? ⟨t, 0, none⟩ = some (.pointer (some ⟨b, 0, none⟩)) ∧ X.cell? ⟨B0, 1, none⟩ = some (.int .i64 o.n) ∧ X.cell? ⟨B10, 0, none⟩ = some (.int .i64 v1) ∧ X.cell? ⟨B10, 1, none⟩ = some (.int .i64 v2)) (first | exact s9 | exact ⟨s0, s1, s2, s3⟩) (first | (go_at_call 21; refine HP.out.mono ?_; rintro e w6 ⟨h6, rfl⟩; have s9 := HX.out h6))
    have h7 := ch_tw h6
    obtain ⟨hjn, hjn2, hcs⟩ := HJN.out
    obtain ⟨t0, t1, t2, t3⟩ := s9
    rw [HJ.out] at t1
    obtain ⟨k4, -⟩ := tw_modAt (pre := []) h7
    rw [HLM.out, HSV.out] at k4
    obtain ⟨q0, q1, q2, -⟩ := tw_slotAt (pre := []) h7 HJS.out HSV.out
    obtain ⟨-, -, -, q3⟩ := tw_slotAt (pre := []) h7.drew HJS.out HSV.out
    have q20 := q2 (j * 2)
    have q21 := q2 (j * 2 + 1)
    have H7 := Hid.mk (q3 (v1, v2))
    clear h6 h7 HX HP q2 q3 s0 s1 s2 s3
    go_upto_region 53 with (fail)
    refine wp_region_L 8 (fun X => X.cell? ⟨g, lm * 7 + 4, none⟩ = some (.slice (some ⟨gs, 0, none⟩) ns cs) ∧ X.cell? ⟨B0, 1, none⟩ = some (.int .i64 (j : Int)) ∧ X.cell? ⟨B10, 0, none⟩ = some (.int .i64 v1) ∧ X.cell? ⟨B10, 1, none⟩ = some (.int .i64 v2)) (by kernel_rfl) ⟨k4, t1, t2, t3⟩ (fun hHeld => ?_)
    refine wpAnyL_take (i := 0) (v := ?_) rfl (by kernel_rfl) (by kernel_rfl) (by kernel_rfl) (by kernel_rfl) (fun _ _ _ h => h) (Or.inl ⟨by rfl, ?_⟩) (by assumption) ?_
    rotate_left
    · (intro w hSw; (try dsimp only at hSw); go_simp <;> with_reducible rfl)
    (try simp only [Act.put, List.getElem_toArray, List.getElem_cons_zero, List.getElem_cons_succ, List.setIfInBounds_toArray, List.set_cons_zero, List.set_cons_succ])
    refine wpAnyL_take (i := 1) (v := ?_) rfl (by kernel_rfl) (by kernel_rfl) (by kernel_rfl) (by kernel_rfl) (fun _ _ _ h => h) (Or.inl ⟨by rfl, ?_⟩) (by assumption) ?_
    rotate_left
    · (intro w hSw; (try dsimp only at hSw); go_simp <;> with_reducible rfl)
    (try simp only [Act.put, List.getElem_toArray, List.getElem_cons_zero, List.getElem_cons_succ, List.setIfInBounds_toArray, List.set_cons_zero, List.set_cons_succ])
    refine wpAnyL_take (i := 2) (v := ?_) rfl (by kernel_rfl) (by kernel_rfl) (by kernel_rfl) (by kernel_rfl) (fun _ _ _ h => h) (Or.inl ⟨by rfl, ?_⟩) (by assumption) ?_
    rotate_left
    · (intro w hSw; (try dsimp only at hSw); go_simp <;> with_reducible rfl)
    (try simp only [Act.put, List.getElem_toArray, List.getElem_cons_zero, List.getElem_cons_succ, List.setIfInBounds_toArray, List.set_cons_zero, List.set_cons_succ])
    refine wpAnyL_take (i := 3) (v := ?_) rfl (by kernel_rfl) (by kernel_rfl) (by kernel_rfl) (by kernel_rfl) (fun _ _ _ h => h) (Or.inl ⟨by rfl, ?_⟩) (by assumption) ?_
    rotate_left
    · (intro w hSw; (try dsimp only at hSw); go_simp <;> with_reducible rfl)
    (try simp only [Act.put, List.getElem_toArray, List.getElem_cons_zero, List.getElem_cons_succ, List.setIfInBounds_toArray, List.set_cons_zero, List.set_cons_succ])
    refine wpAnyL_take (i := 4) (v := ?_) rfl (by kernel_rfl) (by kernel_rfl) (by kernel_rfl) (by kernel_rfl) (fun _ _ _ h => h) (Or.inl ⟨by rfl, ?_⟩) (by assumption) ?_
    rotate_left
    · (intro w hSw; (try dsimp only at hSw); go_simp <;> with_reducible rfl)
    (try simp only [Act.put, List.getElem_toArray, List.getElem_cons_zero, List.getElem_cons_succ, List.setIfInBounds_toArray, List.set_cons_zero, List.set_cons_succ])
    refine wpAnyL_take (i := 5) (v := ?_) rfl (by kernel_rfl) (by kernel_rfl) (by kernel_rfl) (by kernel_rfl) (fun _ _ _ h => h) (Or.inl ⟨by rfl, ?_⟩) (by assumption) ?_
    rotate_left
    · (intro w hSw; (try dsimp only at hSw); go_simp <;> with_reducible rfl)
    (try simp only [Act.put, List.getElem_toArray, List.getElem_cons_zero, List.getElem_cons_succ, List.setIfInBounds_toArray, List.set_cons_zero, List.set_cons_succ])
    refine wpAnyL_take (i := 6) (v := ?_) rfl (by kernel_rfl) (by kernel_rfl) (by kernel_rfl) (by kernel_rfl) (fun _ _ _ h => h) (Or.inl ⟨by rfl, ?_⟩) (by assumption) ?_
    rotate_left
    · (intro w hSw; (try dsimp only at hSw); go_simp <;> with_reducible rfl)
    (try simp only [Act.put, List.getElem_toArray, List.getElem_cons_zero, List.getElem_cons_succ, List.setIfInBounds_toArray, List.set_cons_zero, List.set_cons_succ])
    refine wpAnyL_take (i := 7) (v := ?_) rfl (by kernel_rfl) (by kernel_rfl) (by kernel_rfl) (by kernel_rfl) (fun _ _ _ h => h) (Or.inl ⟨by rfl, ?_⟩) (by assumption) ?_
    rotate_left
    · (intro w hSw; (try dsimp only at hSw); go_simp <;> with_reducible rfl)
    (try simp only [Act.put, List.getElem_toArray, List.getElem_cons_zero, List.getElem_cons_succ, List.setIfInBounds_toArray, List.set_cons_zero, List.set_cons_succ])
    refine wpAnyL_only (i := 8) (by kernel_rfl) rfl (fun K hK => ?_)
    go_simp
    refine hK _ _ (fun q => by cases q) (fun hHeld0 => ?_)
    clear hK K hHeld0
    refine wpAnyL_done (by kernel_rfl) ?_
    go_wp2_with fail
    exact hK.out _ _ rfl ⟨_, _, ⟨_, _, _, rfl, tw_lose (tw_lose H7.out)⟩, (by have := HS2.out; have e : o.n.toNat = j := (by rw [HJ.out]; rfl); rw [e] at this; exact this.mono (by omega)), HNN'.out.symm⟩
  · have hno := hs.store_no rfl (i := o.n) (v := (v1, v2)) (by
      by_cases q : okV v1 v2 = true
      · by_cases q2 : slotIs x.m.lay o.n v1 = true
        · exact absurd ⟨q2, q⟩ hh
        · exact .inr (by simpa using q2)
      · exact .inl (by simpa using q))
    rw [hno] at HP
    have HP := Hid.mk HP
    have HNN' : Hid (N' = (Tw.N ⟨C, (x :: l).map (·.m), Q, many⟩)) := by
      rw [← hN]
      unfold Hid stepN Tw.N
      simp only [List.map_cons]
      rw [if_neg (by omega), if_neg (by omega), if_neg (by omega), if_neg (by omega), if_neg (by omega), if_neg (by omega), if_pos hki, hv, if_neg hh]
    clear hok hne hs hno hh hlm hki hN hv
    go_upto_region 52 with (fail)
    go_region_held3 (fun X => X.cell? ⟨t, 0, none⟩ = some (.pointer (some ⟨b, 0, none⟩)) ∧ X.cell? ⟨B0, 1, none⟩ = some (.int .i64 o.n) ∧ X.cell? ⟨B10, 0, none⟩ = some (.int .i64 v1) ∧ X.cell? ⟨B10, 1, none⟩ = some (.int .i64 v2)) (first | exact s9 | exact ⟨s0, s1, s2, s3⟩) (first | (go_at_call 21; refine HP.out.mono ?_; rintro e w6 ⟨h6, rfl⟩; have s9 := HX.out h6))
    have H6 := Hid.mk (tw_lose (tw_lose (ch_tw h6)))
    clear h6 s9 HP HX s0 s1 s2 s3
    go_wp2_with fail
    exact hK.out _ _ rfl ⟨_, _, ⟨_, _, _, rfl, H6.out⟩, HSIM.out.mono (by omega), HNN'.out.symm⟩
end
end Go.Proofs.Ytpfnnmcokbolhaa
/- The twin's do: Drop, Return. -/
namespace Go.Proofs.Ytpfnnmcokbolhaa
open Go.RowKit
set_option pp.deepTerms true
section
variable {w W : World} {F G : List Asr} {t b p k g c : Nat} {sz ca many : Int} {C : Ch} {lv pv : Value} {ml l : List Mv} {x : Mv} {Q : List (Int × Pf)} {A : Asr} {T : Tw} {Z : List (Md × Af)} {n : Nat} {o : Op25} {sv av : Value} {last : Bool} {B0 : Nat}
/-- the top model goes -/
theorem tw_dropM (h : Sep w (twL t b (.slice (some ⟨g, 0, none⟩) (l.length + 1 : Nat) c) pv (x :: l) Q many ++ G) W) : Sep w (twL t b (.slice (some ⟨g, 0, none⟩) l.length c) pv l Q many ++ (mrow x :: G)) (W.setCell ⟨t, 1, none⟩ (.slice (some ⟨g, 0, none⟩) l.length c)) := by
  have h1 : Sep w (twM (.slice (some ⟨g, 0, none⟩) (l.length + 1 : Nat) c) (x :: l) :: twB t b (.slice (some ⟨g, 0, none⟩) (l.length + 1 : Nat) c) pv many :: twQ pv Q :: mrow x :: (l.map mrow ++ G)) W := h.perm (List.Perm.swap _ _ _)
  have ho : W.ownsRow 0 44 7 (.slice (some ⟨g, 0, none⟩) (l.length + 1 : Nat) c) (l.length + 1) (mcells (x :: l)) := h1.owns (List.Mem.head _)
  have hc := row_cut ho (m := l.length) (by omega)
  have e : (mcells (x :: l)).take (l.length * 7) = mcells l := by rw [mcells_cons, List.take_left' (by rw [mcells_len])]
  rw [e] at hc
  have h2 : Sep w (twM (.slice (some ⟨g, 0, none⟩) l.length c) l :: twB t b (.slice (some ⟨g, 0, none⟩) (l.length + 1 : Nat) c) pv many :: twQ pv Q :: mrow x :: (l.map mrow ++ G)) W := h1.rerow (by intro b q; simpa [Value.ownBlock] using q) hc
  have h3 := h2.perm (List.Perm.swap _ _ _)
  have h4 := Sep.store h3 1 (.slice (some ⟨g, 0, none⟩) l.length c)
  exact h4.perm (List.Perm.cons _ (List.Perm.cons _ (List.Perm.cons _ List.perm_middle.symm)))
theorem tw_sub1 (h : Sep w (twL t b lv pv ml Q many ++ (A :: chP b p k sz ca C F)) W) : Sep w (twL t b lv pv ml Q many ++ chP b p k sz ca C F) W := Sep.sub h (List.Sublist.append (List.Sublist.refl _) (List.sublist_cons_self _ _))
set_option maxRecDepth 100000 in
set_option maxHeartbeats 4000000 in
theorem tdo_drop {n' : Nat} {N' : Nt} {K : Act → World → Prop} {lm B10 : Nat} {v1 v2 : Int} {u2 u6 u7 u8 u11 u12 u13 u14 u15 u16 u17 u18 u19 u20 u21 u22 u23 u24 u25 u26 u27 u28 u29 u30 u31 u32 u33 u34 u35 u36 u37 u38 u39 u40 u41 u42 u43 u44 u45 u46 u47 u48 u49 u50 u51 u52 u53 u54 u55 u56 u57 u58 u59 u60 u61 u62 u63 u64 u65 u66 u67 u68 u69 u70 u71 u72 u73 u74 u75 u76 u77 u78 u79 u80 u81 u82 u83 u84 u85 u86 u87 u88 u89 u90 u91 u92 u93 u94 u95 u96 u97 u98 u99 u100 u101 u102 u103 u104 u105 u106 u107 u108 u109 u110 u111 u112 u113 u114 u115 u116 u117 u118 u119 u120 u121 u122 u123 u124 u125 u126 u127 u128 u129 u130 u131 u132 u133 u134 u135 u136 u137 u138 u139 u140 u141 u142 u143 u144 u145 u146 u147 u148 u149 u150 u151 u152 u153 u154 u155 u156 u157 u158 u159 u160 u161 u162 u163 u164 u165 u166 u167 u168 u169 u170 u171 u172 u173 u174 u175 u176 u177 u178 u179 u180 u181 u182 u183 u184 u185 u186 u187 u188 u189 u190 u191 u192 u193 u194 u195 u196 u197 u198 u199 u200 u201 u202 u203 u204 u205 u206 u207 u208 u209 u210 u211 u212 u213 u214 u215 u216 u217 u218 u219 u220 u221 u222 u223 u224 u225 u226 u227 u228 u229 u230 u231 u232 u233 u234 u235 u236 u237 u238 u239 u240 u241 u242 u243 u244 u245 u246 u247 u248 u249 u250 u251 u252 u253 u254 u255 u256 u257 u258 u259 u260 u261 u262 u263 u264 u265 u266 u267 u268 u269 u270 u271 u272 u273 u274 u275 u276 u277 u278 u279 u280 u281 u282 u283 u284 u285 u286 u287 u288 u289 u290 u291 u292 u293 u294 u295 u296 u297 u298 u299 u300 u301 u302 u303 u304 u305 u306 u307 u308 u309 u310 u311 u312 u313 u314 u315 u316 u317 u318 u319 u320 u321 u322 u323 u324 u325 u326 u327 u328 u329 u330 u331 u332 u333 u334 u335 u336 u337 u338 : Value} (H0 : Hid (Sep w (twL t b (.slice (some ⟨g, 0, none⟩) (l.length + 1 : Nat) c) pv (x :: l) Q many ++ chP b p k sz ca C (bx B10 (.cells #[.int .i64 v1, .int .i64 v2] 34) :: bx B0 (.cells #[.int .i64 o.kind, .int .i64 o.n, sv, .int .i64 o.l.args, .int .i64 o.l.res, .int .i64 o.l.height, av, .int .i64 o.v.1, .int .i64 o.v.2, .bool last] 36) :: F)) W)) (hs : Sim sz ca n ⟨C, (x :: l).map (·.m), Q, many⟩ Z) (hn : n ≤ 280) (hn' : n ≤ n') (hlm : l.length = lm) (hv : o.val = (v1, v2)) (hN : stepN (Tw.N ⟨C, (x :: l).map (·.m), Q, many⟩) o = N') (hK : Hid (∀ (tm : Array Value) (W' : World), tm.size = 339 → TwR w W' t b p k sz ca n' N' F → K ⟨tm, []⟩ W')) (hki : o.kind = 3) :
    Code.wp Try.prog (pieceOf (Try.f8.body.getD .skip) [1, 1, 1, 1, 1, 1, 0, 1, 0, 1, 1, 1, 1, 1, 1, 1, 0]) (Exit.inBlock 2 (Exit.then K (bodyPost Try.prog Try.f8 (fun e w' => TwR w w' t b p k sz ca n' N' F ∧ e = .returned (.bool true))))) ⟨#[.pointer (some ⟨t, 0, none⟩), (.agg #[.int .i64 o.kind, .int .i64 o.n, sv, .int .i64 o.l.args, .int .i64 o.l.res, .int .i64 o.l.height, av, .int .i64 o.v.1, .int .i64 o.v.2, .bool last]), u2, .pointer (some ⟨B0, 0, none⟩), .bool false, .int .i64 ((lm : Int) + 1), u6, u7, u8, .pointer (some ⟨g, lm * 7, none⟩), .pointer (some ⟨B10, 0, none⟩), u11, u12, u13, u14, u15, u16, u17, u18, u19, u20, u21, u22, u23, u24, u25, u26, u27, u28, u29, u30, u31, u32, u33, u34, u35, u36, u37, u38, u39, u40, u41, u42, u43, u44, u45, u46, u47, u48, u49, u50, u51, u52, u53, u54, u55, u56, u57, u58, u59, u60, u61, u62, u63, u64, u65, u66, u67, u68, u69, u70, u71, u72, u73, u74, u75, u76, u77, u78, u79, u80, u81, u82, u83, u84, u85, u86, u87, u88, u89, u90, u91, u92, u93, u94, u95, u96, u97, u98, u99, u100, u101, u102, u103, u104, u105, u106, u107, u108, u109, u110, u111, u112, u113, u114, u115, u116, u117, u118, u119, u120, u121, u122, u123, u124, u125, u126, u127, u128, u129, u130, u131, u132, u133, u134, u135, u136, u137, u138, u139, u140, u141, u142, u143, u144, u145, u146, u147, u148, u149, u150, u151, u152, u153, u154, u155, u156, u157, u158, u159, u160, u161, u162, u163, u164, u165, u166, u167, u168, u169, u170, u171, u172, u173, u174, u175, u176, u177, u178, u179, u180, u181, u182, u183, u184, u185, u186, u187, u188, u189, u190, u191, u192, u193, u194, u195, u196, u197, u198, u199, u200, u201, u202, u203, u204, u205, u206, u207, u208, u209, u210, u211, u212, u213, u214, u215, u216, u217, u218, u219, u220, u221, u222, u223, u224, u225, u226, u227, u228, u229, u230, u231, u232, u233, u234, u235, u236, u237, u238, u239, u240, u241, u242, u243, u244, u245, u246, u247, u248, u249, u250, u251, u252, u253, u254, u255, u256, u257, u258, u259, u260, u261, u262, u263, u264, u265, u266, u267, u268, u269, u270, u271, u272, u273, u274, u275, u276, u277, u278, u279, u280, u281, u282, u283, u284, u285, u286, u287, u288, u289, u290, u291, u292, u293, u294, u295, u296, u297, u298, u299, u300, u301, u302, u303, u304, u305, u306, u307, u308, u309, u310, u311, u312, u313, u314, u315, u316, u317, u318, u319, u320, u321, u322, u323, u324, u325, u326, u327, u328, u329, u330, u331, u332, u333, u334, u335, u336, u337, u338], []⟩ W := by
  conv => arg 2; whnf
  have hok := hs.ok (by omega)
  obtain ⟨-, Z', hs2⟩ := hs.drop rfl
  have HP := Hid.mk (cdrop_any (tw_ch H0.out) hok)
  have hc : lm + 1 ≤ c := by
    have := (tw_topAt H0.out).1
    omega
  have k0 := (tw_k H0.out).1
  have HS2 := Hid.mk hs2
  have HLM := Hid.mk hlm
  have hll : lm ≤ 280 := by
    have := hs.len.1
    simp at this
    omega
  have HNN' : Hid (N' = Tw.N ⟨(dropC ca C).2, l.map (·.m), Q, many⟩) := by
    rw [← hN]
    unfold Hid stepN Tw.N
    simp only [List.map_cons]
    rw [if_neg (by omega), if_neg (by omega), if_neg (by omega), if_pos hki]
  have w1 : IntKind.i64.wrap ((lm : Int) + 1 - 1) = (lm : Int) := by rw [IntKind.wrap_i64]; omega
  have w3 : IntKind.i64.wrap (lm : Int) = (lm : Int) := by rw [IntKind.wrap_i64]; omega
  have hk4 : (lm : Int) ≤ (c : Int) := by omega
  have hk5 : lm ≤ c := by omega
  clear hs hs2 hok hlm hki hN hv
  go_wp2_with fail
  refine HP.out.mono ?_
  rintro e w6 ⟨h6, rfl⟩
  have h7 := ch_tw h6
  obtain ⟨-, k1, -, -, kz⟩ := tw_k h7
  rw [HLM.out] at k1
  have kz1 := kz 1
  have h8 := tw_lose (tw_lose (tw_sub1 (tw_dropM h7)))
  rw [HLM.out] at h8
  have H8 := Hid.mk h8
  clear h6 h7 h8 HP kz k0
  go_wp2_with fail
  exact hK.out _ _ rfl ⟨_, _, ⟨_, _, _, rfl, H8.out⟩, HS2.out.mono (by omega), HNN'.out.symm⟩
end
end Go.Proofs.Ytpfnnmcokbolhaa
