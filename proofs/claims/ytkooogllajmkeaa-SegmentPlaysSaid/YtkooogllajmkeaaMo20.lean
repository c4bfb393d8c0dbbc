/- Parts Hn Ho Hp, put together. -/
import Derived.Test.YtkooogllajmkeaaMo16
import Derived.Test.YtkooogllajmkeaaMo19
/- The great test of a play's 'same' (24): nothing is live. -/
namespace Go.Proofs.Ytkooogllajmkeaa
open Go.RowKit
set_option pp.deepTerms true
attribute [local go_sem ↓] Go.wp_at_zero Go.wp_at_succ
set_option maxRecDepth 100000 in
set_option maxHeartbeats 4000000 in
theorem same5_0 {w Y : World} {x p pr q B7 : Nat} {ao : Option Addr} {S : Sp} {L : Lk} {l : List Asr} {al ak ak2 ar : Option Addr} {cl m ck c ck2 cr : Nat} {Q : Exit → Act → World → Prop} {u1 u2 u10 u11 u12 u13 u14 u15 u16 u17 u18 u19 u20 u21 u22 u23 u24 u25 u26 u27 u28 u29 u30 u31 u32 u33 u34 u35 u36 u37 u38 u39 u40 u41 u42 u43 u44 u45 u46 u47 u48 u49 u50 u51 u52 u53 u54 u55 u56 u57 u58 u59 u60 u61 u62 u63 u64 u65 u66 u67 u68 u69 u70 u71 u72 u73 u74 u75 u76 u77 u78 u79 u80 u81 u82 u83 u84 u85 u86 u87 u88 u89 u90 u91 u92 u93 u94 u95 u96 u97 u98 u99 u100 u101 u102 u103 u104 u105 u106 u107 u108 u109 u110 u111 u112 u113 u114 u115 u116 u117 u118 u119 u120 u121 u122 u123 u124 u125 u126 u127 u128 u129 u130 u131 u132 u133 u134 u135 u136 u137 u138 u139 u140 u141 u142 u143 u144 u145 u146 u147 u148 u149 u150 u151 : Value}
    (HLE : Hid (L.live.length ≤ 4194304 ∧ L.kept.length ≤ 4194304 ∧ (tells S.regs).length ≤ 4194304)) (HW : Hid (Wok L.live ∧ Wok L.kept)) (H5 : Hid (Sep w l Y)) (HM : Hid (spA p S ∈ l))
    (HL : Hid (Rd Y (.slice al 0 cl) L.live)) (HRL : Hid (Rd Y (.slice ao 0 c) L.live)) (HKK : Hid (Rd Y (.slice ak m ck) L.kept)) (HRK : Hid (Rd Y (.slice ak2 m ck2) L.kept)) (HRR : Hid (Rd Y (.slice ar (tells S.regs).length cr) (tells S.regs)))
    (k3 : Y.cell? ⟨x, 3, none⟩ = some (.pointer (some ⟨q, 0, none⟩))) (c3 : Y.cell? ⟨q, 3, none⟩ = some (.slice ao 0 c)) (c4 : Y.cell? ⟨q, 4, none⟩ = some (.slice ak2 m ck2)) (k0 : Y.cell? ⟨x, 0, none⟩ = some (.pointer (some ⟨p, 0, none⟩))) (k2 : Y.cell? ⟨x, 2, none⟩ = some (.pointer (some ⟨pr, 0, none⟩))) (r0 : Y.cell? ⟨pr, 0, none⟩ = some (.slice ar (tells S.regs).length cr)) (b0 : Y.cell? ⟨B7, 0, none⟩ = some (.int .i64 0)) (b1 : Y.cell? ⟨B7, 1, none⟩ = some (.int .i64 0))
    (hP : ∀ c a (d : Nat) v w, Q (.panic c) (a.put (some d) v) w → Q (.panic c) a w)
    (hQ : ∀ (c10 c47 c48 c49 c50 c51 c52 c53 c54 c55 c56 c57 c58 c59 c60 c61 c62 c63 c64 c65 c66 c67 c68 c69 c70 c71 c72 c73 c74 c75 c76 c77 c78 c79 c80 c81 c82 c83 c84 c85 c86 c87 c88 c89 c90 c91 c92 c93 c94 c95 c96 c97 c98 c99 c100 c101 c102 c103 c104 c105 c106 c107 c108 c109 c110 c111 c112 c113 c114 c115 c116 c117 c118 c119 c120 c121 c122 c123 c124 c125 c126 c127 c128 c129 c130 : Value) (W' : World), c10 = .bool true → Below Y.heap.size Y W' → Q .normal ⟨#[.pointer (some ⟨x, 0, none⟩), u1, u2, .slice al 0 cl, .slice ak m ck, .int .i64 (wsum L.live), .int .i64 (wsum L.kept), .pointer (some ⟨B7, 0, none⟩), .bool false, .int .i64 0, c10, u11, u12, u13, u14, u15, u16, u17, u18, u19, u20, u21, u22, u23, u24, u25, u26, u27, u28, u29, u30, u31, u32, u33, u34, u35, u36, u37, u38, u39, u40, u41, u42, u43, u44, u45, u46, c47, c48, c49, c50, c51, c52, c53, c54, c55, c56, c57, c58, c59, c60, c61, c62, c63, c64, c65, c66, c67, c68, c69, c70, c71, c72, c73, c74, c75, c76, c77, c78, c79, c80, c81, c82, c83, c84, c85, c86, c87, c88, c89, c90, c91, c92, c93, c94, c95, c96, c97, c98, c99, c100, c101, c102, c103, c104, c105, c106, c107, c108, c109, c110, c111, c112, c113, c114, c115, c116, c117, c118, c119, c120, c121, c122, c123, c124, c125, c126, c127, c128, c129, c130, u131, u132, u133, u134, u135, u136, u137, u138, u139, u140, u141, u142, u143, u144, u145, u146, u147, u148, u149, u150, u151], []⟩ W') :
    Code.wp Try.prog (pieceOf (Try.f37.body.getD .skip) [1, 1, 1, 1, 1, 0]) Q ⟨#[.pointer (some ⟨x, 0, none⟩), u1, u2, .slice al 0 cl, .slice ak m ck, .int .i64 (wsum L.live), .int .i64 (wsum L.kept), .pointer (some ⟨B7, 0, none⟩), .bool false, .int .i64 0, u10, u11, u12, u13, u14, u15, u16, u17, u18, u19, u20, u21, u22, u23, u24, u25, u26, u27, u28, u29, u30, u31, u32, u33, u34, u35, u36, u37, u38, u39, u40, u41, u42, u43, u44, u45, u46, u47, u48, u49, u50, u51, u52, u53, u54, u55, u56, u57, u58, u59, u60, u61, u62, u63, u64, u65, u66, u67, u68, u69, u70, u71, u72, u73, u74, u75, u76, u77, u78, u79, u80, u81, u82, u83, u84, u85, u86, u87, u88, u89, u90, u91, u92, u93, u94, u95, u96, u97, u98, u99, u100, u101, u102, u103, u104, u105, u106, u107, u108, u109, u110, u111, u112, u113, u114, u115, u116, u117, u118, u119, u120, u121, u122, u123, u124, u125, u126, u127, u128, u129, u130, u131, u132, u133, u134, u135, u136, u137, u138, u139, u140, u141, u142, u143, u144, u145, u146, u147, u148, u149, u150, u151], []⟩ Y := by
  have HQ := Hid.mk hQ
  clear hQ
  have hdl : decide (L.live = L.live) = true := decide_eq_true rfl
  have hdk : decide (L.kept = L.kept) = true := decide_eq_true rfl
  have hdr : decide (tells S.regs = tells S.regs) = true := decide_eq_true rfl
  have hb0 : Below Y.heap.size Y Y.drew := (Below.refl _ _).drew
  have zl : (wsum L.live == wsum L.live) = true := by simp
  have zk : (wsum L.kept == wsum L.kept) = true := by simp
  have zn : ((0 : Int) == 0) = true := rfl
  have zg : decide ((0 : Int) > 0) = false := rfl
  conv => arg 2; whnf
  dsimp only [List.append]
  refine wp_region_held_drew (S := (fun W' => W'.cell? ⟨x, 3, none⟩ = some (.pointer (some ⟨q, 0, none⟩)) ∧ W'.cell? ⟨q, 3, none⟩ = some (.slice ao 0 c) ∧ W'.cell? ⟨q, 4, none⟩ = some (.slice ak2 m ck2) ∧ W'.cell? ⟨x, 0, none⟩ = some (.pointer (some ⟨p, 0, none⟩)) ∧ W'.cell? ⟨x, 2, none⟩ = some (.pointer (some ⟨pr, 0, none⟩)) ∧ W'.cell? ⟨pr, 0, none⟩ = some (.slice ar (tells S.regs).length cr) ∧ W'.cell? ⟨B7, 0, none⟩ = some (.int .i64 0) ∧ W'.cell? ⟨B7, 1, none⟩ = some (.int .i64 0))) (by kernel_rfl) ⟨k3, c3, c4, k0, k2, r0, b0, b1⟩ (fun hHeld => ?_)
  refine wpAnyH_take (i := 0) (v := ?_) rfl (by kernel_rfl) (by kernel_rfl) (by kernel_rfl) (fun c a w h => hP c a _ _ w h) (Or.inl ⟨by rfl, ?_⟩) (by assumption) ?_
  rotate_left
  · (intro w hSw; (try dsimp only at hSw); go_simp <;> with_reducible rfl)
  (try simp only [Act.put, List.getElem_toArray, List.getElem_cons_zero, List.getElem_cons_succ, List.setIfInBounds_toArray, List.set_cons_zero, List.set_cons_succ])
  refine wpAnyH_take (i := 1) (v := ?_) rfl (by kernel_rfl) (by kernel_rfl) (by kernel_rfl) (fun c a w h => hP c a _ _ w h) (Or.inl ⟨by rfl, ?_⟩) (by assumption) ?_
  rotate_left
  · (intro w hSw; (try dsimp only at hSw); go_simp <;> with_reducible rfl)
  (try simp only [Act.put, List.getElem_toArray, List.getElem_cons_zero, List.getElem_cons_succ, List.setIfInBounds_toArray, List.set_cons_zero, List.set_cons_succ])
  refine wpAnyH_take (i := 2) (v := ?_) rfl (by kernel_rfl) (by kernel_rfl) (by kernel_rfl) (fun c a w h => hP c a _ _ w h) (Or.inl ⟨by rfl, ?_⟩) (by assumption) ?_
  rotate_left
  · (intro w hSw; (try dsimp only at hSw); go_simp <;> with_reducible rfl)
  (try simp only [Act.put, List.getElem_toArray, List.getElem_cons_zero, List.getElem_cons_succ, List.setIfInBounds_toArray, List.set_cons_zero, List.set_cons_succ])
  refine wpAnyH_take (i := 3) (v := ?_) rfl (by kernel_rfl) (by kernel_rfl) (by kernel_rfl) (fun c a w h => hP c a _ _ w h) (Or.inl ⟨by rfl, ?_⟩) (by assumption) ?_
  rotate_left
  · (intro w hSw; (try dsimp only at hSw); go_simp <;> with_reducible rfl)
  (try simp only [Act.put, List.getElem_toArray, List.getElem_cons_zero, List.getElem_cons_succ, List.setIfInBounds_toArray, List.set_cons_zero, List.set_cons_succ])
  refine wpAnyH_take (i := 4) (v := ?_) rfl (by kernel_rfl) (by kernel_rfl) (by kernel_rfl) (fun c a w h => hP c a _ _ w h) (Or.inl ⟨by rfl, ?_⟩) (by assumption) ?_
  rotate_left
  · (intro w hSw; (try dsimp only at hSw); go_simp <;> with_reducible rfl)
  (try simp only [Act.put, List.getElem_toArray, List.getElem_cons_zero, List.getElem_cons_succ, List.setIfInBounds_toArray, List.set_cons_zero, List.set_cons_succ])
  refine wpAnyH_take (i := 5) (v := ?_) rfl (by kernel_rfl) (by kernel_rfl) (by kernel_rfl) (fun c a w h => hP c a _ _ w h) (Or.inl ⟨by rfl, ?_⟩) (by assumption) ?_
  rotate_left
  · (intro w hSw; (try dsimp only at hSw); go_simp <;> with_reducible rfl)
  (try simp only [Act.put, List.getElem_toArray, List.getElem_cons_zero, List.getElem_cons_succ, List.setIfInBounds_toArray, List.set_cons_zero, List.set_cons_succ])
  refine wpAnyH_take (i := 6) (v := ?_) rfl (by kernel_rfl) (by kernel_rfl) (by kernel_rfl) (fun c a w h => hP c a _ _ w h) (Or.inl ⟨by rfl, ?_⟩) (by assumption) ?_
  rotate_left
  · (intro w hSw; (try dsimp only at hSw); go_simp <;> with_reducible rfl)
  (try simp only [Act.put, List.getElem_toArray, List.getElem_cons_zero, List.getElem_cons_succ, List.setIfInBounds_toArray, List.set_cons_zero, List.set_cons_succ])
  refine wpAnyH_take (i := 7) (v := ?_) rfl (by kernel_rfl) (by kernel_rfl) (by kernel_rfl) (fun c a w h => hP c a _ _ w h) (Or.inl ⟨by rfl, ?_⟩) (by assumption) ?_
  rotate_left
  · (intro w hSw; (try dsimp only at hSw); go_simp <;> with_reducible rfl)
  (try simp only [Act.put, List.getElem_toArray, List.getElem_cons_zero, List.getElem_cons_succ, List.setIfInBounds_toArray, List.set_cons_zero, List.set_cons_succ])
  refine wpAnyH_ready (rs := [8]) (by kernel_rfl) (by simp) ?_
  refine AllReadyH.cons rfl (fun K hK => ?_) AllReadyH.nil
  go_simp
  refine (same_Same21 (HL.out.below hb0) (HRL.out.below hb0) HLE.out.1).mono ?_
  rintro e wa ⟨hba, rfl⟩
  rw [decide_eq_true (rfl : L.live = L.live)]
  have m1 := hb0.trans (hba.mono hb0.size)
  refine hK.out _ _ ⟨keep_be m1 k3, keep_be m1 c3, keep_be m1 c4, keep_be m1 k0, keep_be m1 k2, keep_be m1 r0, keep_be m1 b0, keep_be m1 b1⟩ (fun hHeld => ?_)
  clear hK K
  (try simp only [Act.put, List.getElem_toArray, List.getElem_cons_zero, List.getElem_cons_succ, List.setIfInBounds_toArray, List.set_cons_zero, List.set_cons_succ])
  refine wpAnyH_take (i := 9) (v := ?_) rfl (by kernel_rfl) (by kernel_rfl) (by kernel_rfl) (fun c a w h => hP c a _ _ w h) (Or.inl ⟨by rfl, ?_⟩) (by assumption) ?_
  rotate_left
  · (intro w hSw; (try dsimp only at hSw); go_simp <;> with_reducible rfl)
  (try simp only [Act.put, List.getElem_toArray, List.getElem_cons_zero, List.getElem_cons_succ, List.setIfInBounds_toArray, List.set_cons_zero, List.set_cons_succ])
  refine wpAnyH_take (i := 10) (v := ?_) rfl (by kernel_rfl) (by kernel_rfl) (by kernel_rfl) (fun c a w h => hP c a _ _ w h) (Or.inl ⟨by rfl, ?_⟩) (by assumption) ?_
  rotate_left
  · (intro w hSw; (try dsimp only at hSw); go_simp <;> with_reducible rfl)
  (try simp only [Act.put, List.getElem_toArray, List.getElem_cons_zero, List.getElem_cons_succ, List.setIfInBounds_toArray, List.set_cons_zero, List.set_cons_succ])
  refine wpAnyH_take (i := 11) (v := ?_) rfl (by kernel_rfl) (by kernel_rfl) (by kernel_rfl) (fun c a w h => hP c a _ _ w h) (Or.inl ⟨by rfl, ?_⟩) (by assumption) ?_
  rotate_left
  · (intro w hSw; (try dsimp only at hSw); go_simp <;> with_reducible rfl)
  (try simp only [Act.put, List.getElem_toArray, List.getElem_cons_zero, List.getElem_cons_succ, List.setIfInBounds_toArray, List.set_cons_zero, List.set_cons_succ])
  refine wpAnyH_take (i := 12) (v := ?_) rfl (by kernel_rfl) (by kernel_rfl) (by kernel_rfl) (fun c a w h => hP c a _ _ w h) (Or.inl ⟨by rfl, ?_⟩) (by assumption) ?_
  rotate_left
  · (intro w hSw; (try dsimp only at hSw); go_simp <;> with_reducible rfl)
  (try simp only [Act.put, List.getElem_toArray, List.getElem_cons_zero, List.getElem_cons_succ, List.setIfInBounds_toArray, List.set_cons_zero, List.set_cons_succ])
  refine wpAnyH_take (i := 13) (v := ?_) rfl (by kernel_rfl) (by kernel_rfl) (by kernel_rfl) (fun c a w h => hP c a _ _ w h) (Or.inl ⟨by rfl, ?_⟩) (by assumption) ?_
  rotate_left
  · (intro w hSw; (try dsimp only at hSw); go_simp <;> with_reducible rfl)
  (try simp only [Act.put, List.getElem_toArray, List.getElem_cons_zero, List.getElem_cons_succ, List.setIfInBounds_toArray, List.set_cons_zero, List.set_cons_succ])
  refine wpAnyH_take (i := 14) (v := ?_) rfl (by kernel_rfl) (by kernel_rfl) (by kernel_rfl) (fun c a w h => hP c a _ _ w h) (Or.inl ⟨by rfl, ?_⟩) (by assumption) ?_
  rotate_left
  · (intro w hSw; (try dsimp only at hSw); go_simp <;> with_reducible rfl)
  (try simp only [Act.put, List.getElem_toArray, List.getElem_cons_zero, List.getElem_cons_succ, List.setIfInBounds_toArray, List.set_cons_zero, List.set_cons_succ])
  refine wpAnyH_take (i := 15) (v := ?_) rfl (by kernel_rfl) (by kernel_rfl) (by kernel_rfl) (fun c a w h => hP c a _ _ w h) (Or.inl ⟨by rfl, ?_⟩) (by assumption) ?_
  rotate_left
  · (intro w hSw; (try dsimp only at hSw); go_simp <;> with_reducible rfl)
  (try simp only [Act.put, List.getElem_toArray, List.getElem_cons_zero, List.getElem_cons_succ, List.setIfInBounds_toArray, List.set_cons_zero, List.set_cons_succ])
  refine wpAnyH_take (i := 16) (v := ?_) rfl (by kernel_rfl) (by kernel_rfl) (by kernel_rfl) (fun c a w h => hP c a _ _ w h) (Or.inl ⟨by rfl, ?_⟩) (by assumption) ?_
  rotate_left
  · (intro w hSw; (try dsimp only at hSw); go_simp <;> with_reducible rfl)
  (try simp only [Act.put, List.getElem_toArray, List.getElem_cons_zero, List.getElem_cons_succ, List.setIfInBounds_toArray, List.set_cons_zero, List.set_cons_succ])
  refine wpAnyH_take (i := 17) (v := ?_) rfl (by kernel_rfl) (by kernel_rfl) (by kernel_rfl) (fun c a w h => hP c a _ _ w h) (Or.inl ⟨by rfl, ?_⟩) (by assumption) ?_
  rotate_left
  · (intro w hSw; (try dsimp only at hSw); go_simp <;> with_reducible rfl)
  (try simp only [Act.put, List.getElem_toArray, List.getElem_cons_zero, List.getElem_cons_succ, List.setIfInBounds_toArray, List.set_cons_zero, List.set_cons_succ])
  refine wpAnyH_ready (rs := [18]) (by kernel_rfl) (by simp) ?_
  refine AllReadyH.cons rfl (fun K hK => ?_) AllReadyH.nil
  go_simp
  refine (same_Same21 (HKK.out.below m1) (HRK.out.below m1) HLE.out.2.1).mono ?_
  rintro e wb ⟨hbb, rfl⟩
  rw [decide_eq_true (rfl : L.kept = L.kept)]
  have m2 := m1.trans (hbb.mono m1.size)
  refine hK.out _ _ ⟨keep_be m2 k3, keep_be m2 c3, keep_be m2 c4, keep_be m2 k0, keep_be m2 k2, keep_be m2 r0, keep_be m2 b0, keep_be m2 b1⟩ (fun hHeld => ?_)
  clear hK K
  (try simp only [Act.put, List.getElem_toArray, List.getElem_cons_zero, List.getElem_cons_succ, List.setIfInBounds_toArray, List.set_cons_zero, List.set_cons_succ])
  refine wpAnyH_take (i := 19) (v := ?_) rfl (by kernel_rfl) (by kernel_rfl) (by kernel_rfl) (fun c a w h => hP c a _ _ w h) (Or.inl ⟨by rfl, ?_⟩) (by assumption) ?_
  rotate_left
  · (intro w hSw; (try dsimp only at hSw); go_simp <;> with_reducible rfl)
  (try simp only [Act.put, List.getElem_toArray, List.getElem_cons_zero, List.getElem_cons_succ, List.setIfInBounds_toArray, List.set_cons_zero, List.set_cons_succ])
  refine wpAnyH_take (i := 20) (v := ?_) rfl (by kernel_rfl) (by kernel_rfl) (by kernel_rfl) (fun c a w h => hP c a _ _ w h) (Or.inl ⟨by rfl, ?_⟩) (by assumption) ?_
  rotate_left
  · (intro w hSw; (try dsimp only at hSw); go_simp <;> with_reducible rfl)
  (try simp only [Act.put, List.getElem_toArray, List.getElem_cons_zero, List.getElem_cons_succ, List.setIfInBounds_toArray, List.set_cons_zero, List.set_cons_succ])
  refine wpAnyH_take (i := 21) (v := ?_) rfl (by kernel_rfl) (by kernel_rfl) (by kernel_rfl) (fun c a w h => hP c a _ _ w h) (Or.inl ⟨by rfl, ?_⟩) (by assumption) ?_
  rotate_left
  · (intro w hSw; (try dsimp only at hSw); go_simp <;> with_reducible rfl)
  (try simp only [Act.put, List.getElem_toArray, List.getElem_cons_zero, List.getElem_cons_succ, List.setIfInBounds_toArray, List.set_cons_zero, List.set_cons_succ])
  refine wpAnyH_take (i := 22) (v := ?_) rfl (by kernel_rfl) (by kernel_rfl) (by kernel_rfl) (fun c a w h => hP c a _ _ w h) (Or.inl ⟨by rfl, ?_⟩) (by assumption) ?_
  rotate_left
  · (intro w hSw; (try dsimp only at hSw); go_simp <;> with_reducible rfl)
  (try simp only [Act.put, List.getElem_toArray, List.getElem_cons_zero, List.getElem_cons_succ, List.setIfInBounds_toArray, List.set_cons_zero, List.set_cons_succ])
  refine wpAnyH_take (i := 23) (v := ?_) rfl (by kernel_rfl) (by kernel_rfl) (by kernel_rfl) (fun c a w h => hP c a _ _ w h) (Or.inl ⟨by rfl, ?_⟩) (by assumption) ?_
  rotate_left
  · (intro w hSw; (try dsimp only at hSw); go_simp <;> with_reducible rfl)
  (try simp only [Act.put, List.getElem_toArray, List.getElem_cons_zero, List.getElem_cons_succ, List.setIfInBounds_toArray, List.set_cons_zero, List.set_cons_succ])
  refine wpAnyH_take (i := 24) (v := ?_) rfl (by kernel_rfl) (by kernel_rfl) (by kernel_rfl) (fun c a w h => hP c a _ _ w h) (Or.inl ⟨by rfl, ?_⟩) (by assumption) ?_
  rotate_left
  · (intro w hSw; (try dsimp only at hSw); go_simp <;> with_reducible rfl)
  (try simp only [Act.put, List.getElem_toArray, List.getElem_cons_zero, List.getElem_cons_succ, List.setIfInBounds_toArray, List.set_cons_zero, List.set_cons_succ])
  refine wpAnyH_take (i := 25) (v := ?_) rfl (by kernel_rfl) (by kernel_rfl) (by kernel_rfl) (fun c a w h => hP c a _ _ w h) (Or.inl ⟨by rfl, ?_⟩) (by assumption) ?_
  rotate_left
  · (intro w hSw; (try dsimp only at hSw); go_simp <;> with_reducible rfl)
  (try simp only [Act.put, List.getElem_toArray, List.getElem_cons_zero, List.getElem_cons_succ, List.setIfInBounds_toArray, List.set_cons_zero, List.set_cons_succ])
  refine wpAnyH_take (i := 26) (v := ?_) rfl (by kernel_rfl) (by kernel_rfl) (by kernel_rfl) (fun c a w h => hP c a _ _ w h) (Or.inl ⟨by rfl, ?_⟩) (by assumption) ?_
  rotate_left
  · (intro w hSw; (try dsimp only at hSw); go_simp <;> with_reducible rfl)
  (try simp only [Act.put, List.getElem_toArray, List.getElem_cons_zero, List.getElem_cons_succ, List.setIfInBounds_toArray, List.set_cons_zero, List.set_cons_succ])
  refine wpAnyH_take (i := 27) (v := ?_) rfl (by kernel_rfl) (by kernel_rfl) (by kernel_rfl) (fun c a w h => hP c a _ _ w h) (Or.inl ⟨by rfl, ?_⟩) (by assumption) ?_
  rotate_left
  · (intro w hSw; (try dsimp only at hSw); go_simp <;> with_reducible rfl)
  (try simp only [Act.put, List.getElem_toArray, List.getElem_cons_zero, List.getElem_cons_succ, List.setIfInBounds_toArray, List.set_cons_zero, List.set_cons_succ])
  refine wpAnyH_take (i := 28) (v := ?_) rfl (by kernel_rfl) (by kernel_rfl) (by kernel_rfl) (fun c a w h => hP c a _ _ w h) (Or.inl ⟨by rfl, ?_⟩) (by assumption) ?_
  rotate_left
  · (intro w hSw; (try dsimp only at hSw); go_simp <;> with_reducible rfl)
  (try simp only [Act.put, List.getElem_toArray, List.getElem_cons_zero, List.getElem_cons_succ, List.setIfInBounds_toArray, List.set_cons_zero, List.set_cons_succ])
  refine wpAnyH_ready (rs := [29]) (by kernel_rfl) (by simp) ?_
  refine AllReadyH.cons rfl (fun K hK => ?_) AllReadyH.nil
  go_simp
  refine (qwords_any (HRL.out.below m2) HW.out.1).mono ?_
  rintro e wb ⟨rfl, rfl⟩
  refine hK.out _ _ ⟨keep_be m2 k3, keep_be m2 c3, keep_be m2 c4, keep_be m2 k0, keep_be m2 k2, keep_be m2 r0, keep_be m2 b0, keep_be m2 b1⟩ (fun hHeld => ?_)
  clear hK K
  (try simp only [Act.put, List.getElem_toArray, List.getElem_cons_zero, List.getElem_cons_succ, List.setIfInBounds_toArray, List.set_cons_zero, List.set_cons_succ])
  refine wpAnyH_take (i := 30) (v := ?_) rfl (by kernel_rfl) (by kernel_rfl) (by kernel_rfl) (fun c a w h => hP c a _ _ w h) (Or.inl ⟨by rfl, ?_⟩) (by assumption) ?_
  rotate_left
  · (intro w hSw; (try dsimp only at hSw); go_simp <;> with_reducible rfl)
  (try simp only [Act.put, List.getElem_toArray, List.getElem_cons_zero, List.getElem_cons_succ, List.setIfInBounds_toArray, List.set_cons_zero, List.set_cons_succ])
  refine wpAnyH_take (i := 31) (v := ?_) rfl (by kernel_rfl) (by kernel_rfl) (by kernel_rfl) (fun c a w h => hP c a _ _ w h) (Or.inl ⟨by rfl, ?_⟩) (by assumption) ?_
  rotate_left
  · (intro w hSw; (try dsimp only at hSw); go_simp <;> with_reducible rfl)
  (try simp only [Act.put, List.getElem_toArray, List.getElem_cons_zero, List.getElem_cons_succ, List.setIfInBounds_toArray, List.set_cons_zero, List.set_cons_succ])
  refine wpAnyH_take (i := 32) (v := ?_) rfl (by kernel_rfl) (by kernel_rfl) (by kernel_rfl) (fun c a w h => hP c a _ _ w h) (Or.inl ⟨by rfl, ?_⟩) (by assumption) ?_
  rotate_left
  · (intro w hSw; (try dsimp only at hSw); go_simp <;> with_reducible rfl)
  (try simp only [Act.put, List.getElem_toArray, List.getElem_cons_zero, List.getElem_cons_succ, List.setIfInBounds_toArray, List.set_cons_zero, List.set_cons_succ])
  refine wpAnyH_take (i := 33) (v := ?_) rfl (by kernel_rfl) (by kernel_rfl) (by kernel_rfl) (fun c a w h => hP c a _ _ w h) (Or.inl ⟨by rfl, ?_⟩) (by assumption) ?_
  rotate_left
  · (intro w hSw; (try dsimp only at hSw); go_simp <;> with_reducible rfl)
  (try simp only [Act.put, List.getElem_toArray, List.getElem_cons_zero, List.getElem_cons_succ, List.setIfInBounds_toArray, List.set_cons_zero, List.set_cons_succ])
  refine wpAnyH_take (i := 34) (v := ?_) rfl (by kernel_rfl) (by kernel_rfl) (by kernel_rfl) (fun c a w h => hP c a _ _ w h) (Or.inl ⟨by rfl, ?_⟩) (by assumption) ?_
  rotate_left
  · (intro w hSw; (try dsimp only at hSw); go_simp <;> with_reducible rfl)
  (try simp only [Act.put, List.getElem_toArray, List.getElem_cons_zero, List.getElem_cons_succ, List.setIfInBounds_toArray, List.set_cons_zero, List.set_cons_succ])
  refine wpAnyH_take (i := 35) (v := ?_) rfl (by kernel_rfl) (by kernel_rfl) (by kernel_rfl) (fun c a w h => hP c a _ _ w h) (Or.inl ⟨by rfl, ?_⟩) (by assumption) ?_
  rotate_left
  · (intro w hSw; (try dsimp only at hSw); go_simp <;> with_reducible rfl)
  (try simp only [Act.put, List.getElem_toArray, List.getElem_cons_zero, List.getElem_cons_succ, List.setIfInBounds_toArray, List.set_cons_zero, List.set_cons_succ])
  refine wpAnyH_take (i := 36) (v := ?_) rfl (by kernel_rfl) (by kernel_rfl) (by kernel_rfl) (fun c a w h => hP c a _ _ w h) (Or.inl ⟨by rfl, ?_⟩) (by assumption) ?_
  rotate_left
  · (intro w hSw; (try dsimp only at hSw); go_simp <;> with_reducible rfl)
  (try simp only [Act.put, List.getElem_toArray, List.getElem_cons_zero, List.getElem_cons_succ, List.setIfInBounds_toArray, List.set_cons_zero, List.set_cons_succ])
  refine wpAnyH_take (i := 37) (v := ?_) rfl (by kernel_rfl) (by kernel_rfl) (by kernel_rfl) (fun c a w h => hP c a _ _ w h) (Or.inl ⟨by rfl, ?_⟩) (by assumption) ?_
  rotate_left
  · (intro w hSw; (try dsimp only at hSw); go_simp <;> with_reducible rfl)
  (try simp only [Act.put, List.getElem_toArray, List.getElem_cons_zero, List.getElem_cons_succ, List.setIfInBounds_toArray, List.set_cons_zero, List.set_cons_succ])
  refine wpAnyH_take (i := 38) (v := ?_) rfl (by kernel_rfl) (by kernel_rfl) (by kernel_rfl) (fun c a w h => hP c a _ _ w h) (Or.inl ⟨by rfl, ?_⟩) (by assumption) ?_
  rotate_left
  · (intro w hSw; (try dsimp only at hSw); go_simp <;> with_reducible rfl)
  (try simp only [Act.put, List.getElem_toArray, List.getElem_cons_zero, List.getElem_cons_succ, List.setIfInBounds_toArray, List.set_cons_zero, List.set_cons_succ])
  refine wpAnyH_take (i := 39) (v := ?_) rfl (by kernel_rfl) (by kernel_rfl) (by kernel_rfl) (fun c a w h => hP c a _ _ w h) (Or.inl ⟨by rfl, ?_⟩) (by assumption) ?_
  rotate_left
  · (intro w hSw; (try dsimp only at hSw); go_simp <;> with_reducible rfl)
  (try simp only [Act.put, List.getElem_toArray, List.getElem_cons_zero, List.getElem_cons_succ, List.setIfInBounds_toArray, List.set_cons_zero, List.set_cons_succ])
  refine wpAnyH_take (i := 40) (v := ?_) rfl (by kernel_rfl) (by kernel_rfl) (by kernel_rfl) (fun c a w h => hP c a _ _ w h) (Or.inl ⟨by rfl, ?_⟩) (by assumption) ?_
  rotate_left
  · (intro w hSw; (try dsimp only at hSw); go_simp <;> with_reducible rfl)
  (try simp only [Act.put, List.getElem_toArray, List.getElem_cons_zero, List.getElem_cons_succ, List.setIfInBounds_toArray, List.set_cons_zero, List.set_cons_succ])
  refine wpAnyH_ready (rs := [41]) (by kernel_rfl) (by simp) ?_
  refine AllReadyH.cons rfl (fun K hK => ?_) AllReadyH.nil
  go_simp
  refine (qwords_any (HRK.out.below m2) HW.out.2).mono ?_
  rintro e wb ⟨rfl, rfl⟩
  refine hK.out _ _ ⟨keep_be m2 k3, keep_be m2 c3, keep_be m2 c4, keep_be m2 k0, keep_be m2 k2, keep_be m2 r0, keep_be m2 b0, keep_be m2 b1⟩ (fun hHeld => ?_)
  clear hK K
  (try simp only [Act.put, List.getElem_toArray, List.getElem_cons_zero, List.getElem_cons_succ, List.setIfInBounds_toArray, List.set_cons_zero, List.set_cons_succ])
  refine wpAnyH_take (i := 42) (v := ?_) rfl (by kernel_rfl) (by kernel_rfl) (by kernel_rfl) (fun c a w h => hP c a _ _ w h) (Or.inl ⟨by rfl, ?_⟩) (by assumption) ?_
  rotate_left
  · (intro w hSw; (try dsimp only at hSw); go_simp <;> with_reducible rfl)
  (try simp only [Act.put, List.getElem_toArray, List.getElem_cons_zero, List.getElem_cons_succ, List.setIfInBounds_toArray, List.set_cons_zero, List.set_cons_succ])
  refine wpAnyH_take (i := 43) (v := ?_) rfl (by kernel_rfl) (by kernel_rfl) (by kernel_rfl) (fun c a w h => hP c a _ _ w h) (Or.inl ⟨by rfl, ?_⟩) (by assumption) ?_
  rotate_left
  · (intro w hSw; (try dsimp only at hSw); go_simp <;> with_reducible rfl)
  (try simp only [Act.put, List.getElem_toArray, List.getElem_cons_zero, List.getElem_cons_succ, List.setIfInBounds_toArray, List.set_cons_zero, List.set_cons_succ])
  refine wpAnyH_take (i := 44) (v := ?_) rfl (by kernel_rfl) (by kernel_rfl) (by kernel_rfl) (fun c a w h => hP c a _ _ w h) (Or.inl ⟨by rfl, ?_⟩) (by assumption) ?_
  rotate_left
  · (intro w hSw; (try dsimp only at hSw); go_simp <;> with_reducible rfl)
  (try simp only [Act.put, List.getElem_toArray, List.getElem_cons_zero, List.getElem_cons_succ, List.setIfInBounds_toArray, List.set_cons_zero, List.set_cons_succ])
  refine wpAnyH_take (i := 45) (v := ?_) rfl (by kernel_rfl) (by kernel_rfl) (by kernel_rfl) (fun c a w h => hP c a _ _ w h) (Or.inl ⟨by rfl, ?_⟩) (by assumption) ?_
  rotate_left
  · (intro w hSw; (try dsimp only at hSw); go_simp <;> with_reducible rfl)
  (try simp only [Act.put, List.getElem_toArray, List.getElem_cons_zero, List.getElem_cons_succ, List.setIfInBounds_toArray, List.set_cons_zero, List.set_cons_succ])
  refine wpAnyH_take (i := 46) (v := ?_) rfl (by kernel_rfl) (by kernel_rfl) (by kernel_rfl) (fun c a w h => hP c a _ _ w h) (Or.inl ⟨by rfl, ?_⟩) (by assumption) ?_
  rotate_left
  · (intro w hSw; (try dsimp only at hSw); go_simp <;> with_reducible rfl)
  (try simp only [Act.put, List.getElem_toArray, List.getElem_cons_zero, List.getElem_cons_succ, List.setIfInBounds_toArray, List.set_cons_zero, List.set_cons_succ])
  refine wpAnyH_take (i := 47) (v := ?_) rfl (by kernel_rfl) (by kernel_rfl) (by kernel_rfl) (fun c a w h => hP c a _ _ w h) (Or.inl ⟨by rfl, ?_⟩) (by assumption) ?_
  rotate_left
  · (intro w hSw; (try dsimp only at hSw); go_simp <;> with_reducible rfl)
  (try simp only [Act.put, List.getElem_toArray, List.getElem_cons_zero, List.getElem_cons_succ, List.setIfInBounds_toArray, List.set_cons_zero, List.set_cons_succ])
  refine wpAnyH_take (i := 48) (v := ?_) rfl (by kernel_rfl) (by kernel_rfl) (by kernel_rfl) (fun c a w h => hP c a _ _ w h) (Or.inl ⟨by rfl, ?_⟩) (by assumption) ?_
  rotate_left
  · (intro w hSw; (try dsimp only at hSw); go_simp <;> with_reducible rfl)
  (try simp only [Act.put, List.getElem_toArray, List.getElem_cons_zero, List.getElem_cons_succ, List.setIfInBounds_toArray, List.set_cons_zero, List.set_cons_succ])
  refine wpAnyH_take (i := 49) (v := ?_) rfl (by kernel_rfl) (by kernel_rfl) (by kernel_rfl) (fun c a w h => hP c a _ _ w h) (Or.inl ⟨by rfl, ?_⟩) (by assumption) ?_
  rotate_left
  · (intro w hSw; (try dsimp only at hSw); go_simp <;> with_reducible rfl)
  (try simp only [Act.put, List.getElem_toArray, List.getElem_cons_zero, List.getElem_cons_succ, List.setIfInBounds_toArray, List.set_cons_zero, List.set_cons_succ])
  refine wpAnyH_take (i := 50) (v := ?_) rfl (by kernel_rfl) (by kernel_rfl) (by kernel_rfl) (fun c a w h => hP c a _ _ w h) (Or.inl ⟨by rfl, ?_⟩) (by assumption) ?_
  rotate_left
  · (intro w hSw; (try dsimp only at hSw); go_simp <;> with_reducible rfl)
  (try simp only [Act.put, List.getElem_toArray, List.getElem_cons_zero, List.getElem_cons_succ, List.setIfInBounds_toArray, List.set_cons_zero, List.set_cons_succ])
  refine wpAnyH_take (i := 51) (v := ?_) rfl (by kernel_rfl) (by kernel_rfl) (by kernel_rfl) (fun c a w h => hP c a _ _ w h) (Or.inl ⟨by rfl, ?_⟩) (by assumption) ?_
  rotate_left
  · (intro w hSw; (try dsimp only at hSw); go_simp <;> with_reducible rfl)
  (try simp only [Act.put, List.getElem_toArray, List.getElem_cons_zero, List.getElem_cons_succ, List.setIfInBounds_toArray, List.set_cons_zero, List.set_cons_succ])
  refine wpAnyH_take (i := 52) (v := ?_) rfl (by kernel_rfl) (by kernel_rfl) (by kernel_rfl) (fun c a w h => hP c a _ _ w h) (Or.inl ⟨by rfl, ?_⟩) (by assumption) ?_
  rotate_left
  · (intro w hSw; (try dsimp only at hSw); go_simp <;> with_reducible rfl)
  (try simp only [Act.put, List.getElem_toArray, List.getElem_cons_zero, List.getElem_cons_succ, List.setIfInBounds_toArray, List.set_cons_zero, List.set_cons_succ])
  refine wpAnyH_take (i := 53) (v := ?_) rfl (by kernel_rfl) (by kernel_rfl) (by kernel_rfl) (fun c a w h => hP c a _ _ w h) (Or.inl ⟨by rfl, ?_⟩) (by assumption) ?_
  rotate_left
  · (intro w hSw; (try dsimp only at hSw); go_simp <;> with_reducible rfl)
  (try simp only [Act.put, List.getElem_toArray, List.getElem_cons_zero, List.getElem_cons_succ, List.setIfInBounds_toArray, List.set_cons_zero, List.set_cons_succ])
  refine wpAnyH_take (i := 54) (v := undef) rfl (by kernel_rfl) (by kernel_rfl) (by kernel_rfl) (fun c a w h => hP c a _ _ w h) (Or.inr ⟨by rfl, rfl⟩) (by assumption) ?_
  (try simp only [Act.put, List.getElem_toArray, List.getElem_cons_zero, List.getElem_cons_succ, List.setIfInBounds_toArray, List.set_cons_zero, List.set_cons_succ])
  refine wpAnyH_take (i := 55) (v := undef) rfl (by kernel_rfl) (by kernel_rfl) (by kernel_rfl) (fun c a w h => hP c a _ _ w h) (Or.inr ⟨by rfl, rfl⟩) (by assumption) ?_
  (try simp only [Act.put, List.getElem_toArray, List.getElem_cons_zero, List.getElem_cons_succ, List.setIfInBounds_toArray, List.set_cons_zero, List.set_cons_succ])
  refine wpAnyH_take (i := 56) (v := undef) rfl (by kernel_rfl) (by kernel_rfl) (by kernel_rfl) (fun c a w h => hP c a _ _ w h) (Or.inr ⟨by rfl, rfl⟩) (by assumption) ?_
  (try simp only [Act.put, List.getElem_toArray, List.getElem_cons_zero, List.getElem_cons_succ, List.setIfInBounds_toArray, List.set_cons_zero, List.set_cons_succ])
  refine wpAnyH_take (i := 57) (v := undef) rfl (by kernel_rfl) (by kernel_rfl) (by kernel_rfl) (fun c a w h => hP c a _ _ w h) (Or.inr ⟨by rfl, rfl⟩) (by assumption) ?_
  (try simp only [Act.put, List.getElem_toArray, List.getElem_cons_zero, List.getElem_cons_succ, List.setIfInBounds_toArray, List.set_cons_zero, List.set_cons_succ])
  refine wpAnyH_take (i := 58) (v := undef) rfl (by kernel_rfl) (by kernel_rfl) (by kernel_rfl) (fun c a w h => hP c a _ _ w h) (Or.inr ⟨by rfl, rfl⟩) (by assumption) ?_
  (try simp only [Act.put, List.getElem_toArray, List.getElem_cons_zero, List.getElem_cons_succ, List.setIfInBounds_toArray, List.set_cons_zero, List.set_cons_succ])
  refine wpAnyH_take (i := 59) (v := undef) rfl (by kernel_rfl) (by kernel_rfl) (by kernel_rfl) (fun c a w h => hP c a _ _ w h) (Or.inr ⟨by rfl, rfl⟩) (by assumption) ?_
  (try simp only [Act.put, List.getElem_toArray, List.getElem_cons_zero, List.getElem_cons_succ, List.setIfInBounds_toArray, List.set_cons_zero, List.set_cons_succ])
  refine wpAnyH_take (i := 60) (v := undef) rfl (by kernel_rfl) (by kernel_rfl) (by kernel_rfl) (fun c a w h => hP c a _ _ w h) (Or.inr ⟨by rfl, rfl⟩) (by assumption) ?_
  (try simp only [Act.put, List.getElem_toArray, List.getElem_cons_zero, List.getElem_cons_succ, List.setIfInBounds_toArray, List.set_cons_zero, List.set_cons_succ])
  refine wpAnyH_take (i := 61) (v := undef) rfl (by kernel_rfl) (by kernel_rfl) (by kernel_rfl) (fun c a w h => hP c a _ _ w h) (Or.inr ⟨by rfl, rfl⟩) (by assumption) ?_
  (try simp only [Act.put, List.getElem_toArray, List.getElem_cons_zero, List.getElem_cons_succ, List.setIfInBounds_toArray, List.set_cons_zero, List.set_cons_succ])
  refine wpAnyH_take (i := 62) (v := undef) rfl (by kernel_rfl) (by kernel_rfl) (by kernel_rfl) (fun c a w h => hP c a _ _ w h) (Or.inr ⟨by rfl, rfl⟩) (by assumption) ?_
  (try simp only [Act.put, List.getElem_toArray, List.getElem_cons_zero, List.getElem_cons_succ, List.setIfInBounds_toArray, List.set_cons_zero, List.set_cons_succ])
  refine wpAnyH_take (i := 63) (v := undef) rfl (by kernel_rfl) (by kernel_rfl) (by kernel_rfl) (fun c a w h => hP c a _ _ w h) (Or.inr ⟨by rfl, rfl⟩) (by assumption) ?_
  (try simp only [Act.put, List.getElem_toArray, List.getElem_cons_zero, List.getElem_cons_succ, List.setIfInBounds_toArray, List.set_cons_zero, List.set_cons_succ])
  refine wpAnyH_take (i := 64) (v := undef) rfl (by kernel_rfl) (by kernel_rfl) (by kernel_rfl) (fun c a w h => hP c a _ _ w h) (Or.inr ⟨by rfl, rfl⟩) (by assumption) ?_
  (try simp only [Act.put, List.getElem_toArray, List.getElem_cons_zero, List.getElem_cons_succ, List.setIfInBounds_toArray, List.set_cons_zero, List.set_cons_succ])
  refine wpAnyH_take (i := 65) (v := undef) rfl (by kernel_rfl) (by kernel_rfl) (by kernel_rfl) (fun c a w h => hP c a _ _ w h) (Or.inr ⟨by rfl, rfl⟩) (by assumption) ?_
  (try simp only [Act.put, List.getElem_toArray, List.getElem_cons_zero, List.getElem_cons_succ, List.setIfInBounds_toArray, List.set_cons_zero, List.set_cons_succ])
  refine wpAnyH_take (i := 66) (v := undef) rfl (by kernel_rfl) (by kernel_rfl) (by kernel_rfl) (fun c a w h => hP c a _ _ w h) (Or.inr ⟨by rfl, rfl⟩) (by assumption) ?_
  (try simp only [Act.put, List.getElem_toArray, List.getElem_cons_zero, List.getElem_cons_succ, List.setIfInBounds_toArray, List.set_cons_zero, List.set_cons_succ])
  refine wpAnyH_take (i := 67) (v := ?_) rfl (by kernel_rfl) (by kernel_rfl) (by kernel_rfl) (fun c a w h => hP c a _ _ w h) (Or.inl ⟨by rfl, ?_⟩) (by assumption) ?_
  rotate_left
  · (intro w hSw; (try dsimp only at hSw); go_simp <;> with_reducible rfl)
  (try simp only [Act.put, List.getElem_toArray, List.getElem_cons_zero, List.getElem_cons_succ, List.setIfInBounds_toArray, List.set_cons_zero, List.set_cons_succ])
  refine wpAnyH_take (i := 68) (v := ?_) rfl (by kernel_rfl) (by kernel_rfl) (by kernel_rfl) (fun c a w h => hP c a _ _ w h) (Or.inl ⟨by rfl, ?_⟩) (by assumption) ?_
  rotate_left
  · (intro w hSw; (try dsimp only at hSw); go_simp <;> with_reducible rfl)
  (try simp only [Act.put, List.getElem_toArray, List.getElem_cons_zero, List.getElem_cons_succ, List.setIfInBounds_toArray, List.set_cons_zero, List.set_cons_succ])
  refine wpAnyH_take (i := 69) (v := ?_) rfl (by kernel_rfl) (by kernel_rfl) (by kernel_rfl) (fun c a w h => hP c a _ _ w h) (Or.inl ⟨by rfl, ?_⟩) (by assumption) ?_
  rotate_left
  · (intro w hSw; (try dsimp only at hSw); go_simp <;> with_reducible rfl)
  (try simp only [Act.put, List.getElem_toArray, List.getElem_cons_zero, List.getElem_cons_succ, List.setIfInBounds_toArray, List.set_cons_zero, List.set_cons_succ])
  refine wpAnyH_take (i := 70) (v := ?_) rfl (by kernel_rfl) (by kernel_rfl) (by kernel_rfl) (fun c a w h => hP c a _ _ w h) (Or.inl ⟨by rfl, ?_⟩) (by assumption) ?_
  rotate_left
  · (intro w hSw; (try dsimp only at hSw); go_simp <;> with_reducible rfl)
  (try simp only [Act.put, List.getElem_toArray, List.getElem_cons_zero, List.getElem_cons_succ, List.setIfInBounds_toArray, List.set_cons_zero, List.set_cons_succ])
  refine wpAnyH_take (i := 71) (v := ?_) rfl (by kernel_rfl) (by kernel_rfl) (by kernel_rfl) (fun c a w h => hP c a _ _ w h) (Or.inl ⟨by rfl, ?_⟩) (by assumption) ?_
  rotate_left
  · (intro w hSw; (try dsimp only at hSw); go_simp <;> with_reducible rfl)
  (try simp only [Act.put, List.getElem_toArray, List.getElem_cons_zero, List.getElem_cons_succ, List.setIfInBounds_toArray, List.set_cons_zero, List.set_cons_succ])
  refine wpAnyH_take (i := 72) (v := ?_) rfl (by kernel_rfl) (by kernel_rfl) (by kernel_rfl) (fun c a w h => hP c a _ _ w h) (Or.inl ⟨by rfl, ?_⟩) (by assumption) ?_
  rotate_left
  · (intro w hSw; (try dsimp only at hSw); go_simp <;> with_reducible rfl)
  (try simp only [Act.put, List.getElem_toArray, List.getElem_cons_zero, List.getElem_cons_succ, List.setIfInBounds_toArray, List.set_cons_zero, List.set_cons_succ])
  refine wpAnyH_take (i := 73) (v := ?_) rfl (by kernel_rfl) (by kernel_rfl) (by kernel_rfl) (fun c a w h => hP c a _ _ w h) (Or.inl ⟨by rfl, ?_⟩) (by assumption) ?_
  rotate_left
  · (intro w hSw; (try dsimp only at hSw); go_simp <;> with_reducible rfl)
  (try simp only [Act.put, List.getElem_toArray, List.getElem_cons_zero, List.getElem_cons_succ, List.setIfInBounds_toArray, List.set_cons_zero, List.set_cons_succ])
  refine wpAnyH_take (i := 75) (v := ?_) rfl (by kernel_rfl) (by kernel_rfl) (by kernel_rfl) (fun c a w h => hP c a _ _ w h) (Or.inl ⟨by rfl, ?_⟩) (by assumption) ?_
  rotate_left
  · (intro w hSw; (try dsimp only at hSw); go_simp <;> with_reducible rfl)
  (try simp only [Act.put, List.getElem_toArray, List.getElem_cons_zero, List.getElem_cons_succ, List.setIfInBounds_toArray, List.set_cons_zero, List.set_cons_succ])
  refine wpAnyH_take (i := 76) (v := ?_) rfl (by kernel_rfl) (by kernel_rfl) (by kernel_rfl) (fun c a w h => hP c a _ _ w h) (Or.inl ⟨by rfl, ?_⟩) (by assumption) ?_
  rotate_left
  · (intro w hSw; (try dsimp only at hSw); go_simp <;> with_reducible rfl)
  (try simp only [Act.put, List.getElem_toArray, List.getElem_cons_zero, List.getElem_cons_succ, List.setIfInBounds_toArray, List.set_cons_zero, List.set_cons_succ])
  refine wpAnyH_take (i := 77) (v := ?_) rfl (by kernel_rfl) (by kernel_rfl) (by kernel_rfl) (fun c a w h => hP c a _ _ w h) (Or.inl ⟨by rfl, ?_⟩) (by assumption) ?_
  rotate_left
  · (intro w hSw; (try dsimp only at hSw); go_simp <;> with_reducible rfl)
  (try simp only [Act.put, List.getElem_toArray, List.getElem_cons_zero, List.getElem_cons_succ, List.setIfInBounds_toArray, List.set_cons_zero, List.set_cons_succ])
  refine wpAnyH_take (i := 78) (v := ?_) rfl (by kernel_rfl) (by kernel_rfl) (by kernel_rfl) (fun c a w h => hP c a _ _ w h) (Or.inl ⟨by rfl, ?_⟩) (by assumption) ?_
  rotate_left
  · (intro w hSw; (try dsimp only at hSw); go_simp <;> with_reducible rfl)
  (try simp only [Act.put, List.getElem_toArray, List.getElem_cons_zero, List.getElem_cons_succ, List.setIfInBounds_toArray, List.set_cons_zero, List.set_cons_succ])
  refine wpAnyH_take (i := 79) (v := ?_) rfl (by kernel_rfl) (by kernel_rfl) (by kernel_rfl) (fun c a w h => hP c a _ _ w h) (Or.inl ⟨by rfl, ?_⟩) (by assumption) ?_
  rotate_left
  · (intro w hSw; (try dsimp only at hSw); go_simp <;> with_reducible rfl)
  (try simp only [Act.put, List.getElem_toArray, List.getElem_cons_zero, List.getElem_cons_succ, List.setIfInBounds_toArray, List.set_cons_zero, List.set_cons_succ])
  refine wpAnyH_take (i := 80) (v := ?_) rfl (by kernel_rfl) (by kernel_rfl) (by kernel_rfl) (fun c a w h => hP c a _ _ w h) (Or.inl ⟨by rfl, ?_⟩) (by assumption) ?_
  rotate_left
  · (intro w hSw; (try dsimp only at hSw); go_simp <;> with_reducible rfl)
  (try simp only [Act.put, List.getElem_toArray, List.getElem_cons_zero, List.getElem_cons_succ, List.setIfInBounds_toArray, List.set_cons_zero, List.set_cons_succ])
  refine wpAnyH_take (i := 81) (v := ?_) rfl (by kernel_rfl) (by kernel_rfl) (by kernel_rfl) (fun c a w h => hP c a _ _ w h) (Or.inl ⟨by rfl, ?_⟩) (by assumption) ?_
  rotate_left
  · (intro w hSw; (try dsimp only at hSw); go_simp <;> with_reducible rfl)
  (try simp only [Act.put, List.getElem_toArray, List.getElem_cons_zero, List.getElem_cons_succ, List.setIfInBounds_toArray, List.set_cons_zero, List.set_cons_succ])
  refine wpAnyH_ready (rs := [74]) (by kernel_rfl) (by simp) ?_
  refine AllReadyH.cons rfl (fun K hK => ?_) AllReadyH.nil
  go_simp
  refine (regions_sep (H5.out.keep m2) HM.out).mono ?_
  rintro e wc ⟨hbc, aq, cq, rfl, hRq⟩
  have m3 := m2.trans (hbc.mono m2.size)
  refine hK.out _ _ ⟨keep_be m3 k3, keep_be m3 c3, keep_be m3 c4, keep_be m3 k0, keep_be m3 k2, keep_be m3 r0, keep_be m3 b0, keep_be m3 b1⟩ (fun hHeld => ?_)
  clear hK K
  (try simp only [Act.put, List.getElem_toArray, List.getElem_cons_zero, List.getElem_cons_succ, List.setIfInBounds_toArray, List.set_cons_zero, List.set_cons_succ])
  refine wpAnyH_ready (rs := [82]) (by kernel_rfl) (by simp) ?_
  refine AllReadyH.cons rfl (fun K hK => ?_) AllReadyH.nil
  go_simp
  refine (same_Same21 hRq (HRR.out.below m3) HLE.out.2.2).mono ?_
  rintro e wd ⟨hbd, rfl⟩
  rw [decide_eq_true (rfl : tells S.regs = tells S.regs)]
  have m4 := m3.trans (hbd.mono m3.size)
  refine hK.out _ _ ⟨keep_be m4 k3, keep_be m4 c3, keep_be m4 c4, keep_be m4 k0, keep_be m4 k2, keep_be m4 r0, keep_be m4 b0, keep_be m4 b1⟩ (fun hHeld => ?_)
  clear hK K
  (try simp only [Act.put, List.getElem_toArray, List.getElem_cons_zero, List.getElem_cons_succ, List.setIfInBounds_toArray, List.set_cons_zero, List.set_cons_succ])
  refine wpAnyH_take (i := 83) (v := ?_) rfl (by kernel_rfl) (by kernel_rfl) (by kernel_rfl) (fun c a w h => hP c a _ _ w h) (Or.inl ⟨by rfl, ?_⟩) (by assumption) ?_
  rotate_left
  · (intro w hSw; (try dsimp only at hSw); go_simp <;> with_reducible rfl)
  (try simp only [Act.put, List.getElem_toArray, List.getElem_cons_zero, List.getElem_cons_succ, List.setIfInBounds_toArray, List.set_cons_zero, List.set_cons_succ])
  refine wpAnyH_take (i := 84) (v := ?_) rfl (by kernel_rfl) (by kernel_rfl) (by kernel_rfl) (fun c a w h => hP c a _ _ w h) (Or.inl ⟨by rfl, ?_⟩) (by assumption) ?_
  rotate_left
  · (intro w hSw; (try dsimp only at hSw); go_simp <;> with_reducible rfl)
  (try simp only [Act.put, List.getElem_toArray, List.getElem_cons_zero, List.getElem_cons_succ, List.setIfInBounds_toArray, List.set_cons_zero, List.set_cons_succ])
  refine wpAnyH_done (by kernel_rfl) ?_ _
  exact HQ.out _ _ _ _ _ _ _ _ _ _ _ _ _ _ _ _ _ _ _ _ _ _ _ _ _ _ _ _ _ _ _ _ _ _ _ _ _ _ _ _ _ _ _ _ _ _ _ _ _ _ _ _ _ _ _ _ _ _ _ _ _ _ _ _ _ _ _ _ _ _ _ _ _ _ _ _ _ _ _ _ _ _ _ _ _ _ rfl m4
end Go.Proofs.Ytkooogllajmkeaa
/- The great test of a play's 'same' (24): something is live. -/
namespace Go.Proofs.Ytkooogllajmkeaa
open Go.RowKit
set_option pp.deepTerms true
attribute [local go_sem ↓] Go.wp_at_zero Go.wp_at_succ
set_option maxRecDepth 100000 in
set_option maxHeartbeats 4000000 in
theorem same5_1 {w Y : World} {x p pr q B7 g go n0 : Nat} {y1 y2 : Int} {S : Sp} {L : Lk} {l : List Asr} {al ak ak2 ar : Option Addr} {cl m ck c ck2 cr : Nat} {Q : Exit → Act → World → Prop} {u1 u2 u10 u11 u12 u13 u14 u15 u16 u17 u18 u19 u20 u21 u22 u23 u24 u25 u26 u27 u28 u29 u30 u31 u32 u33 u34 u35 u36 u37 u38 u39 u40 u41 u42 u43 u44 u45 u46 u47 u48 u49 u50 u51 u52 u53 u54 u55 u56 u57 u58 u59 u60 u61 u62 u63 u64 u65 u66 u67 u68 u69 u70 u71 u72 u73 u74 u75 u76 u77 u78 u79 u80 u81 u82 u83 u84 u85 u86 u87 u88 u89 u90 u91 u92 u93 u94 u95 u96 u97 u98 u99 u100 u101 u102 u103 u104 u105 u106 u107 u108 u109 u110 u111 u112 u113 u114 u115 u116 u117 u118 u119 u120 u121 u122 u123 u124 u125 u126 u127 u128 u129 u130 u131 u132 u133 u134 u135 u136 u137 u138 u139 u140 u141 u142 u143 u144 u145 u146 u147 u148 u149 u150 u151 : Value}
    (HLE : Hid (L.live.length ≤ 4194304 ∧ L.kept.length ≤ 4194304 ∧ (tells S.regs).length ≤ 4194304)) (HW : Hid (Wok L.live ∧ Wok L.kept)) (H5 : Hid (Sep w l Y)) (HM : Hid (spA p S ∈ l))
    (HL : Hid (Rd Y (.slice al (n0 + 1) cl) L.live)) (HRL : Hid (Rd Y (.slice (some ⟨g, go, none⟩) (n0 + 1) c) L.live)) (HKK : Hid (Rd Y (.slice ak m ck) L.kept)) (HRK : Hid (Rd Y (.slice ak2 m ck2) L.kept)) (HRR : Hid (Rd Y (.slice ar (tells S.regs).length cr) (tells S.regs)))
    (k3 : Y.cell? ⟨x, 3, none⟩ = some (.pointer (some ⟨q, 0, none⟩))) (c3 : Y.cell? ⟨q, 3, none⟩ = some (.slice (some ⟨g, go, none⟩) (n0 + 1) c)) (c4 : Y.cell? ⟨q, 4, none⟩ = some (.slice ak2 m ck2)) (k0 : Y.cell? ⟨x, 0, none⟩ = some (.pointer (some ⟨p, 0, none⟩))) (k2 : Y.cell? ⟨x, 2, none⟩ = some (.pointer (some ⟨pr, 0, none⟩))) (r0 : Y.cell? ⟨pr, 0, none⟩ = some (.slice ar (tells S.regs).length cr)) (b0 : Y.cell? ⟨B7, 0, none⟩ = some (.int .i64 y1)) (b1 : Y.cell? ⟨B7, 1, none⟩ = some (.int .i64 y2)) (e0 : Y.cell? ⟨g, go + n0 * 2, none⟩ = some (.int .i64 y1)) (e1 : Y.cell? ⟨g, go + n0 * 2 + 1, none⟩ = some (.int .i64 y2)) (hn : n0 ≤ 1000000)
    (hQ : ∀ (c10 c47 c48 c49 c50 c51 c52 c53 c54 c55 c56 c57 c58 c59 c60 c61 c62 c63 c64 c65 c66 c67 c68 c69 c70 c71 c72 c73 c74 c75 c76 c77 c78 c79 c80 c81 c82 c83 c84 c85 c86 c87 c88 c89 c90 c91 c92 c93 c94 c95 c96 c97 c98 c99 c100 c101 c102 c103 c104 c105 c106 c107 c108 c109 c110 c111 c112 c113 c114 c115 c116 c117 c118 c119 c120 c121 c122 c123 c124 c125 c126 c127 c128 c129 c130 : Value) (W' : World), c10 = .bool true → Below Y.heap.size Y W' → Q .normal ⟨#[.pointer (some ⟨x, 0, none⟩), u1, u2, .slice al (n0 + 1) cl, .slice ak m ck, .int .i64 (wsum L.live), .int .i64 (wsum L.kept), .pointer (some ⟨B7, 0, none⟩), .bool true, .int .i64 ((n0 + 1 : Nat) : Int), c10, u11, u12, u13, u14, u15, u16, u17, u18, u19, u20, u21, u22, u23, u24, u25, u26, u27, u28, u29, u30, u31, u32, u33, u34, u35, u36, u37, u38, u39, u40, u41, u42, u43, u44, u45, u46, c47, c48, c49, c50, c51, c52, c53, c54, c55, c56, c57, c58, c59, c60, c61, c62, c63, c64, c65, c66, c67, c68, c69, c70, c71, c72, c73, c74, c75, c76, c77, c78, c79, c80, c81, c82, c83, c84, c85, c86, c87, c88, c89, c90, c91, c92, c93, c94, c95, c96, c97, c98, c99, c100, c101, c102, c103, c104, c105, c106, c107, c108, c109, c110, c111, c112, c113, c114, c115, c116, c117, c118, c119, c120, c121, c122, c123, c124, c125, c126, c127, c128, c129, c130, u131, u132, u133, u134, u135, u136, u137, u138, u139, u140, u141, u142, u143, u144, u145, u146, u147, u148, u149, u150, u151], []⟩ W') :
    Code.wp Try.prog (pieceOf (Try.f37.body.getD .skip) [1, 1, 1, 1, 1, 0]) Q ⟨#[.pointer (some ⟨x, 0, none⟩), u1, u2, .slice al (n0 + 1) cl, .slice ak m ck, .int .i64 (wsum L.live), .int .i64 (wsum L.kept), .pointer (some ⟨B7, 0, none⟩), .bool true, .int .i64 ((n0 + 1 : Nat) : Int), u10, u11, u12, u13, u14, u15, u16, u17, u18, u19, u20, u21, u22, u23, u24, u25, u26, u27, u28, u29, u30, u31, u32, u33, u34, u35, u36, u37, u38, u39, u40, u41, u42, u43, u44, u45, u46, u47, u48, u49, u50, u51, u52, u53, u54, u55, u56, u57, u58, u59, u60, u61, u62, u63, u64, u65, u66, u67, u68, u69, u70, u71, u72, u73, u74, u75, u76, u77, u78, u79, u80, u81, u82, u83, u84, u85, u86, u87, u88, u89, u90, u91, u92, u93, u94, u95, u96, u97, u98, u99, u100, u101, u102, u103, u104, u105, u106, u107, u108, u109, u110, u111, u112, u113, u114, u115, u116, u117, u118, u119, u120, u121, u122, u123, u124, u125, u126, u127, u128, u129, u130, u131, u132, u133, u134, u135, u136, u137, u138, u139, u140, u141, u142, u143, u144, u145, u146, u147, u148, u149, u150, u151], []⟩ Y := by
  have HQ := Hid.mk hQ
  clear hQ
  have hdl : decide (L.live = L.live) = true := decide_eq_true rfl
  have hdk : decide (L.kept = L.kept) = true := decide_eq_true rfl
  have hdr : decide (tells S.regs = tells S.regs) = true := decide_eq_true rfl
  have hb0 : Below Y.heap.size Y Y.drew := (Below.refl _ _).drew
  have zl : (wsum L.live == wsum L.live) = true := by simp
  have zk : (wsum L.kept == wsum L.kept) = true := by simp
  have zn : (((n0 + 1 : Nat) : Int) == 0) = false := beq_eq_false_iff_ne.2 (by omega)
  have zn' : ((n0 : Int) + 1 == 0) = false := beq_eq_false_iff_ne.2 (by omega)
  have zg : decide (((n0 + 1 : Nat) : Int) > 0) = true := decide_eq_true (by omega)
  have zg' : decide ((n0 : Int) + 1 > 0) = true := decide_eq_true (by omega)
  have w1 : IntKind.i64.wrap (((n0 + 1 : Nat) : Int) - 1) = (n0 : Int) := by first | (rw [IntKind.wrap_i64]; omega) | rw [IntKind.wrap_i64]
  have w2 : IntKind.i64.wrap ((n0 : Int) + 1 - 1) = (n0 : Int) := by first | (rw [IntKind.wrap_i64]; omega) | rw [IntKind.wrap_i64]
  have i1 : (0 : Int) ≤ (n0 : Int) := by omega
  have i2 : (n0 : Int) < ((n0 + 1 : Nat) : Int) := by omega
  have i3 : (n0 : Int) < (n0 : Int) + 1 := by omega
  have i4 : n0 < n0 + 1 := by omega
  have w3 : IntKind.i64.wrap (n0 : Int) = (n0 : Int) := by rw [IntKind.wrap_i64]; omega
  conv => arg 2; whnf
  dsimp only [List.append]
  go_region_held3 (fun W' => W'.cell? ⟨x, 3, none⟩ = some (.pointer (some ⟨q, 0, none⟩)) ∧ W'.cell? ⟨q, 3, none⟩ = some (.slice (some ⟨g, go, none⟩) (n0 + 1) c) ∧ W'.cell? ⟨q, 4, none⟩ = some (.slice ak2 m ck2) ∧ W'.cell? ⟨x, 0, none⟩ = some (.pointer (some ⟨p, 0, none⟩)) ∧ W'.cell? ⟨x, 2, none⟩ = some (.pointer (some ⟨pr, 0, none⟩)) ∧ W'.cell? ⟨pr, 0, none⟩ = some (.slice ar (tells S.regs).length cr) ∧ W'.cell? ⟨B7, 0, none⟩ = some (.int .i64 y1) ∧ W'.cell? ⟨B7, 1, none⟩ = some (.int .i64 y2) ∧ W'.cell? ⟨g, go + n0 * 2, none⟩ = some (.int .i64 y1) ∧ W'.cell? ⟨g, go + n0 * 2 + 1, none⟩ = some (.int .i64 y2)) (first | exact ⟨keep_be m4 k3, keep_be m4 c3, keep_be m4 c4, keep_be m4 k0, keep_be m4 k2, keep_be m4 r0, keep_be m4 b0, keep_be m4 b1, keep_be m4 e0, keep_be m4 e1⟩ | exact ⟨keep_be m3 k3, keep_be m3 c3, keep_be m3 c4, keep_be m3 k0, keep_be m3 k2, keep_be m3 r0, keep_be m3 b0, keep_be m3 b1, keep_be m3 e0, keep_be m3 e1⟩ | exact ⟨keep_be m2 k3, keep_be m2 c3, keep_be m2 c4, keep_be m2 k0, keep_be m2 k2, keep_be m2 r0, keep_be m2 b0, keep_be m2 b1, keep_be m2 e0, keep_be m2 e1⟩ | exact ⟨keep_be m1 k3, keep_be m1 c3, keep_be m1 c4, keep_be m1 k0, keep_be m1 k2, keep_be m1 r0, keep_be m1 b0, keep_be m1 b1, keep_be m1 e0, keep_be m1 e1⟩ | exact ⟨k3, c3, c4, k0, k2, r0, b0, b1, e0, e1⟩) (first | (go_at_call 27; (with_reducible refine (same_Same21 (HL.out.below hb0) (HRL.out.below hb0) HLE.out.1).mono ?_); rintro e wa ⟨hba, rfl⟩; have m1 := hb0.trans (hba.mono hb0.size)) | (go_at_call 27; (with_reducible refine (same_Same21 (HKK.out.below m1) (HRK.out.below m1) HLE.out.2.1).mono ?_); rintro e wb ⟨hbb, rfl⟩; have m2 := m1.trans (hbb.mono m1.size)) | (go_at_call 73; (with_reducible refine (qwords_any (HRL.out.below m2) HW.out.1).mono ?_); rintro e wb ⟨rfl, rfl⟩) | (go_at_call 73; (with_reducible refine (qwords_any (HRK.out.below m2) HW.out.2).mono ?_); rintro e wb ⟨rfl, rfl⟩) | (go_at_call 14; refine (regions_sep (H5.out.keep m2) HM.out).mono ?_; rintro e wc ⟨hbc, aq, cq, rfl, hRq⟩; have m3 := m2.trans (hbc.mono m2.size)) | (go_at_call 27; (with_reducible refine (same_Same21 hRq (HRR.out.below m3) HLE.out.2.2).mono ?_); rintro e wd ⟨hbd, rfl⟩; have m4 := m3.trans (hbd.mono m3.size)))
  all_goals
    have HZ := Hid.mk m4
    clear m1 m2 m3 m4 hba hbb hbc hbd hRq
    go_wp2_with fail
    exact HQ.out _ _ _ _ _ _ _ _ _ _ _ _ _ _ _ _ _ _ _ _ _ _ _ _ _ _ _ _ _ _ _ _ _ _ _ _ _ _ _ _ _ _ _ _ _ _ _ _ _ _ _ _ _ _ _ _ _ _ _ _ _ _ _ _ _ _ _ _ _ _ _ _ _ _ _ _ _ _ _ _ _ _ _ _ _ _ rfl HZ.out
end Go.Proofs.Ytkooogllajmkeaa
/- Have a play's space and link the same as the document's (24)? The whole. -/
namespace Go.Proofs.Ytkooogllajmkeaa
open Go.RowKit
set_option pp.deepTerms true
attribute [local go_sem ↓] Go.wp_at_zero Go.wp_at_succ
/-- a row that is turned: its contents are no matter -/
def RowSt (w : World) (T : TypeId) (v : Value) (n : Nat) (l : List Asr) (W : World) : Prop := (n = 0 ∧ Sep w l W) ∨ ∃ g cur c, v = .slice (some ⟨g, 0, none⟩) n c ∧ n * 2 ≤ cur.size ∧ n ≤ c ∧ Sep w (bx g (.cells cur T) :: l) W
theorem RowSt.mk {w W : World} {T : TypeId} {a : Option Addr} {n c : Nat} {xs : List Value} {l : List Asr} (h : Sep w (rw_ 0 T 2 (.slice a n c) n xs :: l) W) : RowSt w T (.slice a n c) n l W := by
  rcases Nat.eq_zero_or_pos n with h0 | h0
  · exact .inl ⟨h0, h.tl⟩
  · have ho := h.owns (List.Mem.head _)
    obtain ⟨g, c', ev⟩ := row_shape ho h0
    simp only [Value.slice.injEq, true_and] at ev
    obtain ⟨rfl, rfl⟩ := ev
    obtain ⟨cur, h1, h2⟩ := h.unrow
    refine .inr ⟨g, cur, c, rfl, h1, ?_, h2⟩
    rcases ho.2 with ⟨q, _⟩ | ⟨g', cap', cur', q, _, _, hc, _⟩
    · simp at q
    · simp only [Value.slice.injEq] at q
      omega
theorem RowSt.out {w W : World} {T : TypeId} {v : Value} {n : Nat} {l : List Asr} (h : RowSt w T v n l W) : Sep w l W := by
  rcases h with ⟨-, h⟩ | ⟨g, cur, c, -, -, -, h⟩
  · exact h
  · exact h.tl
set_option maxRecDepth 100000 in
set_option maxHeartbeats 4000000 in
theorem same24_any {w W : World} {x p b pr q k : Nat} {sz ca : Int} {S : Sp} {L : Lk} (h : StP w x p b pr q sz ca S L W) (hI : PInv S L k) (ok : Spok S) (hk : k ≤ 1000) :
    Calls Try.prog 37 #[.pointer (some ⟨x, 0, none⟩)] W fun e w' => e = .returned (.bool true) ∧ StP w x p b pr q sz ca S L w' := by
  have hll : L.live.length ≤ 1000000 := by have := hI.few; omega
  have hkl : L.kept.length ≤ 1000000 := by have := hI.few; omega
  have HK : Hid (L.live.length ≤ 1000000 ∧ L.kept.length ≤ 1000000) := ⟨hll, hkl⟩
  have HLE : Hid (L.live.length ≤ 4194304 ∧ L.kept.length ≤ 4194304 ∧ (tells S.regs).length ≤ 4194304) := ⟨by omega, by omega, regs_few ok⟩
  have HW := Hid.mk (hI.wok ok hk)
  have H0 : Hid (Sep w [spA p S, lkA b p sz ca L, rsA pr S, qlA q pr sz ca L, bx x (pl24 p b pr q)] W) := h
  have k1 := H0.out.cell (b := x) (j := 1) (List.Mem.tail _ (List.Mem.tail _ (List.Mem.tail _ (List.Mem.tail _ (List.Mem.head _))))) rfl
  have c0 := H0.out.drew
  clear h hI ok hll hkl
  go_enter Try.func37, Try.ntmps37
  go_upto_region 1 with (fail)
  go_region_held3 (fun W' => W'.cell? ⟨x, 1, none⟩ = some (.pointer (some ⟨b, 0, none⟩))) (first | exact f1 | exact f0 | exact k1) (first | (go_at_call 35; refine (live_sep (w := w) (F := [rsA pr S, qlA q pr sz ca L, bx x (pl24 p b pr q)]) c0 HK.out.1).mono ?_; rintro e wx ⟨al, cl, rfl, hx, -⟩; have f0 := hx.cell (b := x) (j := 1) (List.Mem.tail _ (List.Mem.tail _ (List.Mem.tail _ (List.Mem.tail _ (List.Mem.tail _ (List.Mem.head _)))))) rfl) | (go_at_call 34; refine (kept_sep (w := w) (F := [rw_ 0 39 2 (.slice al L.live.length cl) L.live.length (wcells L.live), rsA pr S, qlA q pr sz ca L, bx x (pl24 p b pr q)]) ((((((hx.pick 5 rfl).pick 5 rfl).pick 5 rfl).pick 3 rfl).pick 5 rfl).pick 5 rfl) HK.out.2).mono ?_; rintro e wy ⟨ak, ck, rfl, hy, -⟩; have f1 := hy.cell (b := x) (j := 1) (List.Mem.tail _ (List.Mem.tail _ (List.Mem.tail _ (List.Mem.tail _ (List.Mem.tail _ (List.Mem.tail _ (List.Mem.head _))))))) rfl))
  have H2 : Hid (Sep w [spA p S, lkA b p sz ca L, rw_ 0 39 2 (.slice ak L.kept.length ck) L.kept.length (wcells L.kept), rw_ 0 39 2 (.slice al L.live.length cl) L.live.length (wcells L.live), rsA pr S, qlA q pr sz ca L, bx x (pl24 p b pr q)] wy) := (((((((hy.pick 6 rfl).pick 6 rfl).pick 6 rfl).pick 6 rfl).pick 4 rfl).pick 6 rfl).pick 6 rfl)
  have k1 := f1
  clear c0 f0 f1 hx hy H0
  have HC := Hid.mk (words24_sep H2.out HW.out.1 HW.out.2)
  go_wp2_with fail
  refine HC.out.mono ?_
  rintro e w3 ⟨h3, rfl⟩
  have k1 := h3.cell (b := x) (j := 1) (List.Mem.tail _ (List.Mem.tail _ (List.Mem.tail _ (List.Mem.tail _ (List.Mem.tail _ (List.Mem.tail _ (List.Mem.head _))))))) rfl
  have HC := Hid.mk (top_sep h3 HK.out.1)
  clear h3
  go_wp2_with fail
  refine HC.out.mono ?_
  rintro e w4 ⟨h4, -, rfl⟩
  obtain ⟨⟨⟨t1, t2⟩, tb⟩, ht⟩ : ∃ t, topOf L.live = t := ⟨_, rfl⟩
  rw [ht]
  have HT := Hid.mk ht
  clear HC ht k1 H2
  have h5 := h4.alloc (.cells #[.int .i64 t1, .int .i64 t2] 39)
  have k3 := h5.cell (b := x) (j := 3) (List.Mem.tail _ (List.Mem.tail _ (List.Mem.tail _ (List.Mem.tail _ (List.Mem.tail _ (List.Mem.tail _ (List.Mem.tail _ (List.Mem.head _)))))))) rfl
  obtain ⟨ao, c, ak2, ck2, c3, hRL, c4, hRK⟩ := ql_rows h5 (List.Mem.tail _ (List.Mem.tail _ (List.Mem.tail _ (List.Mem.tail _ (List.Mem.tail _ (List.Mem.tail _ (List.Mem.head _)))))))
  obtain ⟨ar, cr, r0, hRR⟩ := rs_row h5 (List.Mem.tail _ (List.Mem.tail _ (List.Mem.tail _ (List.Mem.tail _ (List.Mem.tail _ (List.Mem.head _))))))
  have hL := Rd.of_row (h5.owns (base := 0) (T := 39) (n := 2) (v := .slice al L.live.length cl) (m := L.live.length) (xs := wcells L.live) (List.Mem.tail _ (List.Mem.tail _ (List.Mem.tail _ (List.Mem.tail _ (List.Mem.head _)))))) rfl
  have hK := Rd.of_row (h5.owns (base := 0) (T := 39) (n := 2) (v := .slice ak L.kept.length ck) (m := L.kept.length) (xs := wcells L.kept) (List.Mem.tail _ (List.Mem.tail _ (List.Mem.tail _ (List.Mem.head _))))) rfl
  have k0 := h5.cell (b := x) (j := 0) (List.Mem.tail _ (List.Mem.tail _ (List.Mem.tail _ (List.Mem.tail _ (List.Mem.tail _ (List.Mem.tail _ (List.Mem.tail _ (List.Mem.head _)))))))) rfl
  have k2 := h5.cell (b := x) (j := 2) (List.Mem.tail _ (List.Mem.tail _ (List.Mem.tail _ (List.Mem.tail _ (List.Mem.tail _ (List.Mem.tail _ (List.Mem.tail _ (List.Mem.head _)))))))) rfl
  have b0 := h5.cell (b := w4.heap.size) (j := 0) (List.Mem.head _) rfl
  have b1 := h5.cell (b := w4.heap.size) (j := 1) (List.Mem.head _) rfl
  have H5 := Hid.mk h5
  have k3a := k3
  have c3a := c3
  clear h4 h5
  obtain ⟨Y, hY⟩ : ∃ Y, w4.alloc (.cells #[.int .i64 t1, .int .i64 t2] 39) = Y := ⟨_, rfl⟩
  obtain ⟨B7, hB7⟩ : ∃ B7, w4.heap.size = B7 := ⟨_, rfl⟩
  have HYB := Hid.mk (And.intro hY hB7)
  rw [hY] at k3 c3 hRL c4 hRK r0 hRR hL hK k0 k2 b0 b1 H5
  rw [hB7] at b0 b1 H5
  clear hY hB7
  obtain ⟨n, hn⟩ : ∃ n, L.live.length = n := ⟨_, rfl⟩
  obtain ⟨m, hm⟩ : ∃ m, L.kept.length = m := ⟨_, rfl⟩
  have HNM := Hid.mk (And.intro hn hm)
  rw [hn] at c3 c3a hRL hL
  rw [hm] at c4 hRK hK
  have HCL := Hid.mk (And.intro k3 (And.intro c3 (And.intro c4 (And.intro k0 (And.intro k2 (And.intro r0 (And.intro b0 b1)))))))
  have HRL := Hid.mk hRL
  have HRK := Hid.mk hRK
  have HRR := Hid.mk hRR
  have HL := Hid.mk hL
  have HKK := Hid.mk hK
  clear hRL hRK hRR hL hK k3 c3 c4 k0 k2 r0 b0 b1 hn hm
  go_upto_region 5 with (fail)
  rw [HYB.out.1, HYB.out.2, HNM.out.1, HNM.out.2]
  clear k3a c3a
  go_cut [10] (fun v W' => Hid (v = .bool true ∧ Below Y.heap.size Y W'))
  case first =>
    obtain ⟨k3, c3, c4, k0, k2, r0, b0, b1⟩ := HCL.out
    by_cases hne : L.live = []
    · have hn0 : n = 0 := by have := HNM.out.1; rw [hne] at this; simpa using this.symm
      have htt : topOf L.live = ((0, 0), false) := by rw [hne]; rfl
      have htq := HT.out
      rw [htt] at htq
      simp only [Prod.mk.injEq] at htq
      obtain ⟨⟨rfl, rfl⟩, rfl⟩ := htq
      subst hn0
      refine same5_0 HLE HW H5 (show Hid (_ ∈ _) from (List.Mem.tail _ (List.Mem.head _))) HL HRL HKK HRK HRR k3 c3 c4 k0 k2 r0 b0 b1 ?_ ?_
      · exact fun _ _ _ _ _ h => h
      intro c10 c47 c48 c49 c50 c51 c52 c53 c54 c55 c56 c57 c58 c59 c60 c61 c62 c63 c64 c65 c66 c67 c68 c69 c70 c71 c72 c73 c74 c75 c76 c77 c78 c79 c80 c81 c82 c83 c84 c85 c86 c87 c88 c89 c90 c91 c92 c93 c94 c95 c96 c97 c98 c99 c100 c101 c102 c103 c104 c105 c106 c107 c108 c109 c110 c111 c112 c113 c114 c115 c116 c117 c118 c119 c120 c121 c122 c123 c124 c125 c126 c127 c128 c129 c130 W' h1 h2
      have HH := Hid.mk (And.intro h1 h2)
      clear h1 h2
      go_wp2_with fail
      go_meet
      case rel => exact HH.out
    · obtain ⟨pre, y, hpre, htt⟩ := topOf_some hne
      have htq := HT.out
      rw [htt] at htq
      simp only [Prod.mk.injEq] at htq
      obtain ⟨⟨rfl, rfl⟩, rfl⟩ := htq
      have hnp : n = pre.length + 1 := by have := HNM.out.1; rw [hpre] at this; simpa using this.symm
      obtain ⟨n0, hn0⟩ : ∃ n0, pre.length = n0 := ⟨_, rfl⟩
      rw [hn0] at hnp
      subst hnp
      have hi0 : n0 < L.live.length := by have := HNM.out.1; omega
      have hy : L.live[n0] = y := by
        have : L.live[n0]? = some y := by rw [hpre, ← hn0]; simp
        exact (List.getElem?_eq_some_iff.1 this).2
      obtain ⟨g, go, c', ev, hgl, hcl⟩ := HRL.out.some (by omega)
      simp only [Value.slice.injEq] at ev
      obtain ⟨rfl, -, -⟩ := ev
      obtain ⟨e0, e1⟩ := hcl n0 hi0
      rw [hy] at e0 e1
      have hn1 : n0 ≤ 1000000 := by have := HK.out.1; omega
      refine same5_1 HLE HW H5 (show Hid (_ ∈ _) from (List.Mem.tail _ (List.Mem.head _))) HL HRL HKK HRK HRR k3 c3 c4 k0 k2 r0 b0 b1 e0 e1 hn1 ?_
      intro c10 c47 c48 c49 c50 c51 c52 c53 c54 c55 c56 c57 c58 c59 c60 c61 c62 c63 c64 c65 c66 c67 c68 c69 c70 c71 c72 c73 c74 c75 c76 c77 c78 c79 c80 c81 c82 c83 c84 c85 c86 c87 c88 c89 c90 c91 c92 c93 c94 c95 c96 c97 c98 c99 c100 c101 c102 c103 c104 c105 c106 c107 c108 c109 c110 c111 c112 c113 c114 c115 c116 c117 c118 c119 c120 c121 c122 c123 c124 c125 c126 c127 c128 c129 c130 W' h1 h2
      have HH := Hid.mk (And.intro h1 h2)
      clear h1 h2
      go_wp2_with fail
      go_meet
      case rel => exact HH.out
  case rest =>
    obtain ⟨rfl, hbY⟩ := hcut.out
    have hS := H5.out.keep hbY
    rw [HNM.out.1, HNM.out.2] at hS
    have hS2 : Sep w [rw_ 0 39 2 (.slice al n cl) n (wcells L.live), rw_ 0 39 2 (.slice ak m ck) m (wcells L.kept), spA p S, lkA b p sz ca L, rsA pr S, qlA q pr sz ca L, bx x (pl24 p b pr q)] _ := (((((((hS.tl.pick 6 rfl).pick 6 rfl).pick 6 rfl).pick 4 rfl).pick 4 rfl).pick 5 rfl).pick 6 rfl)
    have HS := Hid.mk (RowSt.mk hS2)
    have hn1 : n ≤ 1000000 := by have := HK.out.1; have := HNM.out.1; omega
    have hm1 : m ≤ 1000000 := by have := HK.out.2; have := HNM.out.2; omega
    clear hS hS2 hcut hbY HCL HRL HRK HRR HL HKK H5 HT HW
    go_wp2_with fail
    go_loopw [133] (fun i wr => ∃ k : Nat, i = .int .i64 k ∧ k ≤ n ∧ Hid (RowSt w 39 (.slice al n cl) n [rw_ 0 39 2 (.slice ak m ck) m (wcells L.kept), spA p S, lkA b p sz ca L, rsA pr S, qlA q pr sz ca L, bx x (pl24 p b pr q)] wr)) (fun i _ => n - (intOf i).toNat)
    case atStart => exact ⟨0, rfl, by omega, HS⟩
    case round =>
      clear HS
      obtain ⟨k, rfl, hk, HS⟩ := hrel
      by_cases hlt : k < n
      · rcases HS.out with ⟨h0, -⟩ | ⟨g, cur, c', ev, hc1, hc2, hS⟩
        · omega
        · simp only [Value.slice.injEq, true_and] at ev
          obtain ⟨rfl, rfl⟩ := ev
          have e1 := hS.cell (b := g) (j := k * 2 + 1) (List.Mem.head _) (Array.getElem?_eq_getElem (show k * 2 + 1 < cur.size by omega))
          have ef := hS.free (b := g) (List.Mem.head _) (k * 2 + 1)
          have HN := Hid.mk (hS.store (k * 2 + 1) (.int .i64 0))
          have HC1 := Hid.mk hc1
          clear hS HS
          go_wp2_with fail
          exact ⟨⟨k + 1, by go_num, by omega, .inr ⟨g, _, cl, rfl, by have := HC1.out; simpa using this, by omega, HN.out⟩⟩, by simp [intOf]; omega⟩
      · obtain rfl : k = n := by omega
        have HS2 := Hid.mk (RowSt.mk HS.out.out)
        clear HS
        go_wp2_with fail
        go_loopw [143] (fun i wr => ∃ k : Nat, i = .int .i64 k ∧ k ≤ m ∧ Hid (RowSt w 39 (.slice ak m ck) m [spA p S, lkA b p sz ca L, rsA pr S, qlA q pr sz ca L, bx x (pl24 p b pr q)] wr)) (fun i _ => m - (intOf i).toNat)
        case atStart => exact ⟨0, rfl, by omega, HS2⟩
        case round =>
          clear HS2
          obtain ⟨k, rfl, hk, HS⟩ := hrel
          by_cases hlt : k < m
          · rcases HS.out with ⟨h0, -⟩ | ⟨g, cur, c', ev, hc1, hc2, hS⟩
            · omega
            · simp only [Value.slice.injEq, true_and] at ev
              obtain ⟨rfl, rfl⟩ := ev
              have e1 := hS.cell (b := g) (j := k * 2) (List.Mem.head _) (Array.getElem?_eq_getElem (show k * 2 < cur.size by omega))
              have ef := hS.free (b := g) (List.Mem.head _) (k * 2)
              have HN := Hid.mk (hS.store (k * 2) (.int .i64 (-1)))
              have HC1 := Hid.mk hc1
              clear hS HS
              go_wp2_with fail
              exact ⟨⟨k + 1, by go_num, by omega, .inr ⟨g, _, ck, rfl, by have := HC1.out; simpa using this, by omega, HN.out⟩⟩, by simp [intOf]; omega⟩
          · obtain rfl : k = m := by omega
            have HF := Hid.mk HS.out.out
            clear HS
            go_wp2_with fail
            go_ret
            exact ⟨rfl, HF.out⟩
end Go.Proofs.Ytkooogllajmkeaa
