/- Parts Hq Hr Hs, put together. -/
import Derived.Test.YtkooogllajmkeaaMo16
import Derived.Test.YtkooogllajmkeaaMo19
import Derived.Test.YtkooogllajmkeaaMo20
/- All words of a play's segments (24). -/
namespace Go.Proofs.Ytkooogllajmkeaa
open Go.RowKit
set_option pp.deepTerms true
attribute [local go_sem ↓] Go.wp_at_zero Go.wp_at_succ
theorem get_sep {w W : World} {F : List Asr} {p : Nat} {S : Sp} (h : Sep w (spA p S :: F) W) (a : Int) : Calls Try.prog 19 #[.pointer (some ⟨p, 0, none⟩), .int .i64 a] W fun e w' => Sep w (spA p S :: F) w' ∧ e = .returned (.tuple #[.agg #[.int .i64 (S.get a).1.1, .int .i64 (S.get a).1.2], .int .i64 (S.get a).2]) := by
  obtain ⟨fs, hf⟩ := h.sp
  refine (get_spc hf a).mono ?_
  rintro e w' ⟨hb, rfl⟩
  exact ⟨h.keep hb, rfl⟩
theorem rget_sep {w W : World} {F : List Asr} {p : Nat} {S : Sp} (h : Sep w (rsA p S :: F) W) (a : Int) (ha : I64 a) : Calls Try.prog 52 #[.pointer (some ⟨p, 0, none⟩), .int .i64 a] W fun e w' => Sep w (rsA p S :: F) w' ∧ e = .returned (.tuple #[.agg #[.int .i64 (S.get a).1.1, .int .i64 (S.get a).1.2], .int .i64 (S.get a).2]) := by
  obtain ⟨fs, hf⟩ := h.rs
  refine (rget_spc hf a ha).mono ?_
  rintro e w' ⟨hb, rfl⟩
  exact ⟨h.keep hb, rfl⟩
set_option maxRecDepth 100000 in
set_option maxHeartbeats 4000000 in
theorem ww2 {w W : World} {x p b pr q B4 nn cc : Nat} {sz ca t1 t2 : Int} {S : Sp} {L : Lk} {aa : Option Addr} {xs : List (Int × Int)} {Q : Exit → Act → World → Prop} {u1 u2 u3 u6 u7 u8 u9 u10 u11 u12 u13 u14 u15 u16 u17 u18 u19 u20 u21 u22 u23 u24 u25 u26 u27 u28 u29 u30 u31 u32 u33 u34 u35 u36 u37 u38 u39 u40 u41 u42 u43 u44 u45 u46 u47 u48 u49 u50 u51 u52 u53 u54 u55 u56 u57 u58 u59 u60 u61 u62 u63 u64 u65 : Value}
    (ht : 1 ≤ t1 ∧ 1 ≤ t2 ∧ t2 ≤ 1048576 ∧ t1 ≤ 1000000000000) (HS : Hid (Sep w [bx B4 (.cells #[.int .i64 t1, .int .i64 t2] 39), rw_ 0 39 2 (.slice aa nn cc) nn (wcells xs), spA p S, lkA b p sz ca L, rsA pr S, qlA q pr sz ca L, bx x (pl24 p b pr q)] W))
    (hQ : ∀ (c2 c5 c6 c7 c8 c9 c26 c27 c28 c29 c30 c31 c32 c33 c34 c35 c36 c37 c38 c39 c40 c41 c42 c43 c44 c45 c46 c47 c48 c49 c50 c51 c52 c53 c54 c55 c56 c57 c58 c59 c60 c61 c62 c63 c64 : Value) (W' : World), Sep w [bx B4 (.cells #[.int .i64 t1, .int .i64 t2] 39), rw_ 0 39 2 (.slice aa nn cc) nn (wcells xs), spA p S, lkA b p sz ca L, rsA pr S, qlA q pr sz ca L, bx x (pl24 p b pr q)] W' → Q .normal ⟨#[.pointer (some ⟨x, 0, none⟩), u1, c2, u3, .pointer (some ⟨B4, 0, none⟩), c5, c6, c7, c8, c9, u10, u11, u12, u13, u14, u15, u16, u17, u18, u19, u20, u21, u22, u23, u24, u25, c26, c27, c28, c29, c30, c31, c32, c33, c34, c35, c36, c37, c38, c39, c40, c41, c42, c43, c44, c45, c46, c47, c48, c49, c50, c51, c52, c53, c54, c55, c56, c57, c58, c59, c60, c61, c62, c63, c64, u65], []⟩ W') :
    Code.wp Try.prog (pieceOf (Try.f38.body.getD .skip) [1, 0, 1, 0, 0, 1, 1, 0, 0, 1, 1]) Q ⟨#[.pointer (some ⟨x, 0, none⟩), u1, u2, u3, .pointer (some ⟨B4, 0, none⟩), .int .i64 0, u6, u7, u8, u9, u10, u11, u12, u13, u14, u15, u16, u17, u18, u19, u20, u21, u22, u23, u24, u25, u26, u27, u28, u29, u30, u31, u32, u33, u34, u35, u36, u37, u38, u39, u40, u41, u42, u43, u44, u45, u46, u47, u48, u49, u50, u51, u52, u53, u54, u55, u56, u57, u58, u59, u60, u61, u62, u63, u64, u65], []⟩ W := by
  have HQ := Hid.mk hQ
  clear hQ
  obtain ⟨ht1, ht2, ht3, ht4⟩ := ht
  conv => arg 2; whnf
  go_wp2_with fail
  go_loopw [5] (fun i wr => ∃ k : Nat, i = .int .i64 k ∧ (k : Int) ≤ t2 ∧ k ≤ 400 ∧ Hid (Sep w [bx B4 (.cells #[.int .i64 t1, .int .i64 t2] 39), rw_ 0 39 2 (.slice aa nn cc) nn (wcells xs), spA p S, lkA b p sz ca L, rsA pr S, qlA q pr sz ca L, bx x (pl24 p b pr q)] wr)) (fun i _ => 400 - (intOf i).toNat)
  case atStart => exact ⟨0, rfl, by omega, by omega, HS⟩
  case round =>
    clear HS
    obtain ⟨k, rfl, hk, hk3, HS⟩ := hrel
    have e1 := HS.out.cell (b := B4) (j := 1) (List.Mem.head _) rfl
    by_cases hkt : (k : Int) < t2 ∧ k < 400
    · obtain ⟨hk1, hk2⟩ := hkt
      have HAT : Hid (I64 (t1 + (k : Int))) := by unfold Hid I64; omega
      have wk : IntKind.i64.wrap (t1 + (k : Int)) = t1 + (k : Int) := by rw [IntKind.wrap_i64]; omega
      have z1 : decide ((k : Int) < t2) = true := by simpa using hk1
      have z2 : decide ((k : Int) < 400) = true := by simp; omega
      by_cases h3 : 400 < t2
      all_goals
        go_upto_region 7 with (fail)
        go_cut [6, 7] from 26 to 64 (fun r e W' => Hid (BoxR w 29 (S.get (t1 + (k : Int))).1.1 (S.get (t1 + (k : Int))).1.2 (S.get (t1 + (k : Int))).2 [spA p S, bx B4 (.cells #[.int .i64 t1, .int .i64 t2] 39), rw_ 0 39 2 (.slice aa nn cc) nn (wcells xs), lkA b p sz ca L, rsA pr S, qlA q pr sz ca L, bx x (pl24 p b pr q)] r e W'))
        case first =>
          have b0 := (((((((((HS.out.alloc (.cells #[.int .i64 0, .int .i64 0] 29)).drew.pick 7 rfl).pick 7 rfl).pick 7 rfl).pick 7 rfl).pick 6 rfl).pick 6 rfl).pick 6 rfl).pick 7 rfl)
          have c0 := (((((((HS.out.drew.pick 6 rfl).pick 6 rfl).pick 6 rfl).pick 6 rfl).pick 5 rfl).pick 5 rfl).pick 6 rfl)
          have k0 := HS.out.cell (b := x) (j := 0) (List.Mem.tail _ (List.Mem.tail _ (List.Mem.tail _ (List.Mem.tail _ (List.Mem.tail _ (List.Mem.tail _ (List.Mem.head _))))))) rfl
          have k1 := HS.out.cell (b := B4) (j := 0) (List.Mem.head _) rfl
          have hl0 := HS.out.lt (b := x) (List.Mem.tail _ (List.Mem.tail _ (List.Mem.tail _ (List.Mem.tail _ (List.Mem.tail _ (List.Mem.tail _ (List.Mem.head _)))))))
          have hl1 := HS.out.lt (b := B4) (List.Mem.head _)
          have hq0 : (⟨wr.heap.size, 0, none⟩ : Addr).block ≠ (⟨x, 0, none⟩ : Addr).block := by simp; omega
          have hq1 : (⟨wr.heap.size, 0, none⟩ : Addr).block ≠ (⟨B4, 0, none⟩ : Addr).block := by simp; omega
          clear hl0 hl1
          go_region_held3 (fun W' => W'.cell? ⟨x, 0, none⟩ = some (.pointer (some ⟨p, 0, none⟩)) ∧ W'.cell? ⟨B4, 0, none⟩ = some (.int .i64 t1)) (first | exact ⟨set_far (set_far f0 hq0) hq0, set_far (set_far f1 hq1) hq1⟩ | exact ⟨alloc_cell f0, alloc_cell f1⟩ | exact ⟨f0, f1⟩ | exact ⟨k0, k1⟩ | exact ⟨alloc_cell k0, alloc_cell k1⟩) (first | (go_at_call 19; refine (get_sep (w := w) (F := [bx wr.heap.size (.cells #[.int .i64 0, .int .i64 0] 29), bx B4 (.cells #[.int .i64 t1, .int .i64 t2] 39), rw_ 0 39 2 (.slice aa nn cc) nn (wcells xs), lkA b p sz ca L, rsA pr S, qlA q pr sz ca L, bx x (pl24 p b pr q)]) b0 (t1 + (k : Int))).mono ?_; rintro e wx ⟨hx, rfl⟩; have f0 := hx.cell (b := x) (j := 0) (List.Mem.tail _ (List.Mem.tail _ (List.Mem.tail _ (List.Mem.tail _ (List.Mem.tail _ (List.Mem.tail _ (List.Mem.tail _ (List.Mem.head _)))))))) rfl; have f1 := hx.cell (b := B4) (j := 0) (List.Mem.tail _ (List.Mem.tail _ (List.Mem.head _))) rfl; have z0 := hx.cell (b := wr.heap.size) (j := 0) (List.Mem.tail _ (List.Mem.head _)) rfl; have z1 := hx.cell (b := wr.heap.size) (j := 1) (List.Mem.tail _ (List.Mem.head _)) rfl; have z2 := hx.free (b := wr.heap.size) (List.Mem.tail _ (List.Mem.head _)) 0; have z3 := hx.free (b := wr.heap.size) (List.Mem.tail _ (List.Mem.head _)) 1; have HG : Hid (BoxR w 29 (S.get (t1 + (k : Int))).1.1 (S.get (t1 + (k : Int))).1.2 (S.get (t1 + (k : Int))).2 [spA p S, bx B4 (.cells #[.int .i64 t1, .int .i64 t2] 39), rw_ 0 39 2 (.slice aa nn cc) nn (wcells xs), lkA b p sz ca L, rsA pr S, qlA q pr sz ca L, bx x (pl24 p b pr q)] (.pointer (some ⟨wr.heap.size, 0, none⟩)) (.int .i64 (S.get (t1 + (k : Int))).2) _) := ⟨_, rfl, rfl, ((hx.pick 1 rfl).store 0 (.int .i64 (S.get (t1 + (k : Int))).1.1)).store 1 (.int .i64 (S.get (t1 + (k : Int))).1.2)⟩) | (go_at_call 19; refine (get_sep (w := w) (F := [bx B4 (.cells #[.int .i64 t1, .int .i64 t2] 39), rw_ 0 39 2 (.slice aa nn cc) nn (wcells xs), lkA b p sz ca L, rsA pr S, qlA q pr sz ca L, bx x (pl24 p b pr q)]) c0 (t1 + (k : Int))).mono ?_; rintro e wx ⟨hx, rfl⟩; have f0 := hx.cell (b := x) (j := 0) (List.Mem.tail _ (List.Mem.tail _ (List.Mem.tail _ (List.Mem.tail _ (List.Mem.tail _ (List.Mem.tail _ (List.Mem.head _))))))) rfl; have f1 := hx.cell (b := B4) (j := 0) (List.Mem.tail _ (List.Mem.head _)) rfl; have HG : Hid (BoxR w 29 (S.get (t1 + (k : Int))).1.1 (S.get (t1 + (k : Int))).1.2 (S.get (t1 + (k : Int))).2 [spA p S, bx B4 (.cells #[.int .i64 t1, .int .i64 t2] 39), rw_ 0 39 2 (.slice aa nn cc) nn (wcells xs), lkA b p sz ca L, rsA pr S, qlA q pr sz ca L, bx x (pl24 p b pr q)] (.pointer (some ⟨wx.heap.size, 0, none⟩)) (.int .i64 (S.get (t1 + (k : Int))).2) _) := ⟨_, rfl, rfl, hx.alloc _⟩))
          all_goals
            go_wp2_with fail
            go_meet
            case rel => exact HG.out
        case rest =>
          obtain ⟨B6, rfl, rfl, h6⟩ := hcut.out
          have H6 := Hid.mk h6
          clear hcut h6 HS e1
          go_upto_region 8 with (fail)
          go_cut [8, 9] from 26 to 64 (fun r e W' => Hid (BoxR w 29 (S.get (t1 + (k : Int))).1.1 (S.get (t1 + (k : Int))).1.2 (S.get (t1 + (k : Int))).2 [rsA pr S, bx B6 (.cells #[.int .i64 (S.get (t1 + (k : Int))).1.1, .int .i64 (S.get (t1 + (k : Int))).1.2] 29), spA p S, bx B4 (.cells #[.int .i64 t1, .int .i64 t2] 39), rw_ 0 39 2 (.slice aa nn cc) nn (wcells xs), lkA b p sz ca L, qlA q pr sz ca L, bx x (pl24 p b pr q)] r e W'))
          case first =>
            have b0 := ((((((((((H6.out.alloc (.cells #[.int .i64 0, .int .i64 0] 29)).drew.pick 8 rfl).pick 8 rfl).pick 7 rfl).pick 7 rfl).pick 7 rfl).pick 7 rfl).pick 7 rfl).pick 7 rfl).pick 8 rfl)
            have c0 := ((((((((H6.out.drew.pick 7 rfl).pick 7 rfl).pick 6 rfl).pick 6 rfl).pick 6 rfl).pick 6 rfl).pick 6 rfl).pick 7 rfl)
            have k0 := H6.out.cell (b := x) (j := 2) (List.Mem.tail _ (List.Mem.tail _ (List.Mem.tail _ (List.Mem.tail _ (List.Mem.tail _ (List.Mem.tail _ (List.Mem.tail _ (List.Mem.head _)))))))) rfl
            have k1 := H6.out.cell (b := B4) (j := 0) (List.Mem.tail _ (List.Mem.tail _ (List.Mem.head _))) rfl
            have hl0 := H6.out.lt (b := x) (List.Mem.tail _ (List.Mem.tail _ (List.Mem.tail _ (List.Mem.tail _ (List.Mem.tail _ (List.Mem.tail _ (List.Mem.tail _ (List.Mem.head _))))))))
            have hl1 := H6.out.lt (b := B4) (List.Mem.tail _ (List.Mem.tail _ (List.Mem.head _)))
            have hq0 : (⟨wc.heap.size, 0, none⟩ : Addr).block ≠ (⟨x, 2, none⟩ : Addr).block := by simp; omega
            have hq1 : (⟨wc.heap.size, 0, none⟩ : Addr).block ≠ (⟨B4, 0, none⟩ : Addr).block := by simp; omega
            clear hl0 hl1
            go_region_held3 (fun W' => W'.cell? ⟨x, 2, none⟩ = some (.pointer (some ⟨pr, 0, none⟩)) ∧ W'.cell? ⟨B4, 0, none⟩ = some (.int .i64 t1)) (first | exact ⟨set_far (set_far f0 hq0) hq0, set_far (set_far f1 hq1) hq1⟩ | exact ⟨alloc_cell f0, alloc_cell f1⟩ | exact ⟨f0, f1⟩ | exact ⟨k0, k1⟩ | exact ⟨alloc_cell k0, alloc_cell k1⟩) (first | (go_at_call 52; refine (rget_sep (w := w) (F := [bx wc.heap.size (.cells #[.int .i64 0, .int .i64 0] 29), bx B6 (.cells #[.int .i64 (S.get (t1 + (k : Int))).1.1, .int .i64 (S.get (t1 + (k : Int))).1.2] 29), spA p S, bx B4 (.cells #[.int .i64 t1, .int .i64 t2] 39), rw_ 0 39 2 (.slice aa nn cc) nn (wcells xs), lkA b p sz ca L, qlA q pr sz ca L, bx x (pl24 p b pr q)]) b0 (t1 + (k : Int)) HAT.out).mono ?_; rintro e wx ⟨hx, rfl⟩; have f0 := hx.cell (b := x) (j := 2) (List.Mem.tail _ (List.Mem.tail _ (List.Mem.tail _ (List.Mem.tail _ (List.Mem.tail _ (List.Mem.tail _ (List.Mem.tail _ (List.Mem.tail _ (List.Mem.head _))))))))) rfl; have f1 := hx.cell (b := B4) (j := 0) (List.Mem.tail _ (List.Mem.tail _ (List.Mem.tail _ (List.Mem.tail _ (List.Mem.head _))))) rfl; have z0 := hx.cell (b := wc.heap.size) (j := 0) (List.Mem.tail _ (List.Mem.head _)) rfl; have z1 := hx.cell (b := wc.heap.size) (j := 1) (List.Mem.tail _ (List.Mem.head _)) rfl; have z2 := hx.free (b := wc.heap.size) (List.Mem.tail _ (List.Mem.head _)) 0; have z3 := hx.free (b := wc.heap.size) (List.Mem.tail _ (List.Mem.head _)) 1; have HG : Hid (BoxR w 29 (S.get (t1 + (k : Int))).1.1 (S.get (t1 + (k : Int))).1.2 (S.get (t1 + (k : Int))).2 [rsA pr S, bx B6 (.cells #[.int .i64 (S.get (t1 + (k : Int))).1.1, .int .i64 (S.get (t1 + (k : Int))).1.2] 29), spA p S, bx B4 (.cells #[.int .i64 t1, .int .i64 t2] 39), rw_ 0 39 2 (.slice aa nn cc) nn (wcells xs), lkA b p sz ca L, qlA q pr sz ca L, bx x (pl24 p b pr q)] (.pointer (some ⟨wc.heap.size, 0, none⟩)) (.int .i64 (S.get (t1 + (k : Int))).2) _) := ⟨_, rfl, rfl, ((hx.pick 1 rfl).store 0 (.int .i64 (S.get (t1 + (k : Int))).1.1)).store 1 (.int .i64 (S.get (t1 + (k : Int))).1.2)⟩) | (go_at_call 52; refine (rget_sep (w := w) (F := [bx B6 (.cells #[.int .i64 (S.get (t1 + (k : Int))).1.1, .int .i64 (S.get (t1 + (k : Int))).1.2] 29), spA p S, bx B4 (.cells #[.int .i64 t1, .int .i64 t2] 39), rw_ 0 39 2 (.slice aa nn cc) nn (wcells xs), lkA b p sz ca L, qlA q pr sz ca L, bx x (pl24 p b pr q)]) c0 (t1 + (k : Int)) HAT.out).mono ?_; rintro e wx ⟨hx, rfl⟩; have f0 := hx.cell (b := x) (j := 2) (List.Mem.tail _ (List.Mem.tail _ (List.Mem.tail _ (List.Mem.tail _ (List.Mem.tail _ (List.Mem.tail _ (List.Mem.tail _ (List.Mem.head _)))))))) rfl; have f1 := hx.cell (b := B4) (j := 0) (List.Mem.tail _ (List.Mem.tail _ (List.Mem.tail _ (List.Mem.head _)))) rfl; have HG : Hid (BoxR w 29 (S.get (t1 + (k : Int))).1.1 (S.get (t1 + (k : Int))).1.2 (S.get (t1 + (k : Int))).2 [rsA pr S, bx B6 (.cells #[.int .i64 (S.get (t1 + (k : Int))).1.1, .int .i64 (S.get (t1 + (k : Int))).1.2] 29), spA p S, bx B4 (.cells #[.int .i64 t1, .int .i64 t2] 39), rw_ 0 39 2 (.slice aa nn cc) nn (wcells xs), lkA b p sz ca L, qlA q pr sz ca L, bx x (pl24 p b pr q)] (.pointer (some ⟨wx.heap.size, 0, none⟩)) (.int .i64 (S.get (t1 + (k : Int))).2) _) := ⟨_, rfl, rfl, hx.alloc _⟩))
            all_goals
              go_wp2_with fail
              go_meet
              case rel => exact HG.out
          case rest =>
            obtain ⟨B8, rfl, rfl, h8⟩ := hcut.out
            have v0 := h8.cell (b := B8) (j := 0) (List.Mem.head _) rfl
            have v1 := h8.cell (b := B8) (j := 1) (List.Mem.head _) rfl
            have v2 := h8.cell (b := B6) (j := 0) (List.Mem.tail _ (List.Mem.tail _ (List.Mem.head _))) rfl
            have v3 := h8.cell (b := B6) (j := 1) (List.Mem.tail _ (List.Mem.tail _ (List.Mem.head _))) rfl
            have HF : Hid (Sep w [bx B4 (.cells #[.int .i64 t1, .int .i64 t2] 39), rw_ 0 39 2 (.slice aa nn cc) nn (wcells xs), spA p S, lkA b p sz ca L, rsA pr S, qlA q pr sz ca L, bx x (pl24 p b pr q)] _) := ((((((((h8.lose 2).tl.pick 6 rfl).pick 6 rfl).pick 2 rfl).pick 6 rfl).pick 4 rfl).pick 6 rfl).pick 6 rfl)
            clear hcut h8 H6
            go_wp2_with fail
            exact ⟨⟨k + 1, by go_num, by omega, by omega, HF.out⟩, by simp [intOf]; omega⟩
    · by_cases h3 : 400 < t2
      · have z1 : decide ((k : Int) < 400) = false := by simp; omega
        go_wp2_with fail
        exact HQ.out _ _ _ _ _ _ _ _ _ _ _ _ _ _ _ _ _ _ _ _ _ _ _ _ _ _ _ _ _ _ _ _ _ _ _ _ _ _ _ _ _ _ _ _ _ _ HS.out
      · have z1 : decide ((k : Int) < t2) = false := by simp; omega
        go_wp2_with fail
        exact HQ.out _ _ _ _ _ _ _ _ _ _ _ _ _ _ _ _ _ _ _ _ _ _ _ _ _ _ _ _ _ _ _ _ _ _ _ _ _ _ _ _ _ _ _ _ _ _ HS.out
end Go.Proofs.Ytkooogllajmkeaa
/- All words of a play's segments (24): the whole. -/
namespace Go.Proofs.Ytkooogllajmkeaa
open Go.RowKit
set_option pp.deepTerms true
attribute [local go_sem ↓] Go.wp_at_zero Go.wp_at_succ
set_option maxRecDepth 100000 in
set_option maxHeartbeats 4000000 in
theorem words24_any {w W : World} {x p b pr q k : Nat} {sz ca : Int} {S : Sp} {L : Lk} (h : StP w x p b pr q sz ca S L W) (hI : PInv S L k) (ok : Spok S) (hk : k ≤ 1000) :
    Calls Try.prog 38 #[.pointer (some ⟨x, 0, none⟩)] W fun e w' => e = .returned (.bool true) ∧ StP w x p b pr q sz ca S L w' := by
  have hll : L.live.length ≤ 1000000 := by have := hI.few; omega
  have hkl : L.kept.length ≤ 1000000 := by have := hI.few; omega
  have hlk : L.live.length + L.kept.length ≤ 4194304 := by omega
  have HK : Hid (L.live.length ≤ 1000000 ∧ L.kept.length ≤ 1000000 ∧ L.live.length + L.kept.length ≤ 4194304) := ⟨hll, hkl, hlk⟩
  have HB : Hid (∀ y ∈ L.live ++ L.kept, 1 ≤ y.1 ∧ 1 ≤ y.2 ∧ y.2 ≤ 1048576 ∧ y.1 ≤ 1000000000000) := fun y hy => by
    have h1 := hI.reg ok hy
    have h2 := hI.last
    omega
  have H0 : Hid (Sep w [spA p S, lkA b p sz ca L, rsA pr S, qlA q pr sz ca L, bx x (pl24 p b pr q)] W) := h
  have k1 := H0.out.cell (b := x) (j := 1) (List.Mem.tail _ (List.Mem.tail _ (List.Mem.tail _ (List.Mem.tail _ (List.Mem.head _))))) rfl
  have c0 := H0.out.drew
  clear h hI ok hll hkl hlk
  go_enter Try.func38, Try.ntmps38
  go_upto_region 1 with (fail)
  go_region_held3 (fun W' => W'.cell? ⟨x, 1, none⟩ = some (.pointer (some ⟨b, 0, none⟩))) (first | exact f2 | exact f1 | exact f0 | exact k1) (first | (go_at_call 35; refine (live_sep (w := w) (F := [rsA pr S, qlA q pr sz ca L, bx x (pl24 p b pr q)]) c0 HK.out.1).mono ?_; rintro e wx ⟨al, cl, rfl, hx, -⟩; have f0 := hx.cell (b := x) (j := 1) (List.Mem.tail _ (List.Mem.tail _ (List.Mem.tail _ (List.Mem.tail _ (List.Mem.tail _ (List.Mem.head _)))))) rfl) | (go_at_call 34; refine (kept_sep (w := w) (F := [rw_ 0 39 2 (.slice al L.live.length cl) L.live.length (wcells L.live), rsA pr S, qlA q pr sz ca L, bx x (pl24 p b pr q)]) ((((((hx.pick 5 rfl).pick 5 rfl).pick 5 rfl).pick 3 rfl).pick 5 rfl).pick 5 rfl) HK.out.2.1).mono ?_; rintro e wy ⟨ak, ck, rfl, hy, -⟩; have f1 := hy.cell (b := x) (j := 1) (List.Mem.tail _ (List.Mem.tail _ (List.Mem.tail _ (List.Mem.tail _ (List.Mem.tail _ (List.Mem.tail _ (List.Mem.head _))))))) rfl; have hA := (((((((hy.pick 6 rfl).pick 6 rfl).pick 6 rfl).pick 5 rfl).pick 5 rfl).pick 5 rfl).pick 6 rfl); have ho := hA.owns (List.Mem.head _); have hr := Rd.of_row (hA.owns (base := 0) (T := 39) (n := 2) (v := .slice ak L.kept.length ck) (m := L.kept.length) (xs := wcells L.kept) (List.Mem.tail _ (List.Mem.head _))) rfl) | (refine if_mk (by rfl) ?_; refine wp_append_rd _ _ (by rfl) 0 (.slice al L.live.length cl) (.slice ak L.kept.length ck) (xs := L.live) (ys := L.kept) (by rfl) (by rfl) ho hr HK.out.2.2 (Nat.zero_le _) ?_; intro vv ww hown hg hat; obtain ⟨nn, hnn⟩ : ∃ nn, (L.live ++ L.kept).length = nn := ⟨_, rfl⟩; rw [hnn] at hown; obtain ⟨aa, cc, rfl⟩ := own_shape hown; have HN0 := Hid.mk hnn; clear hnn; have hz := hA.grown' hown hg hat; have f2 := hz.cell (b := x) (j := 1) (List.Mem.tail _ (List.Mem.tail _ (List.Mem.tail _ (List.Mem.tail _ (List.Mem.tail _ (List.Mem.tail _ (List.Mem.head _))))))) rfl))
  have HZ : Hid (Sep w [rw_ 0 39 2 (.slice aa nn cc) nn (wcells (L.live ++ L.kept)), spA p S, lkA b p sz ca L, rsA pr S, qlA q pr sz ca L, bx x (pl24 p b pr q)] ww) := (((((((hz.lose 1).pick 5 rfl).pick 5 rfl).pick 5 rfl).pick 5 rfl).pick 5 rfl).pick 5 rfl)
  clear hz hg hat hown hr ho hA f0 f1 f2 hx hy c0 H0 k1
  obtain ⟨xs, hxs⟩ : ∃ xs, L.live ++ L.kept = xs := ⟨_, rfl⟩
  have hn0 : nn ≤ 4194304 := by have := HK.out.2.2; rw [← HN0.out, List.length_append]; exact this
  rw [hxs] at HZ HB HN0
  have HNN : Hid (xs.length = nn) := HN0
  clear hxs HN0
  go_wp2_with fail
  go_loopw [22] (fun i wr => ∃ j : Nat, i = .int .i64 j ∧ j ≤ nn ∧ Hid (Sep w [rw_ 0 39 2 (.slice aa nn cc) nn (wcells xs), spA p S, lkA b p sz ca L, rsA pr S, qlA q pr sz ca L, bx x (pl24 p b pr q)] wr)) (fun i _ => nn - (intOf i).toNat)
  case atStart => exact ⟨0, rfl, by omega, HZ⟩
  case round =>
    clear HZ
    obtain ⟨j, rfl, hj, HS⟩ := hrel
    by_cases hlt : j < nn
    · have hj1 : j < xs.length := by rw [HNN.out]; exact hlt
      have hrow := HS.out.owns (List.Mem.head _)
      obtain ⟨g, c', ev⟩ := row_shape hrow (by omega)
      simp only [Value.slice.injEq, true_and] at ev
      obtain ⟨rfl, rfl⟩ := ev
      have e0 := row_cell hrow (j := j * 2) (v := .int .i64 xs[j].1) (wcells_fst hj1)
      have e1 := row_cell hrow (j := j * 2 + 1) (v := .int .i64 xs[j].2) (wcells_snd hj1)
      have hb := HB.out _ (List.getElem_mem hj1)
      obtain ⟨⟨t1, t2⟩, hy⟩ : ∃ y, xs[j] = y := ⟨_, rfl⟩
      rw [hy] at e0 e1 hb
      simp only at e0 e1 hb
      have HT := Hid.mk hb
      have HA := Hid.mk (HS.out.alloc (.cells #[.int .i64 t1, .int .i64 t2] 39))
      clear hrow hj1 hy hb HS
      go_upto_block 2 with (fail)
      refine ww2 (t1 := t1) (t2 := t2) HT.out HA ?_
      intro c2 c5 c6 c7 c8 c9 c26 c27 c28 c29 c30 c31 c32 c33 c34 c35 c36 c37 c38 c39 c40 c41 c42 c43 c44 c45 c46 c47 c48 c49 c50 c51 c52 c53 c54 c55 c56 c57 c58 c59 c60 c61 c62 c63 c64 W' h
      have HW := Hid.mk h.tl
      clear h
      go_wp2_with fail
      exact ⟨⟨j + 1, by go_num, by omega, HW.out⟩, by simp [intOf]; omega⟩
    · obtain rfl : j = nn := by omega
      have HF := Hid.mk HS.out.tl
      clear HS
      go_wp2_with fail
      go_ret
      exact ⟨rfl, HF.out⟩
end Go.Proofs.Ytkooogllajmkeaa
/- SegmentPlays' walk. -/
namespace Go.Proofs.Ytkooogllajmkeaa
open Go.RowKit
set_option pp.deepTerms true
attribute [local go_sem ↓] Go.wp_at_zero Go.wp_at_succ
def BegunS (s c : Int) (w : World) (e : Ending) (w' : World) : Prop :=
  (segOk s c = true ∧ ∃ x p b pr q, e = .returned (.tuple #[.pointer (some ⟨x, 0, none⟩), .bool true]) ∧ (w.heap.size ≤ x ∧ w.heap.size ≤ q ∧ w.heap.size ≤ pr) ∧ Seg w p b s c ⟨[], 0⟩ ⟨[], []⟩ [(x, pl24 p b pr q), (q, qlo pr s c), (pr, rs0)] w') ∨
  (segOk s c = false ∧ ∃ x vp vr, e = .returned (.tuple #[.pointer (some ⟨x, 0, none⟩), .bool true]) ∧ Below w.heap.size w w' ∧ w'.heap[x]? = some (.cells #[vp, .pointer none, vr, .pointer none] 78 (0, 0)))
set_option maxRecDepth 100000 in
set_option maxHeartbeats 2000000 in
theorem begin24_sep (s c : Int) (w : World) : Calls Try.prog 30 #[.agg #[.int .i64 s, .int .i64 c]] w (BegunS s c w) := by
  have hB : Below w.heap.size w (w.alloc (.cells #[.int .i64 s, .int .i64 c] 70)) := (Below.refl _ _).alloc (Nat.le_refl _) _
  have c0 : (w.alloc (.cells #[.int .i64 s, .int .i64 c] 70)).cell? ⟨w.heap.size, 0, none⟩ = some (.int .i64 s) := by simp
  have c1 : (w.alloc (.cells #[.int .i64 s, .int .i64 c] 70)).cell? ⟨w.heap.size, 1, none⟩ = some (.int .i64 c) := by simp
  obtain ⟨W1, hW1⟩ : ∃ W1, w.alloc (.cells #[.int .i64 s, .int .i64 c] 70) = W1 := ⟨_, rfl⟩
  have HW1 := Hid.mk hW1
  have hs1 : w.heap.size ≤ W1.heap.size := by rw [← hW1]; simp
  rw [hW1] at hB c0 c1
  have hS := Spc.zero W1
  have hb2 := (Below.refl (W1.alloc (.cells #[.slice none 0 0, .int .i64 0] 27)).heap.size (W1.alloc (.cells #[.slice none 0 0, .int .i64 0] 27))).alloc (Nat.le_refl _) rs0
  have hS2 := hS.below hb2
  have hR2 := heap_alloc_new (W1.alloc (.cells #[.slice none 0 0, .int .i64 0] 27)) rs0
  have e0 := alloc_cell (o := rs0) (alloc_cell (o := .cells #[.slice none 0 0, .int .i64 0] 27) c0)
  have e1 := alloc_cell (o := rs0) (alloc_cell (o := .cells #[.slice none 0 0, .int .i64 0] 27) c1)
  have hB3 : Below w.heap.size w ((W1.alloc (.cells #[.slice none 0 0, .int .i64 0] 27)).alloc rs0) := (hB.alloc hB.size _).alloc (by have := hB.size; simp; omega) _
  simp only [World.size_alloc] at hR2
  obtain ⟨W3, hW3⟩ : ∃ W3, (W1.alloc (.cells #[.slice none 0 0, .int .i64 0] 27)).alloc rs0 = W3 := ⟨_, rfl⟩
  have HW3 := Hid.mk hW3
  have hs3 : W1.heap.size + 2 ≤ W3.heap.size := by rw [← hW3]; simp
  rw [hW3] at hS2 hR2 e0 e1 hB3
  clear hb2 hS hW1 hW3 c0 c1 hB
  have HW13 : Hid (((w.alloc (.cells #[.int .i64 s, .int .i64 c] 70)).alloc (.cells #[.slice none 0 0, .int .i64 0] 27)).alloc (.cells #[.slice none 0 0, .slice none 0 0, .int .i64 0] 56) = W3 ∧ w.heap.size + 1 = W1.heap.size) := by
    refine ⟨?_, ?_⟩
    · rw [HW1.out]; exact HW3.out
    · rw [← HW1.out]; simp
  go_enter Try.func30, Try.ntmps30
  go_wp2_with fail
  rw [HW13.out.1, HW13.out.2]
  refine (sNew_any W1.heap.size s c W3).mono ?_
  rintro e w1 ⟨hb1, hq⟩
  have f0 := keep_be hb1 e0
  have f1 := keep_be hb1 e1
  have hS4 := hS2.below hb1
  have hR4 := below_at hb1 hR2 (lt_of_heap hR2)
  have hB4 := hB3.trans (hb1.mono hB3.size)
  have HQN := Hid.mk (qNew_any (W1.heap.size + 1) s c w1)
  rcases hq with ⟨hk, b, hbb, hL, rfl⟩ | ⟨hk, rfl⟩
  · have hG : Seg w W1.heap.size b s c ⟨[], 0⟩ ⟨[], []⟩ [(W1.heap.size + 1, rs0)] w1 := by
      refine ⟨[W1.heap.size], [b], hS4, hL, by simp; omega, by simp; omega, by simp; omega, hB4, ?_⟩
      intro x hx
      simp only [List.mem_singleton] at hx
      subst hx
      exact ⟨by simp, by simp; omega, hR4⟩
    have HG := Hid.mk hG
    have HK := Hid.mk hk
    clear hG hS4 hR4 hL hk hS2 hR2 e0 e1 hb1
    go_wp2_with fail
    refine HQN.out.mono ?_
    rintro e w2 ⟨hb2, hq⟩
    rw [HK.out] at hq
    rcases hq with ⟨-, q, hqq, hql, rfl⟩ | ⟨q, -⟩
    · have hG2 := (HG.out.grow hb2 hqq hql).alloc (pl24 W1.heap.size b (W1.heap.size + 1) q)
      have HG2 := Hid.mk hG2
      have HQQ : Hid (w.heap.size ≤ q ∧ w.heap.size ≤ W1.heap.size + 1) := ⟨Nat.le_trans hB4.size hqq, by omega⟩
      have hx : w.heap.size ≤ w2.heap.size := by have := hB4.size; have := hb2.size; omega
      clear hG2 hb2 hql f0 f1 HG
      go_wp2_with fail
      go_ret2
      exact .inl ⟨HK.out, _, _, _, _, _, rfl, ⟨hx, HQQ.out⟩, HG2.out⟩
    · cases q
  · have HK := Hid.mk hk
    clear hS4 hR4 hk hS2 hR2 e0 e1 hb1
    go_wp2_with fail
    refine HQN.out.mono ?_
    rintro e w2 ⟨hb2, hq⟩
    rw [HK.out] at hq
    rcases hq with ⟨q, -⟩ | ⟨-, rfl⟩
    · cases q
    · have hB5 := hB4.trans (hb2.mono hB4.size)
      have HX := Hid.mk (heap_alloc_new w2 (.cells #[.pointer (some ⟨W1.heap.size, 0, none⟩), .pointer none, .pointer (some ⟨W1.heap.size + 1, 0, none⟩), .pointer none] 78))
      clear hb2 f0 f1
      go_wp2_with fail
      go_ret2
      exact .inr ⟨HK.out, _, _, _, rfl, hB5.alloc hB5.size _, HX.out⟩
theorem stp_begin {w W : World} {x p b pr q : Nat} {s c : Int} (hx : w.heap.size ≤ x) (hq : w.heap.size ≤ q) (hp : w.heap.size ≤ pr) (h : Seg w p b s c ⟨[], 0⟩ ⟨[], []⟩ [(x, pl24 p b pr q), (q, qlo pr s c), (pr, rs0)] W) : StP w x p b pr q s c ⟨[], 0⟩ ⟨[], []⟩ W := by
  obtain ⟨fs, hs, h1, h2, h3, h4, h5, h6, h7⟩ := h
  have e1 := h7 _ (List.Mem.head _)
  have e2 := h7 _ (List.Mem.tail _ (List.Mem.head _))
  have e3 := h7 _ (List.Mem.tail _ (List.Mem.tail _ (List.Mem.head _)))
  simp only at e1 e2 e3
  have n1 : x ≠ q := by
    rintro rfl
    have := e1.2.2.symm.trans e2.2.2
    simp [pl24, qlo] at this
  have n2 : x ≠ pr := by
    rintro rfl
    have := e1.2.2.symm.trans e3.2.2
    simp [pl24, rs0] at this
  have n3 : q ≠ pr := by
    rintro rfl
    have := e2.2.2.symm.trans e3.2.2
    simp [qlo, rs0] at this
  have hR : (rsA pr ⟨[], 0⟩).holds W [pr] := by
    refine ⟨.slice none 0 0, .slice none 0 0, [], ⟨e3.2.2, World.ownsRow_nil _ _ _ _, World.ownsRow_nil _ _ _ _, by simp, by simp [rfoot, Value.ownBlock]⟩, ⟨by simp, by simp, by simp, by simp, by simp⟩, by intro r hr; simp at hr, rfl, by simp [rfoot, Value.ownBlock]⟩
  have hQ : (qlA q pr s c ⟨[], []⟩).holds W [q] := by
    refine ⟨.slice none 0 0, .slice none 0 0, [q], [], rfl, ⟨rfl, e2.2.2⟩, ⟨[], [], rfl, ⟨rfl, World.ownsRow_nil _ _ _ _⟩, ⟨rfl, World.ownsRow_nil _ _ _ _⟩, by simp⟩, by simp⟩
  refine ⟨h6, _, fs, _, rfl, h1, ⟨hs, _, rfl, h2, ⟨[pr], _, rfl, hR, ⟨[q], _, rfl, hQ, ⟨[x], [], rfl, ⟨rfl, e1.2.2⟩, rfl, by simp, by simpa using hx⟩, by simpa using Ne.symm n1, by simpa using hq⟩, by simpa using ⟨Ne.symm n3, Ne.symm n2⟩, by simpa using hp⟩, ?_, h5⟩, ?_, h4⟩
  · intro y hy c
    simp only [List.mem_append, List.mem_singleton, List.not_mem_nil, or_false] at c
    rcases c with rfl | rfl | rfl
    · exact e3.2.1 hy
    · exact e2.2.1 hy
    · exact e1.2.1 hy
  · intro y hy c
    simp only [List.mem_append, List.mem_singleton, List.not_mem_nil, or_false] at c
    rcases c with c | rfl | rfl | rfl
    · exact h3 y hy c
    · exact e3.1 hy
    · exact e2.1 hy
    · exact e1.1 hy
set_option maxRecDepth 100000 in
set_option maxHeartbeats 4000000 in
theorem plays24_any {w : World} {v : Value} {os : List (Int × Int)} (h : RdIn w v os) (s c : Int) : Calls Try.prog 8 #[.agg #[.int .i64 s, .int .i64 c], v] w fun e w' => e = .returned (.bool true) ∧ Below w.heap.size w w' := by
  obtain ⟨⟨ao, cap, rfl⟩, hml, hin0, h⟩ := h
  obtain ⟨n, hn⟩ : ∃ n, os.length = n := ⟨_, rfl⟩
  have HN := Hid.mk hn
  have HRd := Hid.mk h
  have HIn := Hid.mk hin0
  have hmx : n ≤ 9223372036854775807 := by unfold maxLen at hml; omega
  have hB : Below w.heap.size w (w.alloc (.cells #[.int .i64 s, .int .i64 c] 70)) := (Below.refl _ _).alloc (Nat.le_refl _) _
  have c0 : (w.alloc (.cells #[.int .i64 s, .int .i64 c] 70)).cell? ⟨w.heap.size, 0, none⟩ = some (.int .i64 s) := by simp
  have c1 : (w.alloc (.cells #[.int .i64 s, .int .i64 c] 70)).cell? ⟨w.heap.size, 1, none⟩ = some (.int .i64 c) := by simp
  rw [hn]
  clear h hin0 hn hml
  by_cases h60 : n ≤ 60
  · have z1 : decide ((n : Int) > 60) = false := by simp; omega
    go_enter Try.func8, Try.ntmps8
    go_wp2_with fail
    refine (begin24_sep s c _).mono ?_
    rintro e w2 (⟨hok, x, p, b, pr, q, rfl, ⟨hx1, hx2, hx3⟩, hG⟩ | ⟨hok, x, vp, vr, rfl, hb2, hX⟩)
    · have hS := stp_begin hx1 hx2 hx3 hG
      have hsz : 1 ≤ s ∧ s ≤ 65536 := by
        unfold segOk rangeB at hok
        simp at hok
        omega
      have k1 := Sep.cell hS (b := x) (j := 1) (List.Mem.tail _ (List.Mem.tail _ (List.Mem.tail _ (List.Mem.tail _ (List.Mem.head _))))) rfl
      have hbw : Below w.heap.size w w2 := hB.trans (hS.size.mono hB.size)
      have HS : Hid (∃ p b pr q S L, StP (w.alloc (.cells #[.int .i64 s, .int .i64 c] 70)) x p b pr q s c S L w2 ∧ PInv S L 0) := ⟨p, b, pr, q, _, _, hS, PInv.new⟩
      have HB := Hid.mk hB
      clear c0 c1 hG hS hx1 hx2 hx3 hok hbw hB
      go_wp2_with fail
      go_loopw [31] (fun i wr => ∃ k : Nat, i = .int .i64 k ∧ k ≤ n ∧ Hid (∃ p b pr q S L, StP (w.alloc (.cells #[.int .i64 s, .int .i64 c] 70)) x p b pr q s c S L wr ∧ PInv S L k)) (fun i _ => n - (intOf i).toNat)
      case atStart => exact ⟨0, rfl, by omega, HS⟩
      case round =>
        clear HS k1
        obtain ⟨k, rfl, hk, HS⟩ := hrel
        by_cases hlt : k < n
        · have h1 : k < os.length := by rw [HN.out]; exact hlt
          obtain ⟨ba, oa, ca, ev, hba, hcell⟩ := (HRd.out (by omega)).some (by omega)
          simp only [Value.slice.injEq] at ev
          obtain ⟨rfl, -, -⟩ := ev
          obtain ⟨a0, a1⟩ := hcell k h1
          have hIn := HIn.out _ (List.getElem_mem h1)
          obtain ⟨⟨kd, N⟩, hx⟩ : ∃ y, os[k] = y := ⟨_, rfl⟩
          rw [hx] at a0 a1 hIn
          simp only at a0 a1 hIn
          obtain ⟨p, b, pr, q, S, L, hS, hI⟩ := HS.out
          have hbw := HB.out.trans (hS.size.mono HB.out.size)
          have e0 := (hbw.cell (p := ⟨ba, oa + k * 2, none⟩) hba).trans a0
          have e1 := (hbw.cell (p := ⟨ba, oa + k * 2 + 1, none⟩) hba).trans a1
          have hA := (Sep.alloc hS (.cells #[.int .i64 kd, .int .i64 N] 80))
          have ok : Spok S := Sep.ok hS (List.Mem.head _)
          have HC := Hid.mk (do24_any (kd := kd) (N := N) (show StP _ x p b pr q s c S L _ from hA.tl) hI ok (by omega) hsz hIn.2)
          clear hx hcell hIn h1 hbw a0 a1 hba hS hI hA ok HS
          go_wp2_with fail
          refine HC.out.mono ?_
          rintro e w3 ⟨rfl, p3, b3, pr3, q3, S3, L3, hS3, hI3⟩
          have HC2 := Hid.mk (same24_any hS3 hI3 (Sep.ok hS3 (List.Mem.head _)) (by omega))
          have HI3 := Hid.mk hI3
          clear HC hS3 hI3 e0 e1
          go_wp2_with fail
          refine HC2.out.mono ?_
          rintro e w4 ⟨rfl, hS4⟩
          have HF : Hid (∃ p b pr q S L, StP (w.alloc (.cells #[.int .i64 s, .int .i64 c] 70)) x p b pr q s c S L w4 ∧ PInv S L (k + 1)) := ⟨_, _, _, _, _, _, hS4, HI3.out⟩
          clear HC2 hS4 HI3
          go_wp2_with fail
          exact ⟨⟨k + 1, by go_num, by omega, HF⟩, by simp [intOf]; omega⟩
        · obtain rfl : k = n := by omega
          obtain ⟨p, b, pr, q, S, L, hS, hI⟩ := HS.out
          have ok : Spok S := Sep.ok hS (List.Mem.head _)
          have HC := Hid.mk (words24_any hS hI ok (by omega))
          have HI := Hid.mk (And.intro hI ok)
          clear hS hI ok HS
          go_wp2_with fail
          refine HC.out.mono ?_
          rintro e w3 ⟨rfl, hS⟩
          have HC := Hid.mk (same24_any hS HI.out.1 HI.out.2 (by omega))
          clear hS
          go_wp2_with fail
          refine HC.out.mono ?_
          rintro e w4 ⟨rfl, hS⟩
          have HF := Hid.mk (HB.out.trans (hS.size.mono HB.out.size))
          clear HC hS
          go_wp2_with fail
          go_ret
          exact ⟨rfl, HF.out⟩
    · have k1 : w2.cell? ⟨x, 1, none⟩ = some (.pointer none) := by rw [cell_of_row w2 x 1 _ _ _ hX]; rfl
      have k3 : w2.cell? ⟨x, 3, none⟩ = some (.pointer none) := by rw [cell_of_row w2 x 3 _ _ _ hX]; rfl
      have HF := Hid.mk (hB.trans (hb2.mono hB.size))
      clear hb2 hX hB c0 c1
      go_wp2_with fail
      go_ret
      exact ⟨rfl, HF.out⟩
  · have z1 : decide ((n : Int) > 60) = true := by simp; omega
    have HF := Hid.mk hB
    clear hB c0 c1
    go_enter Try.func8, Try.ntmps8
    go_wp2_with fail
    go_ret
    exact ⟨rfl, HF.out⟩
end Go.Proofs.Ytkooogllajmkeaa
