/- Parts Ye We Wf Wn Wg, put together. -/
import Derived.Test.YtpfnnmcokbolhaaMe7
import Derived.Test.YtpfnnmcokbolhaaMe14
import Derived.Laws.OwnMore
import Derived.LoopN
/- The chapter's examples hold: the walk. -/
namespace Go.Proofs.Ytpfnnmcokbolhaa
open Go.RowKit
set_option pp.deepTerms true
attribute [local go_sem ↓] Go.wp_at_zero Go.wp_at_succ
set_option maxRecDepth 100000 in
set_option maxHeartbeats 4000000 in
theorem alive25_any (W : World) : Calls Try.prog 5 #[] W fun e w' => Below W.heap.size W w' ∧ e = .returned (.bool true) := by
  have h0 := (Sep.nil (Below.refl W.heap.size W)).space
  have HN := Hid.mk (cnew_ok h0 (show segOk 256 1 = true by decide))
  clear h0
  go_enter Try.func5, Try.ntmps5
  go_wp2_with fail
  refine HN.out.mono ?_
  rintro e w1 ⟨b, k, h1, rfl⟩
  have H1 := Hid.mk (some_sep h1)
  clear HN h1
  go_wp2_with fail
  refine H1.out.mono ?_
  rintro e w2 ⟨v, h2, rfl⟩
  have H2 := Hid.mk h2
  clear H1 h2
  go_wp2_with fail
  refine (num_any 5 _).mono ?_
  rintro e w3 ⟨hb3, rfl⟩
  have h3 := (H2.out.keep hb3).alloc (.cells #[.int .i64 1, .int .i64 5] 34)
  have HF := Hid.mk (al_first h3)
  clear H2 hb3 h3
  go_wp2_with fail
  refine HF.out.mono ?_
  rintro e w4 ⟨h4, rfl⟩
  have HL := cload_any h4 (chOk_of al_ok1) (by decide +kernel) 0
  rw [al_load0] at HL
  have HL := Hid.mk HL
  clear HF h4
  go_wp2_with fail
  refine HL.out.mono ?_
  rintro e w5 ⟨h5, -, rfl⟩
  have h5 := h5.alloc (.cells #[.int .i64 1, .int .i64 5] 34)
  obtain ⟨B4, hB4⟩ : ∃ B4, w5.heap.size = B4 := ⟨_, rfl⟩
  rw [hB4] at h5
  have HL := cload_any (chP_in h5) (chOk_of al_ok1) (by decide +kernel) 1
  rw [al_load1] at HL
  have HL := Hid.mk HL
  clear h5
  go_wp2_with fail
  refine HL.out.mono ?_
  rintro e w6 ⟨h6, -, rfl⟩
  have h6 := h6.alloc (.cells #[.int .i64 1, .int .i64 0] 34)
  obtain ⟨B6, hB6⟩ : ∃ B6, w6.heap.size = B6 := ⟨_, rfl⟩
  rw [hB6] at h6
  have h6 := chP_in h6
  have HP := cplace_any h6 (chOk_of al_ok1) (fun f hf => by
    have := al_linkB
    rw [List.all_eq_true] at this
    simpa [rangeB] using this f hf)
  rw [al_place] at HP
  have HP := Hid.mk HP
  clear h6 HL
  go_wp2_with fail
  refine HP.out.mono ?_
  rintro e w7 ⟨h7, -, rfl⟩
  have hcells : ∀ W', Sep W (chP b W.heap.size k 256 1 aR [bx B6 (.cells #[.int .i64 1, .int .i64 0] 34), bx B4 (.cells #[.int .i64 1, .int .i64 5] 34)]) W' → W'.cell? ⟨B4, 0, none⟩ = some (.int .i64 1) ∧ W'.cell? ⟨B4, 1, none⟩ = some (.int .i64 5) ∧ W'.cell? ⟨B6, 0, none⟩ = some (.int .i64 1) ∧ W'.cell? ⟨B6, 1, none⟩ = some (.int .i64 0) := fun W' q => by
    have B1 := q.at (b := B4) (o := (.cells #[.int .i64 1, .int .i64 5] 34)) (by simp [chP])
    have B2 := q.at (b := B6) (o := (.cells #[.int .i64 1, .int .i64 0] 34)) (by simp [chP])
    exact ⟨by rw [cell_of_row _ _ 0 _ _ _ B1]; rfl, by rw [cell_of_row _ _ 1 _ _ _ B1]; rfl, by rw [cell_of_row _ _ 0 _ _ _ B2]; rfl, by rw [cell_of_row _ _ 1 _ _ _ B2]; rfl⟩
  have d0 := hcells _ h7
  have H7 := Hid.mk h7
  clear HP h7 hcells
  go_wp2_with fail
  go_region_held3 (fun X => X.cell? ⟨B4, 0, none⟩ = some (.int .i64 1) ∧ X.cell? ⟨B4, 1, none⟩ = some (.int .i64 5) ∧ X.cell? ⟨B6, 0, none⟩ = some (.int .i64 1) ∧ X.cell? ⟨B6, 1, none⟩ = some (.int .i64 0)) (first | exact s2 | exact s1 | exact d0) (first | (go_at_call 15; refine (num_any 5 w7.drew).mono ?_; rintro e w8 ⟨hb8, rfl⟩; have s1 := And.intro (keep_dr hb8 d0.1) (And.intro (keep_dr hb8 d0.2.1) (And.intro (keep_dr hb8 d0.2.2.1) (keep_dr hb8 d0.2.2.2)))) | (go_at_call 15; refine (num_any 0 _).mono ?_; rintro e w9 ⟨hb9, rfl⟩; have s2 := And.intro (keep_be hb9 s1.1) (And.intro (keep_be hb9 s1.2.1) (And.intro (keep_be hb9 s1.2.2.1) (keep_be hb9 s1.2.2.2)))))
  have H : Hid (Sep W (chP b W.heap.size k 256 1 aR []) w9) := Sep.lose 3 (Sep.lose 3 ((H7.out.keep (undrew hb8)).keep hb9))
  clear H7 hb8 hb9 s1 s2 d0
  go_wp2_with fail
  refine wp_loop_rounds 4 ?_
  rw [rounds_succ]
  go_wp2_with fail
  refine (num_any 7 _).mono ?_
  rintro e wa ⟨hba, rfl⟩
  have HPu := Hid.mk (al_push (H.out.keep hba) (chOk_of al_ok1) al_ep1)
  clear H hba
  go_wp2_with fail
  refine HPu.out.mono ?_
  rintro e wb ⟨hb', rfl⟩
  have HS := Hid.mk (some_sep hb')
  clear HPu hb'
  go_wp2_with fail
  refine HS.out.mono ?_
  rintro e wc ⟨v, hc, rfl⟩
  have HC := Hid.mk (al_call hc (chOk_of al_p1.2.2.1) al_ec1)
  clear HS hc
  go_wp2_with fail
  refine HC.out.mono ?_
  rintro e wd ⟨hd, rfl⟩
  have H := Hid.mk hd
  clear HC hd
  go_wp2_with fail
  rw [rounds_succ]
  go_wp2_with fail
  refine (num_any 7 _).mono ?_
  rintro e wa ⟨hba, rfl⟩
  have HPu := Hid.mk (al_push (H.out.keep hba) (chOk_of al_p1.2.2.2) al_ep2)
  clear H hba
  go_wp2_with fail
  refine HPu.out.mono ?_
  rintro e wb ⟨hb', rfl⟩
  have HS := Hid.mk (some_sep hb')
  clear HPu hb'
  go_wp2_with fail
  refine HS.out.mono ?_
  rintro e wc ⟨v, hc, rfl⟩
  have HC := Hid.mk (al_call hc (chOk_of al_p2.2.2.1) al_ec2)
  clear HS hc
  go_wp2_with fail
  refine HC.out.mono ?_
  rintro e wd ⟨hd, rfl⟩
  have H := Hid.mk hd
  clear HC hd
  go_wp2_with fail
  rw [rounds_succ]
  go_wp2_with fail
  refine (num_any 7 _).mono ?_
  rintro e wa ⟨hba, rfl⟩
  have HPu := Hid.mk (al_push (H.out.keep hba) (chOk_of al_p2.2.2.2) al_ep3)
  clear H hba
  go_wp2_with fail
  refine HPu.out.mono ?_
  rintro e wb ⟨hb', rfl⟩
  have HS := Hid.mk (some_sep hb')
  clear HPu hb'
  go_wp2_with fail
  refine HS.out.mono ?_
  rintro e wc ⟨v, hc, rfl⟩
  have HC := Hid.mk (al_call hc (chOk_of al_p3.2.2.1) al_ec3)
  clear HS hc
  go_wp2_with fail
  refine HC.out.mono ?_
  rintro e wd ⟨hd, rfl⟩
  have H := Hid.mk hd
  clear HC hd
  go_wp2_with fail
  rw [rounds_succ]
  have HG := csegs_any H.out (chOk_of al_p3.2.2.2)
  rw [al_lens.1, al_lens.2.1] at HG
  have HG := Hid.mk HG
  clear H
  go_wp2_with fail
  refine HG.out.mono ?_
  rintro e w10 ⟨ao, c, ak, ck, h10, rfl⟩
  have H10 := Hid.mk (h10.tl.tl)
  clear HG h10
  go_wp2_with fail
  refine (num_any 8 _).mono ?_
  rintro e w11 ⟨hb11, rfl⟩
  have HS := cstore_any (H10.out.keep hb11) (chOk_of al_p3.2.2.2) al_lens.2.2 1 (1, 8)
  rw [al_es] at HS
  have HS := Hid.mk HS
  clear H10 hb11
  go_wp2_with fail
  refine HS.out.mono ?_
  rintro e w12 ⟨h12, rfl⟩
  have HT := cret_any h12 (chOk_of al_store.2.1)
  rw [al_et] at HT
  have HT := Hid.mk HT
  clear HS h12
  go_wp2_with fail
  refine HT.out.mono ?_
  rintro e w13 ⟨h13, rfl⟩
  have HO := cpop_any h13 (chOk_of al_ret.2.1)
  rw [al_eo] at HO
  have HO := Hid.mk HO
  clear HT h13
  go_wp2_with fail
  refine HO.out.mono ?_
  rintro e w14 ⟨h14, rfl⟩
  have h14 := chP_in (h14.alloc (.cells #[.int .i64 1, .int .i64 8] 34))
  obtain ⟨B7, hB7⟩ : ∃ B7, w14.heap.size = B7 := ⟨_, rfl⟩
  rw [hB7] at h14
  have HG := csegs_any h14 (chOk_of al_store.2.2)
  rw [al_ret.2.2.2.1, al_ret.2.2.2.2.1] at HG
  have HG := Hid.mk HG
  clear HO h14
  go_wp2_with fail
  refine HG.out.mono ?_
  rintro e w15 ⟨ao2, c2, ak2, ck2, h15, rfl⟩
  have h15 := h15.tl.tl
  have HD := fun W' (q : Below w15.heap.size w15 W') => cdepth_any (h15.keep q)
  rw [al_ret.2.2.2.2.2] at HD
  have HD := Hid.mk HD
  have B1 := h15.at (b := B7) (o := (.cells #[.int .i64 1, .int .i64 8] 34)) (by simp [chP])
  have d0 : w15.cell? ⟨B7, 0, none⟩ = some (.int .i64 1) ∧ w15.cell? ⟨B7, 1, none⟩ = some (.int .i64 8) := ⟨by rw [cell_of_row _ _ 0 _ _ _ B1]; rfl, by rw [cell_of_row _ _ 1 _ _ _ B1]; rfl⟩
  have HB := Hid.mk h15.size
  clear HG h15 B1
  go_wp2_with fail
  go_region_held3 (fun X => X.cell? ⟨B7, 0, none⟩ = some (.int .i64 1) ∧ X.cell? ⟨B7, 1, none⟩ = some (.int .i64 8)) (first | exact s1 | exact d0) (first | (go_at_call 15; refine (num_any 8 w15.drew).mono ?_; rintro e w16 ⟨hb16, rfl⟩; have s1 := And.intro (keep_dr hb16 d0.1) (keep_dr hb16 d0.2)) | (go_at_call 10; refine (HD.out _ (undrew hb16)).mono ?_; rintro e w17 ⟨rfl, rfl⟩))
  have HE := Hid.mk (HB.out.trans ((undrew hb16).mono HB.out.size))
  clear HB hb16 HD s1 d0
  go_wp2_with fail
  go_ret
  exact ⟨HE.out, rfl⟩
end Go.Proofs.Ytpfnnmcokbolhaa
/- ChainNames: the calls over the chain's computed states. -/
namespace Go.Proofs.Ytpfnnmcokbolhaa
open Go.RowKit
set_option pp.deepTerms true
section
variable {w W : World} {F : List Asr} {b p k : Nat} {sz ca er : Int} {C C' : Ch}
/-- a literal of a call's own, as a row -/
theorem Sep.lit (h : Sep w F W) (cs : Array Value) (T : TypeId) (hm : cs.size ≤ maxLen) : Sep w (rw_ 0 T 1 (.slice (some ⟨W.heap.size, 0, none⟩) cs.size cs.size) cs.size cs.toList :: F) (W.alloc (.cells cs T)) := by
  refine Sep.row h ((Below.refl _ _).alloc (Nat.le_refl _) _) ?_
  exact World.ownsRow_lit W cs cs.size (Nat.le_refl _) hm (by omega)
theorem cpush_eq (h : Sep w (chP b p k sz ca C F) W) (ok : ChOk C) {v1 v2 : Int} (hC : pushC C (v1, v2) = (er, C')) : Calls Try.prog 14 #[.pointer (some ⟨b, 0, none⟩), .agg #[.int .i64 v1, .int .i64 v2]] W fun e w' => Sep w (chP b p k sz ca C' F) w' ∧ e = .returned (.int .i64 er) := by
  have := cpush_any h ok (v1, v2)
  rw [hC] at this
  exact this
theorem cstore_eq (h : Sep w (chP b p k sz ca C F) W) (ok : ChOk C) (hF : C.F ≠ []) {i v1 v2 : Int} (hC : storeC C i (v1, v2) = (er, C')) : Calls Try.prog 21 #[.pointer (some ⟨b, 0, none⟩), .int .i64 i, .agg #[.int .i64 v1, .int .i64 v2]] W fun e w' => Sep w (chP b p k sz ca C' F) w' ∧ e = .returned (.int .i64 er) := by
  have := cstore_any h ok hF i (v1, v2)
  rw [hC] at this
  exact this
theorem cput_eq (h : Sep w (chP b p k sz ca C F) W) (ok : ChOk C) (hF : C.F ≠ []) {p1 p2 v1 v2 : Int} (hC : putC C (p1, p2) (v1, v2) = (er, C')) : Calls Try.prog 18 #[.pointer (some ⟨b, 0, none⟩), .agg #[.int .i64 p1, .int .i64 p2], .agg #[.int .i64 v1, .int .i64 v2]] W fun e w' => Sep w (chP b p k sz ca C' F) w' ∧ e = .returned (.int .i64 er) := by
  have := cput_any h ok hF (p1, p2) (v1, v2)
  rw [hC] at this
  exact this
theorem cload_eq (h : Sep w (chP b p k sz ca C F) W) (ok : ChOk C) (hF : C.F ≠ []) {i v1 v2 : Int} (hC : loadC C i = ((v1, v2), er)) : Calls Try.prog 19 #[.pointer (some ⟨b, 0, none⟩), .int .i64 i] W fun e w' => Sep w (chP b p k sz ca C F) w' ∧ e = .returned (.tuple #[.agg #[.int .i64 v1, .int .i64 v2], .int .i64 er]) := by
  have := cload_any h ok hF i
  rw [hC] at this
  exact this.mono (fun _ _ q => ⟨q.1, q.2.2⟩)
theorem caddr_eq (h : Sep w (chP b p k sz ca C F) W) (ok : ChOk C) (hF : C.F ≠ []) {i v1 v2 : Int} (hC : addrC C i = ((v1, v2), er)) : Calls Try.prog 13 #[.pointer (some ⟨b, 0, none⟩), .int .i64 i] W fun e w' => Sep w (chP b p k sz ca C F) w' ∧ e = .returned (.tuple #[.agg #[.int .i64 v1, .int .i64 v2], .int .i64 er]) := by
  have := caddr_any h ok hF i
  rw [hC] at this
  exact this.mono (fun _ _ q => ⟨q.1, q.2.2⟩)
theorem cget_eq (h : Sep w (chP b p k sz ca C F) W) (ok : ChOk C) (hF : C.F ≠ []) {p1 p2 v1 v2 : Int} (hC : getC C (p1, p2) = ((v1, v2), er)) : Calls Try.prog 20 #[.pointer (some ⟨b, 0, none⟩), .agg #[.int .i64 p1, .int .i64 p2]] W fun e w' => Sep w (chP b p k sz ca C F) w' ∧ e = .returned (.tuple #[.agg #[.int .i64 v1, .int .i64 v2], .int .i64 er]) := by
  have := cget_any h ok hF (p1, p2)
  rw [hC] at this
  exact this.mono (fun _ _ q => ⟨q.1, q.2.2⟩)
theorem cret_eq (h : Sep w (chP b p k sz ca C F) W) (ok : ChOk C) (hC : retC ca C = (er, C')) : Calls Try.prog 23 #[.pointer (some ⟨b, 0, none⟩)] W fun e w' => Sep w (chP b p k sz ca C' F) w' ∧ e = .returned (.int .i64 er) := by
  have := cret_any h ok
  rw [hC] at this
  exact this
theorem cdrop_eq (h : Sep w (chP b p k sz ca C F) W) (ok : ChOk C) (hC : dropC ca C = (er, C')) : Calls Try.prog 27 #[.pointer (some ⟨b, 0, none⟩)] W fun e w' => Sep w (chP b p k sz ca C' F) w' ∧ e = .returned (.int .i64 er) := by
  have := cdrop_any h ok
  rw [hC] at this
  exact this
theorem ccut_eq (h : Sep w (chP b p k sz ca C F) W) (ok : ChOk C) {d : Int} (hC : cutC ca C d = (er, C')) : Calls Try.prog 26 #[.pointer (some ⟨b, 0, none⟩), .int .i64 d] W fun e w' => Sep w (chP b p k sz ca C' F) w' ∧ e = .returned (.int .i64 er) := by
  have := ccut_any h ok d
  rw [hC] at this
  exact this
theorem cpop_eq (h : Sep w (chP b p k sz ca C F) W) (ok : ChOk C) {v1 v2 : Int} (hC : popC C = (((v1, v2), er), C')) : Calls Try.prog 24 #[.pointer (some ⟨b, 0, none⟩)] W fun e w' => Sep w (chP b p k sz ca C' F) w' ∧ e = .returned (.tuple #[.agg #[.int .i64 v1, .int .i64 v2], .int .i64 er]) := by
  have := cpop_any h ok
  rw [hC] at this
  exact this
theorem cplace_eq (h : Sep w (chP b p k sz ca C F) W) (ok : ChOk C) (hN : ∀ f ∈ C.F, 0 ≤ (C.S.get f.link).1.2 ∧ (C.S.get f.link).1.2 ≤ 1048576) {v1 v2 : Int} (hC : placeC C = ((v1, v2), er)) : Calls Try.prog 22 #[.pointer (some ⟨b, 0, none⟩)] W fun e w' => Sep w (chP b p k sz ca C F) w' ∧ e = .returned (.tuple #[.int .i64 v1, .int .i64 v2, .int .i64 er]) := by
  have := cplace_any h ok hN
  rw [hC] at this
  exact this.mono (fun _ _ q => ⟨q.1, q.2.2⟩)
theorem cheight_eq (h : Sep w (chP b p k sz ca C F) W) (ok : ChOk C) {n : Int} (hC : heightC C = n) : Calls Try.prog 25 #[.pointer (some ⟨b, 0, none⟩)] W fun e w' => Sep w (chP b p k sz ca C F) w' ∧ e = .returned (.int .i64 n) := by
  have := cheight_any h ok
  rw [hC] at this
  exact this.mono (fun _ _ q => ⟨q.1, q.2.2⟩)
theorem cdepth_eq (h : Sep w (chP b p k sz ca C F) W) {n : Nat} (hC : C.F.length = n) : Calls Try.prog 10 #[.pointer (some ⟨b, 0, none⟩)] W fun e w' => Sep w (chP b p k sz ca C F) w' ∧ e = .returned (.int .i64 n) := by
  have := cdepth_any h
  rw [hC] at this
  exact this.mono (fun _ _ q => ⟨by rw [q.1]; exact h, q.2⟩)
theorem cresults_eq (h : Sep w (chP b p k sz ca C F) W) (ok : ChOk C) {l : Option (List (Int × Int))} (hC : resC C = (l, er)) : Calls Try.prog 28 #[.pointer (some ⟨b, 0, none⟩)] W fun e w' => ∃ ao n c, Sep w (chP b p k sz ca C F) w' ∧ e = .returned (.tuple #[.slice ao n c, .int .i64 er]) := by
  have := cresults_any h ok
  rw [hC] at this
  refine this.mono ?_
  rintro e w' ⟨v, h1, -, h2⟩
  obtain ⟨ao, c, rfl⟩ := own_shape (Sep.owns h1 (List.Mem.head _))
  exact ⟨ao, _, c, h1.tl, h2⟩
theorem csegs_eq (h : Sep w (chP b p k sz ca C F) W) (ok : ChOk C) {n m : Nat} (hn : C.L.live.length = n) (hm : C.L.kept.length = m) : Calls Try.prog 17 #[.pointer (some ⟨b, 0, none⟩)] W fun e w' => ∃ ao c ak ck, Sep w (chP b p k sz ca C F) w' ∧ e = .returned (.tuple #[.slice ao n c, .slice ak m ck]) := by
  have := csegs_any h ok
  rw [hn, hm] at this
  exact this.mono (fun _ _ ⟨ao, c, ak, ck, q, e⟩ => ⟨ao, c, ak, ck, q.tl.tl, e⟩)
/-- a layout whose slots lie in a row beside the chain -/
theorem ccall_row {v : Value} {l : Lay} {place : Int} {n : Nat} (h : Sep w (chP b p k sz ca C F) W) (ok : ChOk C) (hm : rw_ 0 3 1 v n (icells l.slots) ∈ F) (hn : l.slots.length = n) (hl : n ≤ 4194304) (hC : callC sz C l place = (er, C')) :
    Calls Try.prog 16 #[.pointer (some ⟨b, 0, none⟩), layV v l, .int .i64 place] W fun e w' => Sep w (chP b p k sz ca C' F) w' ∧ e = .returned (.int .i64 er) := by
  subst hn
  have ho := (chP_F h).owns hm
  have := ccall_any (sv := v) (l := l) (place := place) h ok (fun W' q => Rdi.of_row (q.owns hm) rfl) hl (slOk_row ho)
  rw [hC] at this
  exact this
theorem ccall_nil {l : Lay} {place : Int} (h : Sep w (chP b p k sz ca C F) W) (ok : ChOk C) (hn : l.slots = []) (hC : callC sz C l place = (er, C')) :
    Calls Try.prog 16 #[.pointer (some ⟨b, 0, none⟩), layV (.slice none 0 0) l, .int .i64 place] W fun e w' => Sep w (chP b p k sz ca C' F) w' ∧ e = .returned (.int .i64 er) := by
  have := ccall_any (sv := .slice none 0 0) (l := l) (place := place) h ok (fun W' q => .inl ⟨rfl, hn⟩) (by rw [hn]; decide) (by
    intro ao n c e
    simp only [Value.slice.injEq] at e
    omega)
  rw [hC] at this
  exact this
theorem crun_row {v : Value} {l : Lay} {place : Int} {n : Nat} (h : Sep w (chP b p k sz ca C F) W) (ok : ChOk C) (hm : rw_ 0 3 1 v n (icells l.slots) ∈ F) (hn : l.slots.length = n) (hl : n ≤ 4194304) (hC : runC sz C l [] place = (er, C')) :
    Calls Try.prog 12 #[.pointer (some ⟨b, 0, none⟩), layV v l, .slice none 0 0, .int .i64 place] W fun e w' => Sep w (chP b p k sz ca C' F) w' ∧ e = .returned (.int .i64 er) := by
  subst hn
  have ho := (chP_F h).owns hm
  have := crun_any (sv := v) (av := .slice none 0 0) (l := l) (args := []) (place := place) h ok (fun W' q => Rdi.of_row (q.owns hm) rfl) hl (slOk_row ho) (fun W' q => .inl ⟨rfl, rfl⟩) (by decide)
  rw [hC] at this
  exact this
theorem cwords_cqa {F : List Asr} (h : Sep w (chP b p k 256 0 cqa F) W) : Calls Try.prog 29 #[.pointer (some ⟨b, 0, none⟩)] W fun e w' => ∃ ao c, e = .returned (.slice ao 256 c) ∧ Sep w (vrow (.slice ao 256 c) (List.replicate 256 (0, 0)) :: chP b p k 256 0 cqa F) w' := by
  have hw : (wordsC cqa).length = 256 := by rw [ca_words, List.length_replicate]
  have := cwords_any h (chOk_of ca_ok) (by rw [ca_live]; intro r hr; obtain rfl : r = (1, 256) := by simpa using hr
                                           decide) (by rw [hw]; decide)
  rw [hw, ca_words] at this
  exact this.mono (fun _ _ ⟨ao, c, e, q, _⟩ => ⟨ao, c, e, q⟩)
theorem cnew_nil (s c : Int) (W : World) : Calls Try.prog 11 #[.pointer none, .agg #[.int .i64 s, .int .i64 c]] W fun e w' => Below W.heap.size W w' ∧ e = .returned (.tuple #[.pointer none, .int .i64 1]) := by
  have HB := Hid.mk ((Below.refl W.heap.size W).alloc (Nat.le_refl _) (.cells #[.int .i64 s, .int .i64 c] 23))
  have HN := Hid.mk (snew_nil s c (W.alloc (.cells #[.int .i64 s, .int .i64 c] 23)))
  go_enter Try.func11, Try.ntmps11
  go_wp2_with fail
  refine HN.out.mono ?_
  rintro e w1 ⟨hb, rfl⟩
  have HB2 := Hid.mk (HB.out.trans (hb.mono (by simp)))
  clear hb
  go_wp2_with fail
  go_ret2
  exact ⟨HB2.out, rfl⟩
end
end Go.Proofs.Ytpfnnmcokbolhaa
/- ChainNames' walk: its end. -/
namespace Go.Proofs.Ytpfnnmcokbolhaa
open Go.RowKit
set_option pp.deepTerms true
attribute [local go_sem ↓] Go.wp_at_zero Go.wp_at_succ
set_option maxRecDepth 100000 in
set_option maxHeartbeats 4000000 in
theorem cnG {w W : World} {b p k Bm Bs : Nat} {u0 u1 u2 u5 u7 u8 u9 u10 u11 u12 u13 u14 u15 u16 u17 u18 u19 u20 u21 u22 u23 u24 u25 u26 u27 u28 u30 u31 u32 u33 u34 u37 u38 u39 u41 u44 u46 u49 u50 u53 u54 u55 u56 u57 u58 u59 u60 u61 u62 u63 u64 u65 u66 u67 u68 u69 u70 u71 u72 u73 u74 u75 u76 u77 u78 u79 u80 u81 u82 u83 u84 u85 u86 u87 u88 u89 u90 u91 u92 u93 u94 u95 u96 u97 u98 u99 u100 u101 u102 u103 u104 u105 u106 u107 u108 u109 u110 u111 u112 u113 u114 u115 u116 u117 u118 u119 u120 u121 u122 u123 u124 u125 u126 u127 u128 u129 u130 u131 u132 u133 u134 u135 u136 u137 u138 u139 u140 u141 u142 u143 u144 u145 u146 u147 u148 u149 u150 u151 u152 u153 u154 u155 u156 u157 u158 u159 u160 u161 u162 u163 u164 u165 u166 u167 u168 u169 u170 u171 u172 u173 u174 u175 u176 u177 u178 u179 u180 u181 u182 u183 u184 u185 u186 u187 u188 u189 u190 u191 u192 u193 u194 u195 u196 u197 u198 u199 u200 u201 u202 u203 u204 u205 u206 u207 u208 u209 u210 u211 u212 u213 u214 u215 u216 u217 u218 u219 u220 u221 u222 u223 u224 u225 u226 u227 u228 u229 u230 u231 u232 u233 u234 u235 u236 u237 u238 u239 u240 u241 u242 u243 u244 u245 u246 u247 u248 u249 u250 u251 u252 u253 u254 u255 u256 u257 u258 u259 u260 u261 u262 u263 u264 u265 u266 u267 u268 u269 u270 u271 u272 u273 u274 u275 u276 u277 u278 u279 u280 u281 u282 u283 u284 u285 u286 u287 u288 u289 u290 u291 u292 u293 u294 u295 u296 u297 u298 u299 u300 u301 u302 u303 u304 u305 u306 u307 u308 u309 u310 u311 u312 u313 u314 u315 u316 u317 u318 u319 u320 u321 u322 u323 u324 u325 u326 u327 u328 u329 u330 u331 u332 u333 u334 u335 u336 u337 u338 u339 u340 u341 u342 u343 u344 u345 u346 u347 u348 u349 u350 u351 u352 u353 u354 u355 u356 u357 u358 u359 u360 u361 u362 u363 u364 u365 u366 u367 u368 u369 u370 u371 u372 u373 u374 u375 u376 u377 u378 u379 u380 u381 u382 u383 u384 u385 u386 u387 u388 u389 u390 u391 u392 u393 u394 u395 u396 u397 u398 u399 u400 u401 u402 u403 u404 u405 u406 u407 u408 u409 u410 u411 u412 u413 u414 u415 u416 u417 u418 u419 u420 u421 u422 u423 u424 u425 u426 u427 u428 u429 u430 u431 u432 u433 u434 u435 u436 u437 u438 u439 u440 u441 u442 u443 u444 u445 u446 u447 u448 u449 u450 u451 u452 u453 u454 u455 u456 u457 u458 u459 u460 u461 u462 u463 u464 u465 u466 u467 u468 u469 u470 u471 u472 u473 u474 u475 u476 u477 u478 u479 u480 u481 u482 u483 u484 u485 u486 u487 u488 u489 u490 u491 u492 u493 u494 u495 u496 u497 u498 u499 u500 u501 u502 u503 u504 u505 u506 : Value} (H0 : Hid (Sep w (chP b p k 256 0 cqa [bx Bm (layO (.slice (some ⟨Bs, 0, none⟩) 1 1) mainL), rw_ 0 3 1 (.slice (some ⟨Bs, 0, none⟩) 1 1) 1 (icells mainL.slots)]) W)) :
    Code.wp Try.prog (pieceOf (Try.f4.body.getD .skip) [1, 1, 1, 1, 1, 1, 1, 1, 1, 1, 1, 1, 1, 1, 1, 1, 1, 1, 1, 1, 1, 1, 1, 1, 1, 1, 1, 1, 1, 1, 1, 1, 1, 1, 1, 1, 1]) (bodyPost Try.prog Try.f4 (fun e w' => e = .returned (.bool true) ∧ Below w.heap.size w w')) ⟨#[u0, u1, u2, .pointer (some ⟨p, 0, none⟩), .pointer (some ⟨b, 0, none⟩), u5, .pointer (some ⟨Bm, 0, none⟩), u7, u8, u9, u10, u11, u12, u13, u14, u15, u16, u17, u18, u19, u20, u21, u22, u23, u24, u25, u26, u27, u28, .bool true, u30, u31, u32, u33, u34, .bool true, .int .i64 14, u37, u38, u39, .int .i64 250, u41, .int .i64 250, .int .i64 0, u44, .int .i64 250, u46, .int .i64 250, .int .i64 250, u49, u50, .int .i64 250, .bool true, u53, u54, u55, u56, u57, u58, u59, u60, u61, u62, u63, u64, u65, u66, u67, u68, u69, u70, u71, u72, u73, u74, u75, u76, u77, u78, u79, u80, u81, u82, u83, u84, u85, u86, u87, u88, u89, u90, u91, u92, u93, u94, u95, u96, u97, u98, u99, u100, u101, u102, u103, u104, u105, u106, u107, u108, u109, u110, u111, u112, u113, u114, u115, u116, u117, u118, u119, u120, u121, u122, u123, u124, u125, u126, u127, u128, u129, u130, u131, u132, u133, u134, u135, u136, u137, u138, u139, u140, u141, u142, u143, u144, u145, u146, u147, u148, u149, u150, u151, u152, u153, u154, u155, u156, u157, u158, u159, u160, u161, u162, u163, u164, u165, u166, u167, u168, u169, u170, u171, u172, u173, u174, u175, u176, u177, u178, u179, u180, u181, u182, u183, u184, u185, u186, u187, u188, u189, u190, u191, u192, u193, u194, u195, u196, u197, u198, u199, u200, u201, u202, u203, u204, u205, u206, u207, u208, u209, u210, u211, u212, u213, u214, u215, u216, u217, u218, u219, u220, u221, u222, u223, u224, u225, u226, u227, u228, u229, u230, u231, u232, u233, u234, u235, u236, u237, u238, u239, u240, u241, u242, u243, u244, u245, u246, u247, u248, u249, u250, u251, u252, u253, u254, u255, u256, u257, u258, u259, u260, u261, u262, u263, u264, u265, u266, u267, u268, u269, u270, u271, u272, u273, u274, u275, u276, u277, u278, u279, u280, u281, u282, u283, u284, u285, u286, u287, u288, u289, u290, u291, u292, u293, u294, u295, u296, u297, u298, u299, u300, u301, u302, u303, u304, u305, u306, u307, u308, u309, u310, u311, u312, u313, u314, u315, u316, u317, u318, u319, u320, u321, u322, u323, u324, u325, u326, u327, u328, u329, u330, u331, u332, u333, u334, u335, u336, u337, u338, u339, u340, u341, u342, u343, u344, u345, u346, u347, u348, u349, u350, u351, u352, u353, u354, u355, u356, u357, u358, u359, u360, u361, u362, u363, u364, u365, u366, u367, u368, u369, u370, u371, u372, u373, u374, u375, u376, u377, u378, u379, u380, u381, u382, u383, u384, u385, u386, u387, u388, u389, u390, u391, u392, u393, u394, u395, u396, u397, u398, u399, u400, u401, u402, u403, u404, u405, u406, u407, u408, u409, u410, u411, u412, u413, u414, u415, u416, u417, u418, u419, u420, u421, u422, u423, u424, u425, u426, u427, u428, u429, u430, u431, u432, u433, u434, u435, u436, u437, u438, u439, u440, u441, u442, u443, u444, u445, u446, u447, u448, u449, u450, u451, u452, u453, u454, u455, u456, u457, u458, u459, u460, u461, u462, u463, u464, u465, u466, u467, u468, u469, u470, u471, u472, u473, u474, u475, u476, u477, u478, u479, u480, u481, u482, u483, u484, u485, u486, u487, u488, u489, u490, u491, u492, u493, u494, u495, u496, u497, u498, u499, u500, u501, u502, u503, u504, u505, u506], []⟩ W := by
  conv => arg 2; whnf
  have HC1 := Hid.mk (cnew_nil 256 0 W)
  go_wp2_with fail
  refine HC1.out.mono ?_
  rintro e w1 ⟨hb, rfl⟩
  have H1 := Hid.mk (Sep.keep H0.out hb)
  clear hb HC1 H0 
  have HC2 := Hid.mk (cnew_bad (p := p) (sz := 1) (ca := 0) H1.out (by decide))
  go_wp2_with fail
  refine HC2.out.mono ?_
  rintro e w2 ⟨h, rfl⟩
  have H2 := Hid.mk h
  clear h HC2 H1 
  have h := chP_in (Sep.alloc H2.out (.cells #[.pointer none, .pointer none, .slice none 0 0] 78))
  have HZ := Hid.mk h
  clear h H2
  have HC3 := Hid.mk (cpop_noc (noC_nil (w2.alloc (.cells #[.pointer none, .pointer none, .slice none 0 0] 78))))
  go_wp2_with fail
  refine HC3.out.mono ?_
  rintro e w3 ⟨hb, rfl⟩
  have H3 := Hid.mk (Sep.keep HZ.out hb)
  clear hb HC3 HZ 
  have h := chP_in (Sep.alloc H3.out (.cells #[.int .i64 0, .int .i64 0] 34))
  have H4 := Hid.mk h
  clear h H3
  have HC5 := Hid.mk (cload_noc (noC_zero (Sep.cell H4.out (b := w2.heap.size) (j := 0) (List.Mem.tail _ (List.Mem.tail _ (List.Mem.tail _ (List.Mem.tail _ (List.Mem.head _))))) rfl)) 0)
  go_wp2_with fail
  refine HC5.out.mono ?_
  rintro e w5 ⟨hb, rfl⟩
  have H5 := Hid.mk (Sep.keep H4.out hb)
  clear hb HC5 H4 
  have h := chP_in (Sep.alloc H5.out (.cells #[.int .i64 0, .int .i64 0] 34))
  have H6 := Hid.mk h
  clear h H5
  have HC7 := Hid.mk (csegs_noc (noC_nil (w5.alloc (.cells #[.int .i64 0, .int .i64 0] 34))))
  go_wp2_with fail
  refine HC7.out.mono ?_
  rintro e w7 ⟨hb, rfl⟩
  have H7 := Hid.mk (Sep.keep H6.out hb)
  clear hb HC7 H6 
  have HC8 := Hid.mk (alive25_any w7)
  go_wp2_with fail
  refine HC8.out.mono ?_
  rintro e w8 ⟨hb, rfl⟩
  have H8 := Hid.mk (Sep.keep H7.out hb)
  clear hb HC8 H7 
  have HC9 := Hid.mk (cwords_cqa H8.out)
  go_wp2_with fail
  refine HC9.out.mono ?_
  rintro e w9 ⟨ao, c, rfl, h⟩
  have h := Sep.tl h
  have H9 := Hid.mk h
  clear h HC9 H8 
  have HC10 := Hid.mk (num_any 1 w9)
  go_wp2_with fail
  refine HC10.out.mono ?_
  rintro e w10 ⟨hb, rfl⟩
  have H10 := Hid.mk (Sep.keep H9.out hb)
  clear hb HC10 H9 
  have HC11 := Hid.mk (cpush_noc (noC_nil w10) 1 1)
  go_wp2_with fail
  refine HC11.out.mono ?_
  rintro e w11 ⟨hb, rfl⟩
  have H11 := Hid.mk (Sep.keep H10.out hb)
  clear hb HC11 H10 
  obtain ⟨d0, d1, d2, d3⟩ := layO_cells (q := Bm) (v := .slice (some ⟨Bs, 0, none⟩) 1 1) (f := mainL) H11.out (List.Mem.tail _ (List.Mem.tail _ (List.Mem.tail _ (List.Mem.tail _ (List.Mem.tail _ (List.Mem.tail _ (List.Mem.head _)))))))
  have HC12 := Hid.mk (crun_noc (noC_zero (Sep.cell H11.out (b := w2.heap.size) (j := 0) (List.Mem.tail _ (List.Mem.tail _ (List.Mem.tail _ (List.Mem.tail _ (List.Mem.tail _ (List.Mem.head _)))))) rfl)) (some ⟨Bs, 0, none⟩) none 1 1 0 0 mainL.args mainL.res mainL.height 0)
  go_wp2_with fail
  refine HC12.out.mono ?_
  rintro e w12 ⟨hb, rfl⟩
  have H12 := Hid.mk (Sep.keep H11.out hb)
  clear hb HC12 H11 d0 d1 d2 d3
  have HC13 := Hid.mk (ccut_noc (noC_nil w12) 0)
  go_wp2_with fail
  refine HC13.out.mono ?_
  rintro e w13 ⟨hb, rfl⟩
  have H13 := Hid.mk (Sep.keep H12.out hb)
  clear hb HC13 H12 
  have HC14 := Hid.mk (cdepth_noc (noC_nil w13))
  go_wp2_with fail
  refine HC14.out.mono ?_
  rintro e w14 ⟨hb, rfl⟩
  have H14 := Hid.mk (Sep.keep H13.out hb)
  clear hb HC14 H13 
  have HC15 := Hid.mk (cheight_noc (noC_zero (Sep.cell H14.out (b := w2.heap.size) (j := 0) (List.Mem.tail _ (List.Mem.tail _ (List.Mem.tail _ (List.Mem.tail _ (List.Mem.tail _ (List.Mem.head _)))))) rfl)))
  go_wp2_with fail
  refine HC15.out.mono ?_
  rintro e w15 ⟨hb, rfl⟩
  have H15 := Hid.mk (Sep.keep H14.out hb)
  clear hb HC15 H14 
  have HC16 := Hid.mk (cwords_noc (noC_zero (Sep.cell H15.out (b := w2.heap.size) (j := 0) (List.Mem.tail _ (List.Mem.tail _ (List.Mem.tail _ (List.Mem.tail _ (List.Mem.tail _ (List.Mem.head _)))))) rfl)))
  go_wp2_with fail
  refine HC16.out.mono ?_
  rintro e w16 ⟨hb, rfl⟩
  have H16 := Hid.mk (Sep.keep H15.out hb)
  clear hb HC16 H15 
  go_wp2_with fail
  go_ret
  exact ⟨rfl, Sep.size H16.out⟩
end Go.Proofs.Ytpfnnmcokbolhaa
/- ChainNames' walk: words. -/
namespace Go.Proofs.Ytpfnnmcokbolhaa
open Go.RowKit
set_option pp.deepTerms true
attribute [local go_sem ↓] Go.wp_at_zero Go.wp_at_succ
set_option maxRecDepth 100000 in
set_option maxHeartbeats 4000000 in
theorem cnF6 {w W : World} {b p k Bm Bs vc : Nat} {va : Option Addr} {u0 u1 u2 u5 u7 u8 u9 u10 u11 u12 u13 u14 u15 u16 u17 u18 u19 u20 u21 u22 u23 u24 u25 u26 u27 u28 u30 u31 u32 u33 u34 u37 u38 u39 u41 u44 u46 u49 u50 u53 u54 u55 u56 u57 u58 u59 u60 u61 u62 u63 u64 u65 u66 u67 u68 u69 u70 u71 u72 u73 u74 u75 u76 u77 u78 u79 u80 u81 u82 u83 u84 u85 u86 u87 u88 u89 u90 u91 u92 u93 u94 u95 u96 u97 u98 u99 u100 u101 u102 u103 u104 u105 u106 u107 u108 u109 u110 u111 u112 u113 u114 u115 u116 u117 u118 u119 u120 u121 u122 u123 u124 u125 u126 u127 u128 u129 u130 u131 u132 u133 u134 u135 u136 u137 u138 u139 u140 u141 u142 u143 u144 u145 u146 u147 u148 u149 u150 u151 u152 u153 u154 u155 u156 u157 u158 u159 u160 u161 u162 u163 u164 u165 u166 u167 u168 u169 u170 u171 u172 u173 u174 u175 u176 u177 u178 u179 u180 u181 u182 u183 u184 u185 u186 u187 u188 u189 u190 u191 u192 u193 u194 u195 u196 u197 u198 u199 u200 u201 u202 u203 u204 u205 u206 u207 u208 u209 u210 u211 u212 u213 u214 u215 u216 u217 u218 u219 u220 u221 u222 u223 u224 u225 u226 u227 u228 u229 u230 u231 u232 u233 u234 u235 u236 u237 u238 u239 u240 u241 u242 u243 u244 u245 u246 u247 u248 u249 u250 u251 u252 u253 u254 u255 u256 u257 u258 u259 u260 u261 u262 u263 u264 u265 u266 u267 u268 u269 u270 u271 u272 u273 u274 u275 u276 u277 u278 u279 u280 u281 u282 u283 u284 u285 u286 u287 u288 u289 u290 u291 u292 u293 u294 u295 u296 u297 u298 u299 u300 u301 u302 u303 u304 u305 u306 u307 u308 u309 u310 u311 u312 u313 u314 u315 u316 u317 u318 u319 u320 u321 u322 u323 u324 u325 u326 u327 u328 u329 u330 u331 u332 u333 u334 u335 u336 u337 u338 u339 u340 u341 u342 u343 u344 u345 u346 u347 u348 u349 u350 u351 u352 u353 u354 u355 u356 u357 u358 u359 u360 u361 u362 u363 u364 u365 u366 u367 u368 u369 u370 u371 u372 u373 u377 u378 u379 u380 u381 u382 u383 u384 u385 u386 u387 u388 u389 u390 u391 u392 u393 u394 u395 u396 u397 u398 u399 u400 u401 u402 u403 u404 u405 u406 u407 u408 u409 u410 u411 u412 u413 u414 u415 u416 u417 u418 u419 u420 u421 u422 u423 u424 u425 u426 u427 u428 u429 u430 u431 u432 u433 u434 u435 u436 u437 u438 u439 u440 u441 u442 u443 u444 u445 u446 u447 u448 u449 u450 u451 u452 u453 u454 u455 u456 u457 u458 u459 u460 u461 u462 u463 u464 u465 u466 u467 u468 u469 u470 u471 u472 u473 u474 u475 u476 u477 u478 u479 u480 u481 u482 u483 u484 u485 u486 u487 u488 u489 u490 u491 u492 u493 u494 u495 u496 u497 u498 u499 u500 u501 u502 u503 u504 u505 u506 : Value} {K : Act → World → Prop} {Q : Exit → Act → World → Prop} (H0 : Hid (Sep w (vrow (.slice va 256 vc) (List.replicate 256 (0, 0)) :: chP b p k 256 0 cqa [bx Bm (layO (.slice (some ⟨Bs, 0, none⟩) 1 1) mainL), rw_ 0 3 1 (.slice (some ⟨Bs, 0, none⟩) 1 1) 1 (icells mainL.slots)]) W))
    (hK : Hid (∀ (c54 c376 c377 c378 c379 c380 c381 c382 c383 c384 c385 c386 : Value) (W' : World), Sep w (chP b p k 256 0 cqa [bx Bm (layO (.slice (some ⟨Bs, 0, none⟩) 1 1) mainL), rw_ 0 3 1 (.slice (some ⟨Bs, 0, none⟩) 1 1) 1 (icells mainL.slots)]) W' → K ⟨#[u0, u1, u2, .pointer (some ⟨p, 0, none⟩), .pointer (some ⟨b, 0, none⟩), u5, .pointer (some ⟨Bm, 0, none⟩), u7, u8, u9, u10, u11, u12, u13, u14, u15, u16, u17, u18, u19, u20, u21, u22, u23, u24, u25, u26, u27, u28, .bool true, u30, u31, u32, u33, u34, .bool true, .int .i64 14, u37, u38, u39, .int .i64 250, u41, .int .i64 250, .int .i64 0, u44, .int .i64 250, u46, .int .i64 250, .int .i64 250, u49, u50, .int .i64 250, .bool true, u53, c54, u55, u56, u57, u58, u59, u60, u61, u62, u63, u64, u65, u66, u67, u68, u69, u70, u71, u72, u73, u74, u75, u76, u77, u78, u79, u80, u81, u82, u83, u84, u85, u86, u87, u88, u89, u90, u91, u92, u93, u94, u95, u96, u97, u98, u99, u100, u101, u102, u103, u104, u105, u106, u107, u108, u109, u110, u111, u112, u113, u114, u115, u116, u117, u118, u119, u120, u121, u122, u123, u124, u125, u126, u127, u128, u129, u130, u131, u132, u133, u134, u135, u136, u137, u138, u139, u140, u141, u142, u143, u144, u145, u146, u147, u148, u149, u150, u151, u152, u153, u154, u155, u156, u157, u158, u159, u160, u161, u162, u163, u164, u165, u166, u167, u168, u169, u170, u171, u172, u173, u174, u175, u176, u177, u178, u179, u180, u181, u182, u183, u184, u185, u186, u187, u188, u189, u190, u191, u192, u193, u194, u195, u196, u197, u198, u199, u200, u201, u202, u203, u204, u205, u206, u207, u208, u209, u210, u211, u212, u213, u214, u215, u216, u217, u218, u219, u220, u221, u222, u223, u224, u225, u226, u227, u228, u229, u230, u231, u232, u233, u234, u235, u236, u237, u238, u239, u240, u241, u242, u243, u244, u245, u246, u247, u248, u249, u250, u251, u252, u253, u254, u255, u256, u257, u258, u259, u260, u261, u262, u263, u264, u265, u266, u267, u268, u269, u270, u271, u272, u273, u274, u275, u276, u277, u278, u279, u280, u281, u282, u283, u284, u285, u286, u287, u288, u289, u290, u291, u292, u293, u294, u295, u296, u297, u298, u299, u300, u301, u302, u303, u304, u305, u306, u307, u308, u309, u310, u311, u312, u313, u314, u315, u316, u317, u318, u319, u320, u321, u322, u323, u324, u325, u326, u327, u328, u329, u330, u331, u332, u333, u334, u335, u336, u337, u338, u339, u340, u341, u342, u343, u344, u345, u346, u347, u348, u349, u350, u351, u352, u353, u354, u355, u356, u357, u358, u359, u360, u361, u362, u363, u364, u365, u366, u367, u368, u369, u370, u371, u372, u373, .slice va 256 vc, .int .i64 256, c376, c377, c378, c379, c380, c381, c382, c383, c384, c385, c386, u387, u388, u389, u390, u391, u392, u393, u394, u395, u396, u397, u398, u399, u400, u401, u402, u403, u404, u405, u406, u407, u408, u409, u410, u411, u412, u413, u414, u415, u416, u417, u418, u419, u420, u421, u422, u423, u424, u425, u426, u427, u428, u429, u430, u431, u432, u433, u434, u435, u436, u437, u438, u439, u440, u441, u442, u443, u444, u445, u446, u447, u448, u449, u450, u451, u452, u453, u454, u455, u456, u457, u458, u459, u460, u461, u462, u463, u464, u465, u466, u467, u468, u469, u470, u471, u472, u473, u474, u475, u476, u477, u478, u479, u480, u481, u482, u483, u484, u485, u486, u487, u488, u489, u490, u491, u492, u493, u494, u495, u496, u497, u498, u499, u500, u501, u502, u503, u504, u505, u506], []⟩ W')) :
    Code.wp Try.prog (pieceOf (Try.f4.body.getD .skip) [1, 1, 1, 1, 1, 1, 1, 1, 1, 1, 1, 1, 1, 1, 1, 1, 1, 1, 1, 1, 1, 1, 1, 1, 1, 1, 1, 1, 1, 1, 1, 1, 1, 1, 1, 1, 0, 1]) (Exit.then K Q) ⟨#[u0, u1, u2, .pointer (some ⟨p, 0, none⟩), .pointer (some ⟨b, 0, none⟩), u5, .pointer (some ⟨Bm, 0, none⟩), u7, u8, u9, u10, u11, u12, u13, u14, u15, u16, u17, u18, u19, u20, u21, u22, u23, u24, u25, u26, u27, u28, .bool true, u30, u31, u32, u33, u34, .bool true, .int .i64 14, u37, u38, u39, .int .i64 250, u41, .int .i64 250, .int .i64 0, u44, .int .i64 250, u46, .int .i64 250, .int .i64 250, u49, u50, .int .i64 250, .bool true, u53, u54, u55, u56, u57, u58, u59, u60, u61, u62, u63, u64, u65, u66, u67, u68, u69, u70, u71, u72, u73, u74, u75, u76, u77, u78, u79, u80, u81, u82, u83, u84, u85, u86, u87, u88, u89, u90, u91, u92, u93, u94, u95, u96, u97, u98, u99, u100, u101, u102, u103, u104, u105, u106, u107, u108, u109, u110, u111, u112, u113, u114, u115, u116, u117, u118, u119, u120, u121, u122, u123, u124, u125, u126, u127, u128, u129, u130, u131, u132, u133, u134, u135, u136, u137, u138, u139, u140, u141, u142, u143, u144, u145, u146, u147, u148, u149, u150, u151, u152, u153, u154, u155, u156, u157, u158, u159, u160, u161, u162, u163, u164, u165, u166, u167, u168, u169, u170, u171, u172, u173, u174, u175, u176, u177, u178, u179, u180, u181, u182, u183, u184, u185, u186, u187, u188, u189, u190, u191, u192, u193, u194, u195, u196, u197, u198, u199, u200, u201, u202, u203, u204, u205, u206, u207, u208, u209, u210, u211, u212, u213, u214, u215, u216, u217, u218, u219, u220, u221, u222, u223, u224, u225, u226, u227, u228, u229, u230, u231, u232, u233, u234, u235, u236, u237, u238, u239, u240, u241, u242, u243, u244, u245, u246, u247, u248, u249, u250, u251, u252, u253, u254, u255, u256, u257, u258, u259, u260, u261, u262, u263, u264, u265, u266, u267, u268, u269, u270, u271, u272, u273, u274, u275, u276, u277, u278, u279, u280, u281, u282, u283, u284, u285, u286, u287, u288, u289, u290, u291, u292, u293, u294, u295, u296, u297, u298, u299, u300, u301, u302, u303, u304, u305, u306, u307, u308, u309, u310, u311, u312, u313, u314, u315, u316, u317, u318, u319, u320, u321, u322, u323, u324, u325, u326, u327, u328, u329, u330, u331, u332, u333, u334, u335, u336, u337, u338, u339, u340, u341, u342, u343, u344, u345, u346, u347, u348, u349, u350, u351, u352, u353, u354, u355, u356, u357, u358, u359, u360, u361, u362, u363, u364, u365, u366, u367, u368, u369, u370, u371, u372, u373, .slice va 256 vc, .int .i64 256, .int .i64 0, u377, u378, u379, u380, u381, u382, u383, u384, u385, u386, u387, u388, u389, u390, u391, u392, u393, u394, u395, u396, u397, u398, u399, u400, u401, u402, u403, u404, u405, u406, u407, u408, u409, u410, u411, u412, u413, u414, u415, u416, u417, u418, u419, u420, u421, u422, u423, u424, u425, u426, u427, u428, u429, u430, u431, u432, u433, u434, u435, u436, u437, u438, u439, u440, u441, u442, u443, u444, u445, u446, u447, u448, u449, u450, u451, u452, u453, u454, u455, u456, u457, u458, u459, u460, u461, u462, u463, u464, u465, u466, u467, u468, u469, u470, u471, u472, u473, u474, u475, u476, u477, u478, u479, u480, u481, u482, u483, u484, u485, u486, u487, u488, u489, u490, u491, u492, u493, u494, u495, u496, u497, u498, u499, u500, u501, u502, u503, u504, u505, u506], []⟩ W := by
  conv => arg 2; whnf
  go_wp2_with fail
  go_loopw [376, 52] (fun i v wr => ∃ j : Nat, i = .int .i64 (j : Int) ∧ j ≤ 256 ∧ v = .bool true ∧ Hid (Sep w (vrow (.slice va 256 vc) (List.replicate 256 (0, 0)) :: chP b p k 256 0 cqa [bx Bm (layO (.slice (some ⟨Bs, 0, none⟩) 1 1) mainL), rw_ 0 3 1 (.slice (some ⟨Bs, 0, none⟩) 1 1) 1 (icells mainL.slots)]) wr)) (fun i _ _ => 256 - (intOf i).toNat)
  case atStart => exact ⟨0, rfl, Nat.zero_le _, rfl, H0⟩
  case round =>
    obtain ⟨j, rfl, hj, rfl, HRr⟩ := hrel
    clear H0
    by_cases hlt : j < 256
    · have hr1 : j < (List.replicate 256 ((0, 0) : Int × Int)).length := by rw [List.length_replicate]; exact hlt
      have hrd : Rd wr (.slice va 256 vc) (List.replicate 256 (0, 0)) := Rd.of_row (Sep.owns HRr.out (List.Mem.head _)) (by rw [List.length_replicate])
      obtain ⟨vb, vo, vc', ev, -, hvc⟩ := hrd.some (by rw [List.length_replicate]; decide)
      obtain ⟨x0, x1⟩ := hvc j hr1
      simp only [Value.slice.injEq] at ev
      obtain ⟨rfl, -, -⟩ := ev
      rw [List.getElem_replicate] at x0 x1
      simp only at x0 x1
      have hlt2 : decide ((j : Int) < 256) = true := decide_eq_true (by omega)
      have HKP : Hid (∀ {W' : World}, Below wr.heap.size wr W' → Hid (Sep w (vrow (.slice (some ⟨vb, vo, none⟩) 256 vc) (List.replicate 256 (0, 0)) :: chP b p k 256 0 cqa [bx Bm (layO (.slice (some ⟨Bs, 0, none⟩) 1 1) mainL), rw_ 0 3 1 (.slice (some ⟨Bs, 0, none⟩) 1 1) 1 (icells mainL.slots)]) W')) := fun {W'} q => Sep.keep HRr.out q
      clear HRr hvc hrd hr1
      go_wp2_with fail
      exact ⟨⟨j + 1, by go_num, by omega, rfl, HKP.out ((Below.refl _ _).alloc (Nat.le_refl _) _)⟩, by simp only [intOf]; omega⟩
    · obtain rfl : j = 256 := by omega
      have hlt2 : decide (((256 : Nat) : Int) < 256) = false := by decide
      have HF : Hid (Sep w (chP b p k 256 0 cqa [bx Bm (layO (.slice (some ⟨Bs, 0, none⟩) 1 1) mainL), rw_ 0 3 1 (.slice (some ⟨Bs, 0, none⟩) 1 1) 1 (icells mainL.slots)]) wr) := Sep.tl HRr.out
      clear HRr
      go_wp2_with fail
      exact hK.out _ _ _ _ _ _ _ _ _ _ _ _ _ HF.out
end Go.Proofs.Ytpfnnmcokbolhaa
/- ChainNames' walk: without frames. -/
namespace Go.Proofs.Ytpfnnmcokbolhaa
open Go.RowKit
set_option pp.deepTerms true
attribute [local go_sem ↓] Go.wp_at_zero Go.wp_at_succ
set_option maxRecDepth 100000 in
set_option maxHeartbeats 4000000 in
theorem cnF {w W : World} {b p k Bm Bs : Nat} {u0 u1 u2 u5 u7 u8 u9 u10 u11 u12 u13 u14 u15 u16 u17 u18 u19 u20 u21 u22 u23 u24 u25 u26 u27 u28 u30 u31 u32 u33 u34 u37 u38 u39 u40 u41 u42 u43 u44 u45 u46 u47 u48 u49 u50 u51 u52 u53 u54 u55 u56 u57 u58 u59 u60 u61 u62 u63 u64 u65 u66 u67 u68 u69 u70 u71 u72 u73 u74 u75 u76 u77 u78 u79 u80 u81 u82 u83 u84 u85 u86 u87 u88 u89 u90 u91 u92 u93 u94 u95 u96 u97 u98 u99 u100 u101 u102 u103 u104 u105 u106 u107 u108 u109 u110 u111 u112 u113 u114 u115 u116 u117 u118 u119 u120 u121 u122 u123 u124 u125 u126 u127 u128 u129 u130 u131 u132 u133 u134 u135 u136 u137 u138 u139 u140 u141 u142 u143 u144 u145 u146 u147 u148 u149 u150 u151 u152 u153 u154 u155 u156 u157 u158 u159 u160 u161 u162 u163 u164 u165 u166 u167 u168 u169 u170 u171 u172 u173 u174 u175 u176 u177 u178 u179 u180 u181 u182 u183 u184 u185 u186 u187 u188 u189 u190 u191 u192 u193 u194 u195 u196 u197 u198 u199 u200 u201 u202 u203 u204 u205 u206 u207 u208 u209 u210 u211 u212 u213 u214 u215 u216 u217 u218 u219 u220 u221 u222 u223 u224 u225 u226 u227 u228 u229 u230 u231 u232 u233 u234 u235 u236 u237 u238 u239 u240 u241 u242 u243 u244 u245 u246 u247 u248 u249 u250 u251 u252 u253 u254 u255 u256 u257 u258 u259 u260 u261 u262 u263 u264 u265 u266 u267 u268 u269 u270 u271 u272 u273 u274 u275 u276 u277 u278 u279 u280 u281 u282 u283 u284 u285 u286 u287 u288 u289 u290 u291 u292 u293 u294 u295 u296 u297 u298 u299 u300 u301 u302 u303 u304 u305 u306 u307 u308 u309 u310 u311 u312 u313 u314 u315 u316 u317 u318 u319 u320 u321 u322 u323 u324 u325 u326 u327 u328 u329 u330 u331 u332 u333 u334 u335 u336 u337 u338 u339 u340 u341 u342 u343 u344 u345 u346 u347 u348 u349 u350 u351 u352 u353 u354 u355 u356 u357 u358 u359 u360 u361 u362 u363 u364 u365 u366 u367 u368 u369 u370 u371 u372 u373 u374 u375 u376 u377 u378 u379 u380 u381 u382 u383 u384 u385 u386 u387 u388 u389 u390 u391 u392 u393 u394 u395 u396 u397 u398 u399 u400 u401 u402 u403 u404 u405 u406 u407 u408 u409 u410 u411 u412 u413 u414 u415 u416 u417 u418 u419 u420 u421 u422 u423 u424 u425 u426 u427 u428 u429 u430 u431 u432 u433 u434 u435 u436 u437 u438 u439 u440 u441 u442 u443 u444 u445 u446 u447 u448 u449 u450 u451 u452 u453 u454 u455 u456 u457 u458 u459 u460 u461 u462 u463 u464 u465 u466 u467 u468 u469 u470 u471 u472 u473 u474 u475 u476 u477 u478 u479 u480 u481 u482 u483 u484 u485 u486 u487 u488 u489 u490 u491 u492 u493 u494 u495 u496 u497 u498 u499 u500 u501 u502 u503 u504 u505 u506 : Value} (H0 : Hid (Sep w (chP b p k 256 0 cq9 [bx Bm (layO (.slice (some ⟨Bs, 0, none⟩) 1 1) mainL), rw_ 0 3 1 (.slice (some ⟨Bs, 0, none⟩) 1 1) 1 (icells mainL.slots)]) W)) :
    Code.wp Try.prog (pieceOf (Try.f4.body.getD .skip) [1, 1, 1, 1, 1, 1, 1, 1, 1, 1, 1, 1, 1, 1, 1, 1, 1, 1, 1, 1, 1, 1, 1, 1, 1, 1, 1, 1]) (bodyPost Try.prog Try.f4 (fun e w' => e = .returned (.bool true) ∧ Below w.heap.size w w')) ⟨#[u0, u1, u2, .pointer (some ⟨p, 0, none⟩), .pointer (some ⟨b, 0, none⟩), u5, .pointer (some ⟨Bm, 0, none⟩), u7, u8, u9, u10, u11, u12, u13, u14, u15, u16, u17, u18, u19, u20, u21, u22, u23, u24, u25, u26, u27, u28, .bool true, u30, u31, u32, u33, u34, .bool true, .int .i64 14, u37, u38, u39, u40, u41, u42, u43, u44, u45, u46, u47, u48, u49, u50, u51, u52, u53, u54, u55, u56, u57, u58, u59, u60, u61, u62, u63, u64, u65, u66, u67, u68, u69, u70, u71, u72, u73, u74, u75, u76, u77, u78, u79, u80, u81, u82, u83, u84, u85, u86, u87, u88, u89, u90, u91, u92, u93, u94, u95, u96, u97, u98, u99, u100, u101, u102, u103, u104, u105, u106, u107, u108, u109, u110, u111, u112, u113, u114, u115, u116, u117, u118, u119, u120, u121, u122, u123, u124, u125, u126, u127, u128, u129, u130, u131, u132, u133, u134, u135, u136, u137, u138, u139, u140, u141, u142, u143, u144, u145, u146, u147, u148, u149, u150, u151, u152, u153, u154, u155, u156, u157, u158, u159, u160, u161, u162, u163, u164, u165, u166, u167, u168, u169, u170, u171, u172, u173, u174, u175, u176, u177, u178, u179, u180, u181, u182, u183, u184, u185, u186, u187, u188, u189, u190, u191, u192, u193, u194, u195, u196, u197, u198, u199, u200, u201, u202, u203, u204, u205, u206, u207, u208, u209, u210, u211, u212, u213, u214, u215, u216, u217, u218, u219, u220, u221, u222, u223, u224, u225, u226, u227, u228, u229, u230, u231, u232, u233, u234, u235, u236, u237, u238, u239, u240, u241, u242, u243, u244, u245, u246, u247, u248, u249, u250, u251, u252, u253, u254, u255, u256, u257, u258, u259, u260, u261, u262, u263, u264, u265, u266, u267, u268, u269, u270, u271, u272, u273, u274, u275, u276, u277, u278, u279, u280, u281, u282, u283, u284, u285, u286, u287, u288, u289, u290, u291, u292, u293, u294, u295, u296, u297, u298, u299, u300, u301, u302, u303, u304, u305, u306, u307, u308, u309, u310, u311, u312, u313, u314, u315, u316, u317, u318, u319, u320, u321, u322, u323, u324, u325, u326, u327, u328, u329, u330, u331, u332, u333, u334, u335, u336, u337, u338, u339, u340, u341, u342, u343, u344, u345, u346, u347, u348, u349, u350, u351, u352, u353, u354, u355, u356, u357, u358, u359, u360, u361, u362, u363, u364, u365, u366, u367, u368, u369, u370, u371, u372, u373, u374, u375, u376, u377, u378, u379, u380, u381, u382, u383, u384, u385, u386, u387, u388, u389, u390, u391, u392, u393, u394, u395, u396, u397, u398, u399, u400, u401, u402, u403, u404, u405, u406, u407, u408, u409, u410, u411, u412, u413, u414, u415, u416, u417, u418, u419, u420, u421, u422, u423, u424, u425, u426, u427, u428, u429, u430, u431, u432, u433, u434, u435, u436, u437, u438, u439, u440, u441, u442, u443, u444, u445, u446, u447, u448, u449, u450, u451, u452, u453, u454, u455, u456, u457, u458, u459, u460, u461, u462, u463, u464, u465, u466, u467, u468, u469, u470, u471, u472, u473, u474, u475, u476, u477, u478, u479, u480, u481, u482, u483, u484, u485, u486, u487, u488, u489, u490, u491, u492, u493, u494, u495, u496, u497, u498, u499, u500, u501, u502, u503, u504, u505, u506], []⟩ W := by
  conv => arg 2; whnf
  have HC1 := Hid.mk (caddr_eq H0.out (cn_ok (List.Mem.tail _ (List.Mem.tail _ (List.Mem.tail _ (List.Mem.tail _ (List.Mem.tail _ (List.Mem.tail _ (List.Mem.tail _ (List.Mem.tail _ (List.Mem.tail _ (List.Mem.head _))))))))))) cn_ne.2.2.2.2.1 ce15)
  go_wp2_with fail
  refine HC1.out.mono ?_
  rintro e w1 ⟨h, rfl⟩
  have H1 := Hid.mk h
  clear h HC1 H0 
  have h := chP_in (Sep.alloc H1.out (.cells #[.int .i64 0, .int .i64 0] 34))
  have H2 := Hid.mk h
  clear h H1
  have HC3 := Hid.mk (cget_eq H2.out (cn_ok (List.Mem.tail _ (List.Mem.tail _ (List.Mem.tail _ (List.Mem.tail _ (List.Mem.tail _ (List.Mem.tail _ (List.Mem.tail _ (List.Mem.tail _ (List.Mem.tail _ (List.Mem.head _))))))))))) cn_ne.2.2.2.2.1 ce16)
  go_wp2_with fail
  refine HC3.out.mono ?_
  rintro e w3 ⟨h, rfl⟩
  have H3 := Hid.mk h
  clear h HC3 H2 
  have h := chP_in (Sep.alloc H3.out (.cells #[.int .i64 0, .int .i64 0] 34))
  have H4 := Hid.mk h
  clear h H3
  have HC5 := Hid.mk (cdrop_eq H4.out (cn_ok (List.Mem.tail _ (List.Mem.tail _ (List.Mem.tail _ (List.Mem.tail _ (List.Mem.tail _ (List.Mem.tail _ (List.Mem.tail _ (List.Mem.tail _ (List.Mem.tail _ (List.Mem.head _))))))))))) ca_drop)
  go_wp2_with fail
  refine HC5.out.mono ?_
  rintro e w5 ⟨h, rfl⟩
  have H5 := Hid.mk h
  clear h HC5 H4 
  have HC6 := Hid.mk (cresults_eq H5.out (chOk_of ca_ok) ca_res)
  go_wp2_with fail
  refine HC6.out.mono ?_
  rintro e w6 ⟨ra, rn, rc, h, rfl⟩
  have H6 := Hid.mk h
  clear h HC6 H5 
  have HC7 := Hid.mk (cpop_eq H6.out (chOk_of ca_ok) ca_pop)
  go_wp2_with fail
  refine HC7.out.mono ?_
  rintro e w7 ⟨h, rfl⟩
  have H7 := Hid.mk h
  clear h HC7 H6 
  have h := chP_in (Sep.alloc H7.out (.cells #[.int .i64 0, .int .i64 0] 34))
  have H8 := Hid.mk h
  clear h H7
  have HC9 := Hid.mk (cdrop_eq H8.out (chOk_of ca_ok) ca_drop2)
  go_wp2_with fail
  refine HC9.out.mono ?_
  rintro e w9 ⟨h, rfl⟩
  have H9 := Hid.mk h
  clear h HC9 H8 
  have HC10 := Hid.mk (cplace_eq H9.out (chOk_of ca_ok) ca_link ca_place)
  go_wp2_with fail
  refine HC10.out.mono ?_
  rintro e w10 ⟨h, rfl⟩
  have H10 := Hid.mk h
  clear h HC10 H9 
  have h := (Sep.lose 3 (Sep.lose 4 (Sep.lose 5 H10.out)))
  have HF := Hid.mk h
  clear h H10
  have HC11 := Hid.mk (cwords_cqa HF.out)
  go_wp2_with fail
  refine HC11.out.mono ?_
  rintro e w11 ⟨va, vc, rfl, h⟩
  have H11 := Hid.mk h
  clear h HC11 HF 
  go_upto_block 6 with (fail)
  refine cnF6 H11 (Hid.mk ?_)
  intro _ _ _ _ _ _ _ _ _ _ _ _ W' h
  apply_assumption
  exact cnG (Hid.mk h)
end Go.Proofs.Ytpfnnmcokbolhaa
