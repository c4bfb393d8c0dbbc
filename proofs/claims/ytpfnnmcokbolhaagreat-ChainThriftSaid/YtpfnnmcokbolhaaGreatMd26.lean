/- Parts Vj, put together. -/
import Derived.Test.YtpfnnmcokbolhaaGreatMd25
/- ChainThrift's walk. -/
namespace Go.Proofs.YtpfnnmcokbolhaaGreat
open Go.RowKit
set_option pp.deepTerms true
set_option maxRecDepth 100000 in
set_option maxHeartbeats 4000000 in
theorem thrift_any {w : World} {v : Value} {os : List OpV} (h : Ops25 w v os) (s c : Int) : Calls Tryz.prog 4 #[.agg #[.int .i64 s, .int .i64 c], v] w fun e w' => e = .returned (.bool true) ∧ Below w.heap.size w w' := by
  have h00 := h
  obtain ⟨⟨ao, cv, rfl⟩, hml, hok, hc⟩ := h
  obtain ⟨n, hn⟩ : ∃ n, os.length = n := ⟨_, rfl⟩
  have HN := Hid.mk hn
  have HC : Hid (∀ i (hi : i < os.length), ∃ b o, ao = some ⟨b, o, none⟩ ∧ b < w.heap.size ∧ OpVAt w b (o + i * 10) os[i] ∧ OpVOk w os[i]) := by
    intro i hi
    obtain ⟨b, o, c', e, hb, ha⟩ := hc (by omega)
    simp only [Value.slice.injEq] at e
    exact ⟨b, o, e.1, hb, ha i hi, hok _ (List.getElem_mem hi)⟩
  have H00 := Hid.mk h00
  obtain ⟨B2, hB2⟩ : ∃ B, w.heap.size = B := ⟨_, rfl⟩
  have h0 : Sep w [bx B2 (.cells #[.int .i64 s, .int .i64 c] 23)] (w.alloc (.cells #[.int .i64 s, .int .i64 c] 23)) := by
    have := (Sep.nil (Below.refl w.heap.size w)).alloc (.cells #[.int .i64 s, .int .i64 c] 23)
    rw [hB2] at this
    exact this
  have H0 := Hid.mk h0
  have HB2 := Hid.mk hB2
  rw [hn] at H00 ⊢
  clear hc hok hml h00 h0 hB2 hn
  have H00 := H00
  go_enter Tryz.func4, Tryz.ntmps4
  go_wp2_with fail
  refine (alive25_any _).mono ?_
  rintro e w1 ⟨hb1, rfl⟩
  have h1 := Sep.keep H0.out hb1
  rw [HB2.out]
  obtain ⟨c0, c1, -⟩ := two_cells h1 (q := B2) (List.Mem.head _)
  have HT := Hid.mk (twins_any h1 s c)
  clear h1 hb1 H0
  go_wp2_with fail
  refine HT.out.mono ?_
  clear c0 c1 HT
  rintro e w2 (⟨hseg, t, b, p, k, h2, rfl⟩ | ⟨hseg, h2, rfl⟩)
  · obtain ⟨c0, c1, -⟩ := two_cells h2 (q := B2) (tw_mem (List.Mem.head _))
    have HG := Hid.mk (great25_any (H00.out.below h2.size) s c)
    have H2 := Hid.mk h2
    have HSEG := Hid.mk hseg
    clear h2 hseg
    go_wp2_with fail
    refine HG.out.mono ?_
    rintro e w3 ⟨hb3, rfl | ⟨rfl, hsm⟩⟩
    · have HB := Hid.mk (Sep.keep H2.out hb3).size
      clear hb3 H2 HG c0 c1
      go_wp2_with fail
      go_ret
      exact ⟨rfl, HB.out⟩
    · obtain ⟨hs80, hsz, hs100⟩ := hsm
      rw [HN.out] at hs80
      have hsz' : s ≤ 2000 := by
        have := HSEG.out
        simp only [segOk, rangeB, Bool.and_eq_true, decide_eq_true_eq] at this
        omega
      have HR : Hid (∃ N, TwR w w3 t b p k s c 0 N [bx B2 (.cells #[.int .i64 s, .int .i64 c] 23)]) := ⟨_, (TwR.new H2.out HSEG.out hsz').keep hb3⟩
      have HS := Hid.mk hs100
      clear hb3 H2 HG c0 c1 hsz hs100 H00
      go_wp2_with fail
      go_loopw [40] (fun i wr => ∃ j : Nat, i = .int .i64 (j : Int) ∧ j ≤ n ∧ Hid (∃ N, TwR w wr t b p k s c j N [bx B2 (.cells #[.int .i64 s, .int .i64 c] 23)])) (fun i _ => n - (intOf i).toNat)
      case atStart => exact ⟨0, rfl, Nat.zero_le _, HR⟩
      case round =>
        obtain ⟨j, rfl, hj, HREL⟩ := hrel
        clear HR
        by_cases hlt : j < n
        · have h1 : j < os.length := by rw [HN.out]; exact hlt
          obtain ⟨ba, oa, rfl, hbl, ha, hv⟩ := HC.out j h1
          have hlen := HS.out _ (List.getElem_mem h1)
          obtain ⟨N0, hR⟩ := HREL.out
          have hbw := hR.sep.size
          obtain ⟨a0, a1, a2, a3, a4, a5, a6, a7, a8, a9⟩ := ha.below hbw hbl
          obtain ⟨hv1, hv2, aa, ac, hav⟩ := hv
          obtain ⟨⟨o, sv, av, an, last⟩, hx⟩ : ∃ x, os[j] = x := ⟨_, rfl⟩
          rw [hx] at a0 a1 a2 a3 a4 a5 a6 a7 a8 a9 hv1 hv2 hav hlen
          simp only at a0 a1 a2 a3 a4 a5 a6 a7 a8 a9 hv1 hv2 hav hlen
          obtain ⟨sa, sc, rfl⟩ := hv1.shape
          subst hav
          have hm := hR.more (.cells #[.int .i64 o.kind, .int .i64 o.n, .slice sa o.l.slots.length sc, .int .i64 o.l.args, .int .i64 o.l.res, .int .i64 o.l.height, .slice aa an ac, .int .i64 o.v.1, .int .i64 o.v.2, .bool last] 36)
          have HDO := Hid.mk (TwR.do_ (n' := j + 1) hm (by omega) (by split <;> omega) (o := o) (av := .slice aa an ac) (last := last) (fun W' q => hv1.below q.size) hv2 hlen)
          clear hR hm hv1 hv2 hlen hx ha hbl HREL h1 HC hbw
          go_wp2_with fail
          refine HDO.out.mono ?_
          rintro e w4 ⟨hR4, rfl⟩
          obtain ⟨N, hN⟩ : ∃ N, stepN N0 o = N := ⟨_, rfl⟩
          rw [hN] at hR4
          have hR4 := hR4.lose
          obtain ⟨k0, -⟩ := hR4.depth
          have HSG := Hid.mk (hR4.segs (by omega))
          clear HDO hR4 a0 a1 a2 a3 a4 a5 a6 a7 a8 a9 hN
          go_wp2_with fail
          refine HSG.out.mono ?_
          rintro e w5 ⟨hR5, ga, nl, gc, gb, nk, gd, rfl, q1, q2, q3⟩
          clear HSG k0
          obtain ⟨c0, c1, -⟩ := two_cells hR5.sep (q := B2) (List.Mem.head _)
          obtain ⟨⟨la, lc, k1⟩, hlm⟩ := hR5.len
          obtain ⟨k0, -⟩ := hR5.depth
          obtain ⟨m, hm⟩ : ∃ m, N.M.length = m := ⟨_, rfl⟩
          rw [hm] at k1 hlm q2
          have H5 := Hid.mk hR5
          have HM := Hid.mk hm
          clear hR5 hm
          have z1 : decide ((nl : Int) < 1) = false := by simp; omega
          have z3 : decide ((nk : Int) > c) = false := by simp; omega
          have z4 : decide (c < (nk : Int)) = false := by simp; omega
          have HWD := Hid.mk (H5.out.words (by omega))
          have HE5 : Hid (∃ N, TwR w w5 t b p k s c (j + 1) N [bx B2 (.cells #[.int .i64 s, .int .i64 c] 23)]) := ⟨_, H5.out⟩
          have HML := Hid.mk hlm
          by_cases hm1 : (1 : Int) < m
          · have z5 : (nl : Int) ≤ m := by omega
            clear q2 q3
            go_wp2_with fail
            all_goals try exact ⟨⟨j + 1, by go_num, by omega, HE5⟩, by simp [intOf]; omega⟩
            all_goals
              refine HWD.out.mono ?_
              rintro e w6 ⟨va, ws, vc, rfl, hR6, hwl, hcnt, hmost⟩
              obtain ⟨lw, hlw⟩ : ∃ l, ws.length = l := ⟨_, rfl⟩
              have HRD : Hid (∀ {W' : World}, TwR w W' t b p k s c (j + 1) N (vrow (.slice va ws.length vc) ws :: [bx B2 (.cells #[.int .i64 s, .int .i64 c] 23)]) → Rd W' (.slice va ws.length vc) ws) := fun {W'} q => TwR.rd q (List.Mem.head _)
              have HR6 : Hid (TwR w w6 t b p k s c (j + 1) N (vrow (.slice va ws.length vc) ws :: [bx B2 (.cells #[.int .i64 s, .int .i64 c] 23)])) := hR6
              have HLW := Hid.mk hlw
              have HCN := Hid.mk hcnt
              have HMO := Hid.mk hmost
              rw [hlw] at hwl ⊢
              clear HWD H5 hR6 hcnt hmost hlw c0 c1 k0 k1 HE5
              go_wp2_with fail
              go_loopw [94, 11] (fun i f wr => ∃ r : Nat, i = .int .i64 (r : Int) ∧ r ≤ lw ∧ f = .int .i64 (cnt (ws.take r) : Int) ∧ Hid (TwR w wr t b p k s c (j + 1) N (vrow (.slice va ws.length vc) ws :: [bx B2 (.cells #[.int .i64 s, .int .i64 c] 23)]))) (fun i _ _ => lw - (intOf i).toNat)
              case atStart => exact ⟨0, rfl, Nat.zero_le _, rfl, HR6⟩
              case round =>
                obtain ⟨r, rfl, hr, rfl, HRr⟩ := hrel
                clear HR6
                by_cases hltr : r < lw
                · have hr1 : r < ws.length := by rw [HLW.out]; exact hltr
                  obtain ⟨vb, vo, vc', ev, -, hvc⟩ := (HRD.out HRr.out).some (by omega)
                  obtain ⟨x0, x1⟩ := hvc r hr1
                  simp only [Value.slice.injEq] at ev
                  obtain ⟨rfl, -, -⟩ := ev
                  have hct := cnt_take hr1
                  obtain ⟨⟨v1, v2⟩, hv⟩ : ∃ v, ws[r] = v := ⟨_, rfl⟩
                  rw [hv] at x0 x1 hct
                  simp only at x0 x1
                  have HKP : Hid (∀ {W' : World}, Below wr.heap.size wr W' → Hid (TwR w W' t b p k s c (j + 1) N (vrow (.slice (some ⟨vb, vo, none⟩) ws.length vc) ws :: [bx B2 (.cells #[.int .i64 s, .int .i64 c] 23)]))) := fun {W'} q => HRr.out.keep q
                  have hcl : cnt (ws.take r) ≤ ws.length := Nat.le_trans (List.countP_le_length) (by rw [List.length_take]; omega)
                  rw [HLW.out] at hcl
                  clear HRr hvc hv
                  by_cases hz : v1 = 0 ∧ v2 = 0
                  · obtain ⟨rfl, rfl⟩ := hz
                    simp only [if_true, Nat.add_zero] at hct
                    have HCT := Hid.mk hct
                    clear hct
                    go_wp2_with fail
                    exact ⟨⟨r + 1, by go_num, by omega, by rw [HCT.out], HKP.out ((Below.refl _ _).alloc (Nat.le_refl _) _)⟩, by simp only [intOf]; omega⟩
                  · have hct : cnt (ws.take (r + 1)) = cnt (ws.take r) + 1 := by rw [hct, if_neg (by simpa using hz)]
                    have HCT := Hid.mk hct
                    clear hct
                    by_cases hz1 : v1 = 0
                    · subst hz1
                      have f2 : (v2 == 0) = false := by simp; exact fun e => hz ⟨rfl, e⟩
                      clear hz
                      go_wp2_with fail
                      exact ⟨⟨r + 1, by go_num, by omega, by rw [HCT.out]; go_num, HKP.out ((Below.refl _ _).alloc (Nat.le_refl _) _)⟩, by simp only [intOf]; omega⟩
                    · have f1 : (v1 == 0) = false := by simp [hz1]
                      clear hz
                      go_wp2_with fail
                      exact ⟨⟨r + 1, by go_num, by omega, by rw [HCT.out]; go_num, HKP.out ((Below.refl _ _).alloc (Nat.le_refl _) _)⟩, by simp only [intOf]; omega⟩
                · obtain rfl : r = lw := by omega
                  have HFL : Hid (cnt (ws.take r) = needN N) := by
                    have : ws.take r = ws := List.take_of_length_le (by rw [HLW.out]; exact Nat.le_refl _)
                    unfold Hid
                    rw [this]
                    exact HCN.out
                  obtain ⟨fc, hfc⟩ : ∃ q, cnt (ws.take r) = q := ⟨_, rfl⟩
                  rw [hfc] at HFL ⊢
                  have hfl : fc ≤ r := by rw [← hfc]; exact Nat.le_trans (List.countP_le_length) (by rw [List.length_take]; omega)
                  obtain ⟨T, Z, ⟨lv, pv, ml, hM, hS⟩, hs, hTN⟩ := HRr.out
                  obtain ⟨k0, k1, -, -, -⟩ := tw_k hS
                  obtain ⟨⟨xa, xc, rfl⟩, -⟩ := tw_shapes hS
                  obtain ⟨mm, hmm⟩ : ∃ q, ml.length = q := ⟨_, rfl⟩
                  rw [hmm] at k1
                  have HSP : Hid (Sep w (twL t b (.slice xa mm xc) pv ml T.Q T.many ++ chP b p k s c T.C (vrow (.slice va ws.length vc) ws :: [bx B2 (.cells #[.int .i64 s, .int .i64 c] 23)])) wr) := by
                    have q := hS
                    rw [hmm] at q
                    exact q
                  have HOK : Hid (∀ x ∈ ml, layOk x.m.lay = true ∧ x.m.slots.length ≤ 64 ∧ x.m.ops.length ≤ 64) := fun x hx => by
                    have q := hs.md (m := x.m) (by rw [← hM]; exact List.mem_map.2 ⟨x, hx, rfl⟩)
                    exact ⟨q.1, q.2.2.1, q.2.2.2.2⟩
                  have hmb : mm ≤ 290 := by
                    have q := hs.len.1
                    rw [← hM, List.length_map, hmm] at q
                    omega
                  have HEM : Hid (mostL ml = mostN N ∧ needL ml = needN N) := by
                    subst hTN
                    exact ⟨mostL_N hM, needL_N hM⟩
                  have HTR : Hid (∀ {W' : World}, Sep w (twL t b (.slice xa mm xc) pv ml T.Q T.many ++ chP b p k s c T.C (vrow (.slice va ws.length vc) ws :: [bx B2 (.cells #[.int .i64 s, .int .i64 c] 23)])) W' → ∃ N, TwR w W' t b p k s c (j + 1) N [bx B2 (.cells #[.int .i64 s, .int .i64 c] 23)]) := fun {W'} q => by
                    rw [← hmm] at q
                    exact ⟨_, T, Z, ⟨_, _, _, hM, tw_lose q⟩, hs, rfl⟩
                  have HMM := Hid.mk hmm
                  clear HRr hfc HCN HRD hS hs hM hTN hmm
                  go_wp2_with fail
                  go_loopw [109, 12, 15] (fun i f g wr => ∃ q : Nat, i = .int .i64 (q : Int) ∧ q ≤ mm ∧ f = .int .i64 (mostL (ml.drop (mm - q))) ∧ g = .int .i64 (needL (ml.drop (mm - q)) : Int) ∧ Hid (Sep w (twL t b (.slice xa mm xc) pv ml T.Q T.many ++ chP b p k s c T.C (vrow (.slice va ws.length vc) ws :: [bx B2 (.cells #[.int .i64 s, .int .i64 c] 23)])) wr)) (fun i _ _ _ => mm - (intOf i).toNat)
                  case atStart => exact ⟨0, rfl, Nat.zero_le _, by rw [Nat.sub_zero, ← HMM.out, List.drop_length]; rfl, by rw [Nat.sub_zero, ← HMM.out, List.drop_length]; rfl, HSP⟩
                  case round =>
                    obtain ⟨q, rfl, hq, rfl, rfl, HSq⟩ := hrel
                    clear HSP k0 k1
                    have hbd := sums_le (ml := ml.drop (mm - q)) (fun x hx => HOK.out x (List.mem_of_mem_drop hx))
                    rw [List.length_drop, HMM.out] at hbd
                    obtain ⟨hb1, hb2, hb3⟩ := hbd
                    by_cases hltq : q < mm
                    · have hS' := HSq.out
                      rw [← HMM.out] at hS'
                      obtain ⟨⟨lvx, svx, ovx, mx⟩, g, gc2, eg, edrop, hx, hcells, hrd, ⟨sa', sc', esx⟩, ⟨oa', oc', eox⟩⟩ := model_G hS' (by rw [HMM.out]; exact hltq)
                      simp only at esx eox
                      subst esx eox
                      obtain ⟨y0, y1, y2, y3, y4, y5, y6⟩ := hcells
                      simp only at y0 y1 y2 y3 y4 y5 y6 hrd
                      obtain ⟨la', lc', elx⟩ := hrd.shape
                      subst elx
                      rw [HMM.out] at eg edrop
                      simp only [Value.slice.injEq] at eg
                      obtain ⟨rfl, -, -⟩ := eg
                      obtain ⟨ok1, ok2, ok3⟩ := HOK.out _ hx
                      simp only at ok1 ok2 ok3
                      have e1 := mostL_cons ⟨.slice la' mx.lay.slots.length lc', .slice sa' mx.slots.length sc', .slice oa' mx.ops.length oc', mx⟩ (ml.drop (mm - q))
                      have e2 := needL_cons ⟨.slice la' mx.lay.slots.length lc', .slice sa' mx.slots.length sc', .slice oa' mx.ops.length oc', mx⟩ (ml.drop (mm - q))
                      rw [← edrop] at e1 e2
                      simp only at e1 e2
                      obtain ⟨-, ok4, -, -, -, -, ok5, ok6⟩ := (layOk_iff _).1 ok1
                      have ewd : mx.lay.words = (mx.lay.slots.length : Int) + mx.lay.height + 1 := rfl
                      obtain ⟨wdl, hwd⟩ : ∃ z, mx.lay.words = z := ⟨_, rfl⟩
                      have HWD : Hid (∀ {W' : World}, Below wr.heap.size wr W' → Calls Tryz.prog 16 #[.agg #[.slice la' mx.lay.slots.length lc', .int .i64 mx.lay.args, .int .i64 mx.lay.res, .int .i64 mx.lay.height]] W' fun e w' => Below W'.heap.size W' w' ∧ e = .returned (.int .i64 wdl)) := fun {W'} z => by
                        subst hwd
                        exact lWords_any (l := mx.lay) (hrd.below z) ok1
                      have hbA : Below wr.heap.size wr (wr.alloc (.cells #[.slice la' mx.lay.slots.length lc', .int .i64 mx.lay.args, .int .i64 mx.lay.res, .int .i64 mx.lay.height, .slice sa' mx.slots.length sc', .slice oa' mx.ops.length oc', .int .i64 mx.which] 56)) := (Below.refl _ _).alloc (Nat.le_refl _) _
                      have HW1 := Hid.mk (HWD.out hbA)
                      have HBA := Hid.mk hbA
                      have HE1 := Hid.mk e1
                      have HE2 := Hid.mk e2
                      rw [hwd] at HE1 ewd
                      clear HWD hbA hrd hx edrop e1 e2 hS' ok1 hwd
                      go_wp2_with fail
                      refine HW1.out.mono ?_
                      rintro e w8 ⟨hb8, rfl⟩
                      have hbx : w8.heap[wr.heap.size]? = some (.cells #[.slice la' mx.lay.slots.length lc', .int .i64 mx.lay.args, .int .i64 mx.lay.res, .int .i64 mx.lay.height, .slice sa' mx.slots.length sc', .slice oa' mx.ops.length oc', .int .i64 mx.which] 56 (0, 0)) := (hb8.block _ (by simp)).trans (heap_alloc_new _ _)
                      have b4 : w8.cell? ⟨wr.heap.size, 4, none⟩ = some (.slice sa' mx.slots.length sc') := by rw [cell_of_row w8 _ 4 _ _ _ hbx]; rfl
                      have b5 : w8.cell? ⟨wr.heap.size, 5, none⟩ = some (.slice oa' mx.ops.length oc') := by rw [cell_of_row w8 _ 5 _ _ _ hbx]; rfl
                      have HS8 : Hid (Sep w (twL t b (.slice (some ⟨g, 0, none⟩) mm xc) pv ml T.Q T.many ++ chP b p k s c T.C (vrow (.slice va ws.length vc) ws :: [bx B2 (.cells #[.int .i64 s, .int .i64 c] 23)])) w8) := HSq.out.keep (HBA.out.trans (hb8.mono (by simp)))
                      clear hbx hb8 HBA HW1 HSq y0 y1 y2 y3 y4 y5 y6
                      go_wp2_with fail
                      exact ⟨⟨q + 1, by go_num, by omega, by rw [HE1.out]; go_num, by rw [HE2.out]; go_num, HS8⟩, by simp only [intOf]; omega⟩
                    · obtain rfl : q = mm := by omega
                      rw [Nat.sub_self, List.drop_zero, HEM.out.1, HEM.out.2, ← HFL.out]
                      have hmo := HMO.out
                      rw [← HFL.out] at hmo
                      obtain ⟨mo, hmo'⟩ : ∃ z, mostN N = z := ⟨_, rfl⟩
                      rw [hmo'] at hmo ⊢
                      have HN5 := Hid.mk (HTR.out HSq.out)
                      clear HTR HSq HEM HOK HMM hmo' hb1 hb2 hb3 HMO HFL
                      go_wp2_with fail
                      exact ⟨⟨j + 1, by go_num, by omega, HN5⟩, by simp [intOf]; omega⟩
          · have z5 : (nl : Int) ≤ 1 := by omega
            clear q2 q3
            go_wp2_with fail
            all_goals try exact ⟨⟨j + 1, by go_num, by omega, HE5⟩, by simp [intOf]; omega⟩
            all_goals
              refine HWD.out.mono ?_
              rintro e w6 ⟨va, ws, vc, rfl, hR6, hwl, hcnt, hmost⟩
              obtain ⟨lw, hlw⟩ : ∃ l, ws.length = l := ⟨_, rfl⟩
              have HRD : Hid (∀ {W' : World}, TwR w W' t b p k s c (j + 1) N (vrow (.slice va ws.length vc) ws :: [bx B2 (.cells #[.int .i64 s, .int .i64 c] 23)]) → Rd W' (.slice va ws.length vc) ws) := fun {W'} q => TwR.rd q (List.Mem.head _)
              have HR6 : Hid (TwR w w6 t b p k s c (j + 1) N (vrow (.slice va ws.length vc) ws :: [bx B2 (.cells #[.int .i64 s, .int .i64 c] 23)])) := hR6
              have HLW := Hid.mk hlw
              have HCN := Hid.mk hcnt
              have HMO := Hid.mk hmost
              rw [hlw] at hwl ⊢
              clear HWD H5 hR6 hcnt hmost hlw c0 c1 k0 k1 HE5
              go_wp2_with fail
              go_loopw [94, 11] (fun i f wr => ∃ r : Nat, i = .int .i64 (r : Int) ∧ r ≤ lw ∧ f = .int .i64 (cnt (ws.take r) : Int) ∧ Hid (TwR w wr t b p k s c (j + 1) N (vrow (.slice va ws.length vc) ws :: [bx B2 (.cells #[.int .i64 s, .int .i64 c] 23)]))) (fun i _ _ => lw - (intOf i).toNat)
              case atStart => exact ⟨0, rfl, Nat.zero_le _, rfl, HR6⟩
              case round =>
                obtain ⟨r, rfl, hr, rfl, HRr⟩ := hrel
                clear HR6
                by_cases hltr : r < lw
                · have hr1 : r < ws.length := by rw [HLW.out]; exact hltr
                  obtain ⟨vb, vo, vc', ev, -, hvc⟩ := (HRD.out HRr.out).some (by omega)
                  obtain ⟨x0, x1⟩ := hvc r hr1
                  simp only [Value.slice.injEq] at ev
                  obtain ⟨rfl, -, -⟩ := ev
                  have hct := cnt_take hr1
                  obtain ⟨⟨v1, v2⟩, hv⟩ : ∃ v, ws[r] = v := ⟨_, rfl⟩
                  rw [hv] at x0 x1 hct
                  simp only at x0 x1
                  have HKP : Hid (∀ {W' : World}, Below wr.heap.size wr W' → Hid (TwR w W' t b p k s c (j + 1) N (vrow (.slice (some ⟨vb, vo, none⟩) ws.length vc) ws :: [bx B2 (.cells #[.int .i64 s, .int .i64 c] 23)]))) := fun {W'} q => HRr.out.keep q
                  have hcl : cnt (ws.take r) ≤ ws.length := Nat.le_trans (List.countP_le_length) (by rw [List.length_take]; omega)
                  rw [HLW.out] at hcl
                  clear HRr hvc hv
                  by_cases hz : v1 = 0 ∧ v2 = 0
                  · obtain ⟨rfl, rfl⟩ := hz
                    simp only [if_true, Nat.add_zero] at hct
                    have HCT := Hid.mk hct
                    clear hct
                    go_wp2_with fail
                    exact ⟨⟨r + 1, by go_num, by omega, by rw [HCT.out], HKP.out ((Below.refl _ _).alloc (Nat.le_refl _) _)⟩, by simp only [intOf]; omega⟩
                  · have hct : cnt (ws.take (r + 1)) = cnt (ws.take r) + 1 := by rw [hct, if_neg (by simpa using hz)]
                    have HCT := Hid.mk hct
                    clear hct
                    by_cases hz1 : v1 = 0
                    · subst hz1
                      have f2 : (v2 == 0) = false := by simp; exact fun e => hz ⟨rfl, e⟩
                      clear hz
                      go_wp2_with fail
                      exact ⟨⟨r + 1, by go_num, by omega, by rw [HCT.out]; go_num, HKP.out ((Below.refl _ _).alloc (Nat.le_refl _) _)⟩, by simp only [intOf]; omega⟩
                    · have f1 : (v1 == 0) = false := by simp [hz1]
                      clear hz
                      go_wp2_with fail
                      exact ⟨⟨r + 1, by go_num, by omega, by rw [HCT.out]; go_num, HKP.out ((Below.refl _ _).alloc (Nat.le_refl _) _)⟩, by simp only [intOf]; omega⟩
                · obtain rfl : r = lw := by omega
                  have HFL : Hid (cnt (ws.take r) = needN N) := by
                    have : ws.take r = ws := List.take_of_length_le (by rw [HLW.out]; exact Nat.le_refl _)
                    unfold Hid
                    rw [this]
                    exact HCN.out
                  obtain ⟨fc, hfc⟩ : ∃ q, cnt (ws.take r) = q := ⟨_, rfl⟩
                  rw [hfc] at HFL ⊢
                  have hfl : fc ≤ r := by rw [← hfc]; exact Nat.le_trans (List.countP_le_length) (by rw [List.length_take]; omega)
                  obtain ⟨T, Z, ⟨lv, pv, ml, hM, hS⟩, hs, hTN⟩ := HRr.out
                  obtain ⟨k0, k1, -, -, -⟩ := tw_k hS
                  obtain ⟨⟨xa, xc, rfl⟩, -⟩ := tw_shapes hS
                  obtain ⟨mm, hmm⟩ : ∃ q, ml.length = q := ⟨_, rfl⟩
                  rw [hmm] at k1
                  have HSP : Hid (Sep w (twL t b (.slice xa mm xc) pv ml T.Q T.many ++ chP b p k s c T.C (vrow (.slice va ws.length vc) ws :: [bx B2 (.cells #[.int .i64 s, .int .i64 c] 23)])) wr) := by
                    have q := hS
                    rw [hmm] at q
                    exact q
                  have HOK : Hid (∀ x ∈ ml, layOk x.m.lay = true ∧ x.m.slots.length ≤ 64 ∧ x.m.ops.length ≤ 64) := fun x hx => by
                    have q := hs.md (m := x.m) (by rw [← hM]; exact List.mem_map.2 ⟨x, hx, rfl⟩)
                    exact ⟨q.1, q.2.2.1, q.2.2.2.2⟩
                  have hmb : mm ≤ 290 := by
                    have q := hs.len.1
                    rw [← hM, List.length_map, hmm] at q
                    omega
                  have HEM : Hid (mostL ml = mostN N ∧ needL ml = needN N) := by
                    subst hTN
                    exact ⟨mostL_N hM, needL_N hM⟩
                  have HTR : Hid (∀ {W' : World}, Sep w (twL t b (.slice xa mm xc) pv ml T.Q T.many ++ chP b p k s c T.C (vrow (.slice va ws.length vc) ws :: [bx B2 (.cells #[.int .i64 s, .int .i64 c] 23)])) W' → ∃ N, TwR w W' t b p k s c (j + 1) N [bx B2 (.cells #[.int .i64 s, .int .i64 c] 23)]) := fun {W'} q => by
                    rw [← hmm] at q
                    exact ⟨_, T, Z, ⟨_, _, _, hM, tw_lose q⟩, hs, rfl⟩
                  have HMM := Hid.mk hmm
                  clear HRr hfc HCN HRD hS hs hM hTN hmm
                  go_wp2_with fail
                  go_loopw [109, 12, 15] (fun i f g wr => ∃ q : Nat, i = .int .i64 (q : Int) ∧ q ≤ mm ∧ f = .int .i64 (mostL (ml.drop (mm - q))) ∧ g = .int .i64 (needL (ml.drop (mm - q)) : Int) ∧ Hid (Sep w (twL t b (.slice xa mm xc) pv ml T.Q T.many ++ chP b p k s c T.C (vrow (.slice va ws.length vc) ws :: [bx B2 (.cells #[.int .i64 s, .int .i64 c] 23)])) wr)) (fun i _ _ _ => mm - (intOf i).toNat)
                  case atStart => exact ⟨0, rfl, Nat.zero_le _, by rw [Nat.sub_zero, ← HMM.out, List.drop_length]; rfl, by rw [Nat.sub_zero, ← HMM.out, List.drop_length]; rfl, HSP⟩
                  case round =>
                    obtain ⟨q, rfl, hq, rfl, rfl, HSq⟩ := hrel
                    clear HSP k0 k1
                    have hbd := sums_le (ml := ml.drop (mm - q)) (fun x hx => HOK.out x (List.mem_of_mem_drop hx))
                    rw [List.length_drop, HMM.out] at hbd
                    obtain ⟨hb1, hb2, hb3⟩ := hbd
                    by_cases hltq : q < mm
                    · have hS' := HSq.out
                      rw [← HMM.out] at hS'
                      obtain ⟨⟨lvx, svx, ovx, mx⟩, g, gc2, eg, edrop, hx, hcells, hrd, ⟨sa', sc', esx⟩, ⟨oa', oc', eox⟩⟩ := model_G hS' (by rw [HMM.out]; exact hltq)
                      simp only at esx eox
                      subst esx eox
                      obtain ⟨y0, y1, y2, y3, y4, y5, y6⟩ := hcells
                      simp only at y0 y1 y2 y3 y4 y5 y6 hrd
                      obtain ⟨la', lc', elx⟩ := hrd.shape
                      subst elx
                      rw [HMM.out] at eg edrop
                      simp only [Value.slice.injEq] at eg
                      obtain ⟨rfl, -, -⟩ := eg
                      obtain ⟨ok1, ok2, ok3⟩ := HOK.out _ hx
                      simp only at ok1 ok2 ok3
                      have e1 := mostL_cons ⟨.slice la' mx.lay.slots.length lc', .slice sa' mx.slots.length sc', .slice oa' mx.ops.length oc', mx⟩ (ml.drop (mm - q))
                      have e2 := needL_cons ⟨.slice la' mx.lay.slots.length lc', .slice sa' mx.slots.length sc', .slice oa' mx.ops.length oc', mx⟩ (ml.drop (mm - q))
                      rw [← edrop] at e1 e2
                      simp only at e1 e2
                      obtain ⟨-, ok4, -, -, -, -, ok5, ok6⟩ := (layOk_iff _).1 ok1
                      have ewd : mx.lay.words = (mx.lay.slots.length : Int) + mx.lay.height + 1 := rfl
                      obtain ⟨wdl, hwd⟩ : ∃ z, mx.lay.words = z := ⟨_, rfl⟩
                      have HWD : Hid (∀ {W' : World}, Below wr.heap.size wr W' → Calls Tryz.prog 16 #[.agg #[.slice la' mx.lay.slots.length lc', .int .i64 mx.lay.args, .int .i64 mx.lay.res, .int .i64 mx.lay.height]] W' fun e w' => Below W'.heap.size W' w' ∧ e = .returned (.int .i64 wdl)) := fun {W'} z => by
                        subst hwd
                        exact lWords_any (l := mx.lay) (hrd.below z) ok1
                      have hbA : Below wr.heap.size wr (wr.alloc (.cells #[.slice la' mx.lay.slots.length lc', .int .i64 mx.lay.args, .int .i64 mx.lay.res, .int .i64 mx.lay.height, .slice sa' mx.slots.length sc', .slice oa' mx.ops.length oc', .int .i64 mx.which] 56)) := (Below.refl _ _).alloc (Nat.le_refl _) _
                      have HW1 := Hid.mk (HWD.out hbA)
                      have HBA := Hid.mk hbA
                      have HE1 := Hid.mk e1
                      have HE2 := Hid.mk e2
                      rw [hwd] at HE1 ewd
                      clear HWD hbA hrd hx edrop e1 e2 hS' ok1 hwd
                      go_wp2_with fail
                      refine HW1.out.mono ?_
                      rintro e w8 ⟨hb8, rfl⟩
                      have hbx : w8.heap[wr.heap.size]? = some (.cells #[.slice la' mx.lay.slots.length lc', .int .i64 mx.lay.args, .int .i64 mx.lay.res, .int .i64 mx.lay.height, .slice sa' mx.slots.length sc', .slice oa' mx.ops.length oc', .int .i64 mx.which] 56 (0, 0)) := (hb8.block _ (by simp)).trans (heap_alloc_new _ _)
                      have b4 : w8.cell? ⟨wr.heap.size, 4, none⟩ = some (.slice sa' mx.slots.length sc') := by rw [cell_of_row w8 _ 4 _ _ _ hbx]; rfl
                      have b5 : w8.cell? ⟨wr.heap.size, 5, none⟩ = some (.slice oa' mx.ops.length oc') := by rw [cell_of_row w8 _ 5 _ _ _ hbx]; rfl
                      have HS8 : Hid (Sep w (twL t b (.slice (some ⟨g, 0, none⟩) mm xc) pv ml T.Q T.many ++ chP b p k s c T.C (vrow (.slice va ws.length vc) ws :: [bx B2 (.cells #[.int .i64 s, .int .i64 c] 23)])) w8) := HSq.out.keep (HBA.out.trans (hb8.mono (by simp)))
                      clear hbx hb8 HBA HW1 HSq y0 y1 y2 y3 y4 y5 y6
                      go_wp2_with fail
                      exact ⟨⟨q + 1, by go_num, by omega, by rw [HE1.out]; go_num, by rw [HE2.out]; go_num, HS8⟩, by simp only [intOf]; omega⟩
                    · obtain rfl : q = mm := by omega
                      rw [Nat.sub_self, List.drop_zero, HEM.out.1, HEM.out.2, ← HFL.out]
                      have hmo := HMO.out
                      rw [← HFL.out] at hmo
                      obtain ⟨mo, hmo'⟩ : ∃ z, mostN N = z := ⟨_, rfl⟩
                      rw [hmo'] at hmo ⊢
                      have HN5 := Hid.mk (HTR.out HSq.out)
                      clear HTR HSq HEM HOK HMM hmo' hb1 hb2 hb3 HMO HFL
                      go_wp2_with fail
                      exact ⟨⟨j + 1, by go_num, by omega, HN5⟩, by simp [intOf]; omega⟩
        · obtain rfl : j = n := by omega
          obtain ⟨N, hR⟩ := HREL.out
          obtain ⟨k0, -⟩ := hR.depth
          have HCU := Hid.mk (hR.cut0 (by omega))
          clear hR HREL HC HS
          go_wp2_with fail
          refine HCU.out.mono ?_
          rintro e w4 ⟨hC4, rfl⟩
          clear HCU k0
          have k0 := hC4.k0
          have HSG := Hid.mk (hC4.segs (by omega))
          clear hC4
          go_wp2_with fail
          refine HSG.out.mono ?_
          rintro e w5 ⟨hC5, ga, gc, gb, nk, gd, rfl⟩
          clear HSG k0
          have k0 := hC5.k0
          have HWD := Hid.mk (hC5.words (by omega))
          clear hC5
          go_wp2_with fail
          refine HWD.out.mono ?_
          rintro e w6 ⟨va, ws, vc, rfl, hC6, hwl, hz⟩
          obtain ⟨lw, hlw⟩ : ∃ l, ws.length = l := ⟨_, rfl⟩
          have HRD : Hid (∀ {W' : World}, CutR w W' t b p k s c j (vrow (.slice va ws.length vc) ws :: [bx B2 (.cells #[.int .i64 s, .int .i64 c] 23)]) → Rd W' (.slice va ws.length vc) ws) := fun {W'} q => Rd.of_row (Sep.owns (CutR.sep q) (List.Mem.head _)) rfl
          have HR6 : Hid (CutR w w6 t b p k s c j (vrow (.slice va ws.length vc) ws :: [bx B2 (.cells #[.int .i64 s, .int .i64 c] 23)])) := hC6
          have HLW := Hid.mk hlw
          have HZ := Hid.mk hz
          rw [hlw] at hwl ⊢
          clear HWD hC6 hz hlw k0
          go_wp2_with fail
          go_loopw [158] (fun i wr => ∃ r : Nat, i = .int .i64 (r : Int) ∧ r ≤ lw ∧ Hid (CutR w wr t b p k s c j (vrow (.slice va ws.length vc) ws :: [bx B2 (.cells #[.int .i64 s, .int .i64 c] 23)]))) (fun i _ => lw - (intOf i).toNat)
          case atStart => exact ⟨0, rfl, Nat.zero_le _, HR6⟩
          case round =>
            obtain ⟨r, rfl, hr, HRr⟩ := hrel
            clear HR6
            by_cases hltr : r < lw
            · have hr1 : r < ws.length := by rw [HLW.out]; exact hltr
              obtain ⟨vb, vo, vc', ev, -, hvc⟩ := (HRD.out HRr.out).some (by omega)
              obtain ⟨x0, x1⟩ := hvc r hr1
              simp only [Value.slice.injEq] at ev
              obtain ⟨rfl, -, -⟩ := ev
              have hv := HZ.out _ (List.getElem_mem hr1)
              rw [hv] at x0 x1
              simp only at x0 x1
              have HKP : Hid (∀ {W' : World}, Below wr.heap.size wr W' → Hid (CutR w W' t b p k s c j (vrow (.slice (some ⟨vb, vo, none⟩) ws.length vc) ws :: [bx B2 (.cells #[.int .i64 s, .int .i64 c] 23)]))) := fun {W'} q => HRr.out.keep q
              clear HRr hvc hv
              go_wp2_with fail
              exact ⟨⟨r + 1, by go_num, by omega, HKP.out ((Below.refl _ _).alloc (Nat.le_refl _) _)⟩, by simp only [intOf]; omega⟩
            · obtain rfl : r = lw := by omega
              have HB := Hid.mk (CutR.sep HRr.out).size
              clear HRr HRD HZ
              go_wp2_with fail
              go_ret
              exact ⟨rfl, HB.out⟩
  · obtain ⟨c0, c1, -⟩ := two_cells h2 (q := B2) (List.Mem.head _)
    have HG := Hid.mk (great25_any (H00.out.below h2.size) s c)
    have H2 := Hid.mk h2
    clear h2 hseg
    go_wp2_with fail
    refine HG.out.mono ?_
    rintro e w3 ⟨hb3, rfl | ⟨rfl, hsm⟩⟩
    · have HB := Hid.mk (Sep.keep H2.out hb3).size
      clear hb3 H2 HG c0 c1
      go_wp2_with fail
      go_ret
      exact ⟨rfl, HB.out⟩
    · have HB := Hid.mk (Sep.keep H2.out hb3).size
      clear hb3 H2 HG c0 c1 hsm
      go_wp2_with fail
      go_ret
      exact ⟨rfl, HB.out⟩
end Go.Proofs.YtpfnnmcokbolhaaGreat
