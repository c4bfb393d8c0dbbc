/- SpaceKeeps: the operations' loop. -/
import Derived.Test.YtkooogllajmkeaaCt
import Derived.Outline
import Derived.LoopN
import Derived.Deep.DeepCutAuto
import Derived.Deep.CutBlock
import Derived.RegionTactic
import Derived.BigRegion
namespace Go.Proofs.Ytkooogllajmkeaa
open Go.RowKit Go.Maps
set_option pp.deepTerms true
/-- the map holds what the space's words hold -/
def KR (w : World) (p m k : Nat) (W : World) : Prop := ∃ S o D, S.last ≤ 202 * (k : Int) ∧ Loc w p S [(m, o)] W ∧ MObj o k D ∧ MapIs D (full S)
theorem KR.mk {w W : World} {p m k : Nat} {S : Sp} {o : Obj} {D : DataW Unit} {f : Int → Option (Int × Int)} (h1 : S.last ≤ 202 * ((k + 1 : Nat) : Int)) {E : List (Nat × Obj)} (h2 : Loc w p S E W) (hm : (m, o) ∈ E) (h3 : MObj o k D) (h4 : MapIs D f) (h5 : ∀ a, full S a = f a) : KR w p m (k + 1) W :=
  ⟨S, o, D, h1, h2.weak (by intro x hx; simp only [List.mem_singleton] at hx; subst hx; exact hm), h3.mono (by omega), mapIs_ext h4 h5⟩
theorem KR.mk' {w W : World} {p m k : Nat} {S : Sp} {o : Obj} {D : DataW Unit} {f : Int → Option (Int × Int)} (h1 : S.last ≤ 202 * ((k + 1 : Nat) : Int)) {E : List (Nat × Obj)} (h2 : Loc w p S E W) (hm : (m, o) ∈ E) (h3 : MObj o (k + 1) D) (h4 : MapIs D f) (h5 : ∀ a, full S a = f a) : KR w p m (k + 1) W :=
  ⟨S, o, D, h1, h2.weak (by intro x hx; simp only [List.mem_singleton] at hx; subst hx; exact hm), h3, mapIs_ext h4 h5⟩
theorem let_spok {S : Sp} (ok : Spok S) (a : Int) : Spok (S.let_ a).2 := by
  unfold Sp.let_
  split
  · rename_i i _
    obtain ⟨ls, hl, okl⟩ := ok
    exact ⟨ls.eraseIdx i, by simp only [hl]; exact map_erase _ _ _, okl.erase i⟩
  · exact ok
theorem mapIs_step {D : DataW Unit} {S : Sp} {a : Int} {j : Nat} (h : MapIs D (fun b => if a ≤ b ∧ b < a + j then none else full S b)) : MapIs (D.del (.int .i64 (a + j))) (fun b => if a ≤ b ∧ b < a + ((j + 1 : Nat) : Int) then none else full S b) := by
  refine mapIs_ext (mapIs_del h (a + j)) fun b => ?_
  by_cases e : b = a + j
  · rw [if_pos e, if_pos (by omega)]
  · rw [if_neg e]
    by_cases q : a ≤ b ∧ b < a + j
    · rw [if_pos q, if_pos (by omega)]
    · rw [if_neg q, if_neg (by omega)]
theorem mapIs_start {D : DataW Unit} {S : Sp} {a : Int} (h : MapIs D (full S)) : MapIs D (fun b => if a ≤ b ∧ b < a + ((0 : Nat) : Int) then none else full S b) := mapIs_ext h fun b => by rw [if_neg (by omega)]
theorem cntAll_le : ∀ rs : List Reg, cntAll rs ≤ total rs
  | [] => Nat.le_refl _
  | r :: rs => by
    have h1 := cnt_le r.words
    have h2 := cntAll_le rs
    simp only [cntAll, total, List.map_cons, List.sum_cons] at h2 ⊢
    omega
theorem cntTo_le (rs : List Reg) : ∀ d i : Nat, i + d = rs.length → cntTo rs i ≤ cntAll rs := by
  intro d
  induction d with
  | zero => intro i hi; rw [← cntTo_all, ← hi]; exact Nat.le_refl _
  | succ d ih =>
    intro i hi
    have h2 := ih (i + 1) (by omega)
    rw [cntTo_succ (by omega)] at h2
    omega
theorem total_le {S : Sp} (ok : Spok S) : total S.regs ≤ 4194304 := by
  obtain ⟨ls, hl, okl⟩ := ok
  rw [hl, total_map]
  exact okl.live
theorem cnt_bound {S : Sp} (ok : Spok S) {j : Nat} (hj : j < S.regs.length) (q : Nat) : cntTo S.regs j + cnt (S.regs[j].words.take q) ≤ 4194304 := by
  have h1 : cnt (S.regs[j].words.take q) ≤ cnt S.regs[j].words := (List.take_sublist q _).countP_le
  have h2 := cntTo_le S.regs (S.regs.length - (j + 1)) (j + 1) (by omega)
  rw [cntTo_succ hj] at h2
  have h3 := cntAll_le S.regs
  have h4 := total_le ok
  omega
theorem get_locb {w W : World} {p : Nat} {S : Sp} {E : List (Nat × Obj)} (h : Loc w p S E W) (a : Int) {t n r : Int} (he : S.get a = ((t, n), r)) :
    Calls Try.prog 19 #[.pointer (some ⟨p, 0, none⟩), .int .i64 a] W fun e w' => Loc w p S E w' ∧ Below W.heap.size W w' ∧ e = .returned (.tuple #[.agg #[.int .i64 t, .int .i64 n], .int .i64 r]) := by
  have h0 := h
  obtain ⟨fs, h1, h2, h3, h4⟩ := h
  refine (get_spc h1 a).mono ?_
  rw [he]
  rintro e w' ⟨hb, rfl⟩
  exact ⟨h0.keep hb, hb, rfl⟩
/-- what the last loops read -/
def KF (S : Sp) (l : List (Int × Int)) (D : DataW Unit) : Prop := ∀ j (hj : j < l.length), ∃ (x1 : Int) (ws : List (Int × Int)), l[j] = (x1, (ws.length : Int)) ∧ 1 ≤ x1 ∧ x1 + ws.length ≤ S.last + 1 ∧ cntTo S.regs (j + 1) = cntTo S.regs j + cnt ws ∧
  (∀ q, cntTo S.regs j + cnt (ws.take q) ≤ 4194304) ∧ ∀ q (hq : q < ws.length), (ws[q] = (0, 0) ∧ has D (.int .i64 (x1 + q)) = false ∧ D.atKey (.int .i64 (x1 + q)) (pd (0, 0)) = pd (0, 0) ∧ (∃ e, e ≠ 0 ∧ S.get (x1 + q) = ((0, 0), e)) ∧ cnt (ws.take (q + 1)) = cnt (ws.take q)) ∨
    (∃ t v : Int, has D (.int .i64 (x1 + q)) = true ∧ D.atKey (.int .i64 (x1 + q)) (pd (0, 0)) = pd (t, v) ∧ S.get (x1 + q) = ((t, v), 0) ∧ cnt (ws.take (q + 1)) = cnt (ws.take q) + 1)
theorem kf_mk {S : Sp} (ok : Spok S) {D : DataW Unit} (h : MapIs D (full S)) : KF S (tells S.regs) D := by
  intro j hj
  obtain ⟨hr, e⟩ := tells_get hj
  obtain ⟨b1, b2, b3, -, -⟩ := tells_at ok hj
  rw [e] at b1 b2 b3
  refine ⟨S.regs[j].base, S.regs[j].words, e, b1, b3, cntTo_succ hr, cnt_bound ok hr, fun q hq => ?_⟩
  have hf := full_at ok hr hq
  obtain ⟨m1, m2⟩ := h.2 (S.regs[j].base + q)
  have hc := cnt_take hq
  by_cases hz : S.regs[j].words[q] = (0, 0)
  · rw [if_pos hz] at hf hc
    rw [hf] at m1 m2
    exact .inl ⟨hz, m1, m2, get_none hf, hc⟩
  · rw [if_neg hz] at hf hc
    rw [hf] at m1 m2
    exact .inr ⟨S.regs[j].words[q].1, S.regs[j].words[q].2, m1, m2, get_full hf, hc⟩
theorem drop_last (S : Sp) (a m : Int) : (S.drop a m).2.last = S.last := by
  unfold Sp.drop
  split
  · rfl
  · split
    · rfl
    · split <;> rfl
theorem put_last (S : Sp) (a : Int) (v : Int × Int) : (S.put a v).2.last = S.last := by
  unfold Sp.put
  split
  · split <;> rfl
  · rfl

set_option maxRecDepth 100000 in
set_option maxHeartbeats 2000000 in
theorem keeps_any {w : World} {v : Value} {os : List Opr} (h : OpsAt w v os) : Calls Try.prog 4 #[v] w fun e w' => e = .returned (.bool true) ∧ Below w.heap.size w w' := by
  have hmm := @run_makeMap Try.prog
  have h2 := h
  obtain ⟨⟨ao, c, rfl⟩, hml, hok, hc⟩ := h
  clear hml
  go_enter Try.func4, Try.ntmps4
  go_wp2_with fail
  refine (alive21_any _).mono ?_
  rintro e w1 ⟨rfl, hb1⟩
  go_wp2_with fail
  refine (great21_any (h2.below hb1)).mono ?_
  rintro e w2 ⟨hb2, hg⟩
  have hb := hb1.trans (hb2.mono hb1.size)
  clear hb1 hb2 h2
  rcases hg with rfl | ⟨rfl, hs⟩
  · go_wp2
    go_ret
    exact ⟨rfl, hb⟩
  · obtain ⟨n, hn⟩ : ∃ n, os.length = n := ⟨_, rfl⟩
    have HN := Hid.mk hn
    have hn150 : n ≤ 150 := by rw [← hn]; exact hs.1
    have HS := Hid.mk hs.2
    have HOK := Hid.mk hok
    have HC : Hid (∀ i (hi : i < os.length), ∃ b o, ao = some ⟨b, o, none⟩ ∧ b < w.heap.size ∧ OprAt w b (o + i * 6) os[i]) := by
      intro i hi
      obtain ⟨b, o, c', e, hb, ha⟩ := hc (by omega)
      simp only [Value.slice.injEq] at e
      exact ⟨b, o, e.1, hb, ha i hi⟩
    clear hc hs hok
    rw [hn]
    clear hn
    have L0 := Loc.alloc (Loc.new hb) (.map #[] 0)
    have hwm : w.heap.size ≤ w2.heap.size + 1 := Nat.le_succ_of_le hb.size
    have hm0 : (w2.alloc (.cells #[.slice none 0 0, .int .i64 0] 27)).heap.size = w2.heap.size + 1 := by simp
    rw [hm0] at L0
    obtain ⟨p, hp⟩ : ∃ p, w2.heap.size = p := ⟨_, rfl⟩
    rw [hp] at L0 hwm
    clear hm0
    have K0 : Hid (KR w p (p + 1) 0 ((w2.alloc (.cells #[.slice none 0 0, .int .i64 0] 27)).alloc (.map #[] 0))) :=
      ⟨_, _, .map [], by simp, L0, ⟨#[], 0, rfl, ⟨by simp, Go.MapKept.stamped_empty 0, by simp⟩, Nat.le_refl _, rfl⟩, mapIs_ext mapIs_empty (fun a => by simp [full, locate])⟩
    clear L0
    go_wp2_with fail
    go_loopw [33] (fun i wr => ∃ k : Nat, i = .int .i64 k ∧ k ≤ n ∧ Hid (KR w p (p + 1) k wr)) (fun i _ => n - (intOf i).toNat)
    case atStart => exact ⟨0, rfl, by omega, K0⟩
    case round =>
      clear K0
      obtain ⟨k, rfl, hk, HK⟩ := hrel
      obtain ⟨m, hpm⟩ : ∃ m, p + 1 = m := ⟨_, rfl⟩
      rw [hpm] at HK hwm ⊢
      obtain ⟨S, o, D, hl, HL, HMO, HMI⟩ := HK.out
      clear HK
      by_cases hlt : k < n
      · have h1 : k < os.length := by rw [HN.out]; exact hlt
        obtain ⟨b, o', rfl, hbl, a0, a1, a2, a3, a4, a5⟩ := HC.out k h1
        have hbw := HL.size
        have c0 := (hbw.cell (p := ⟨b, o' + k * 6, none⟩) hbl).trans a0
        have c1 := (hbw.cell (p := ⟨b, o' + k * 6 + 1, none⟩) hbl).trans a1
        have c2 := (hbw.cell (p := ⟨b, o' + k * 6 + 2, none⟩) hbl).trans a2
        have c3 := (hbw.cell (p := ⟨b, o' + k * 6 + 3, none⟩) hbl).trans a3
        have c4 := (hbw.cell (p := ⟨b, o' + k * 6 + 4, none⟩) hbl).trans a4
        have c5 := (hbw.cell (p := ⟨b, o' + k * 6 + 5, none⟩) hbl).trans a5
        clear a0 a1 a2 a3 a4 a5 hbw
        obtain ⟨x, hx⟩ : ∃ x, x = os[k] := ⟨_, rfl⟩
        have hsm : x.k = 0 → x.n ≤ 200 ∨ 1048576 < x.n := by rw [hx]; exact HS.out _ (List.getElem_mem h1)
        have hxo : OprOk x := by rw [hx]; exact HOK.out _ (List.getElem_mem h1)
        rw [← hx] at c0 c1 c2 c3 c4 c5
        clear hx h1
        have ok := HL.ok
        have hlast := ok.last0
        have H1 := Loc.alloc HL (.cells #[.int .i64 x.k, .int .i64 x.n, .int .i64 x.a, .int .i64 x.b, .int .i64 x.t, .int .i64 x.v] 31)
        have hwm' : wr.heap.size ≠ m := by have := lt_of_heap (HL.obj (List.Mem.head _)); omega
        by_cases hk0 : x.k = 0
        · have hx0 : (x.k == 0) = true := by simp [hk0]
          have hm := hsm hk0
          obtain ⟨r1, r2, S', e⟩ : ∃ r1 r2 S', S.take x.n = ((r1, r2), S') := ⟨_, _, _, rfl⟩
          have hl' : S'.last ≤ 202 * ((k + 1 : Nat) : Int) := by
            rcases take_cases S x.n with q | ⟨m1, m2, q, el⟩
            · rw [e] at q; simp only [Prod.mk.injEq] at q; rw [q.2]; omega
            · rw [e] at el; simp only at el; rw [el]; unfold nextBase; split <;> omega
          have hf : Spok S' → ∀ a, full S' a = full S a := fun q a => by have := full_take ok x.n (by rw [e]; exact q) a; rw [e] at this; exact this
          clear hk0 hsm hm
          go_wp2_with fail
          refine (take_loc (w := w) H1 x.n (by omega) e).mono ?_
          rintro e w3 ⟨h3, rfl⟩
          have HKR := Hid.mk (KR.mk hl' h3 (List.Mem.tail _ (List.Mem.head _)) HMO HMI (hf h3.ok))
          clear HL H1 h3 HMO HMI
          go_wp2_with fail
          exact ⟨⟨k + 1, by go_num, by omega, HKR⟩, by simp [intOf]; omega⟩
        · have hx0 : (x.k == 0) = false := by simp [hk0]
          clear hsm
          by_cases hk1 : x.k = 1
          · have hx1 : (x.k == 1) = true := by simp [hk1]
            clear hk0 hk1
            by_cases hr : (S.let_ x.a).1 = 0
            · obtain ⟨S', e⟩ : ∃ S', S.let_ x.a = (0, S') := ⟨_, Prod.ext hr rfl⟩
              have ok' : Spok S' := by have := let_spok ok x.a; rw [e] at this; exact this
              have el : S'.last = S.last := by have := let_last S x.a; rw [e] at this; exact this
              obtain ⟨nw, n1, n2, n3, n4, eo, hf⟩ := full_let ok e ok'
              have HF := Hid.mk hf
              clear hf hr
              go_wp2_with fail
              refine (of_locb (w := w) H1 x.a eo).mono ?_
              rintro e' w3 ⟨h3, hb3, rfl⟩
              have hs3 : wr.heap.size < w3.heap.size := by have := hb3.size; simp at this; omega
              have hm3 : m < wr.heap.size := lt_of_heap (HL.obj (List.Mem.head _))
              have g2 := fun ob => (Loc.alloc h3 ob).box (j := 2) (List.Mem.tail _ (List.Mem.head _)) rfl
              go_wp2_with fail
              refine (let_loc (w := w) (Loc.alloc h3 _) x.a e).mono ?_
              rintro e' w4 ⟨h4, rfl⟩
              clear g2
              have r0 := h4.box (j := 0) (List.Mem.head _) rfl
              have r1 := h4.box (j := 1) (List.Mem.head _) rfl
              have g2 := h4.box (j := 2) (List.Mem.tail _ (List.Mem.head _)) rfl
              have HM0 := Hid.mk (mapIs_start (a := x.a) HMI)
              clear HL H1 h3 hb3 HMI c0 c1 c2 c3 c4 c5
              go_wp2_with fail
              go_loopw [67] (fun i wq => ∃ (j : Nat) (o' : Obj) (D' : DataW Unit), i = .int .i64 j ∧ j ≤ nw ∧ Loc w p S' ([(w3.heap.size, .cells #[.int .i64 x.a, .int .i64 nw] 39), (wr.heap.size, .cells #[.int .i64 x.k, .int .i64 x.n, .int .i64 x.a, .int .i64 x.b, .int .i64 x.t, .int .i64 x.v] 31)] ++ [(m, o')]) wq ∧ MObj o' k D' ∧ Hid (MapIs D' (fun b => if x.a ≤ b ∧ b < x.a + (j : Int) then none else full S b))) (fun i _ => nw - (intOf i).toNat)
              case atStart => exact ⟨0, o, D, rfl, by omega, h4, HMO, HM0⟩
              case round =>
                clear h4 HMO HM0 r0 r1 g2
                obtain ⟨j, o1, D1, rfl, hj, HL, HMO, HM⟩ := hrel
                by_cases hjn : j < nw
                · have r0 := HL.box (j := 0) (List.Mem.head _) rfl
                  have own := HMO.owns (HL.obj (List.Mem.tail _ (List.Mem.tail _ (List.Mem.head _))))
                  have ew : IntKind.i64.wrap (x.a + (j : Int)) = x.a + j := by rw [IntKind.wrap_i64]; omega
                  go_wp2_with (first | (at_delete; refine wpList_delete_own _ rfl _ _ 45 2 rfl 29 law64 Try.underlying45 pairElem m k D1 rfl own _ _ rfl (key64 (a := x.a + (j : Int)) ⟨by omega, by omega⟩) ?_; intro w9 hown9 hturn9) | fail)
                  obtain ⟨o9, ho9, hM9⟩ := owns_obj hown9
                  exact ⟨⟨j + 1, o9, _, by go_num, by omega, map_loc HL (by simp; omega) hwm hturn9.grown ho9, hM9, mapIs_step HM.out⟩, by simp [intOf]; omega⟩
                · obtain rfl : j = nw := by omega
                  have HKR := Hid.mk (KR.mk (by omega) HL (List.Mem.tail _ (List.Mem.tail _ (List.Mem.head _))) HMO HM.out HF.out)
                  clear HL HMO HM HF
                  go_wp2_with fail
                  exact ⟨⟨k + 1, by go_num, by omega, HKR⟩, by simp [intOf]; omega⟩
            · obtain ⟨r, hr1⟩ : ∃ r, (S.let_ x.a).1 = r := ⟨_, rfl⟩
              have e : S.let_ x.a = (r, S) := Prod.ext hr1 (let_err hr)
              rw [hr1] at hr
              have hr2 : (r == 0) = false := by simp [hr]
              obtain ⟨q1, q2, q3, eo⟩ : ∃ q1 q2 q3, S.of x.a = ((q1, q2), q3) := ⟨_, _, _, rfl⟩
              go_wp2_with fail
              refine (of_locb (w := w) H1 x.a eo).mono ?_
              rintro e' w3 ⟨h3, hb3, rfl⟩
              have g2 := fun ob => (Loc.alloc h3 ob).box (j := 2) (List.Mem.tail _ (List.Mem.head _)) rfl
              go_wp2_with fail
              refine (let_loc (w := w) (Loc.alloc h3 _) x.a e).mono ?_
              rintro e' w4 ⟨h4, rfl⟩
              have HKR := Hid.mk (KR.mk (by omega) h4 (List.Mem.tail _ (List.Mem.tail _ (List.Mem.head _))) HMO HMI (fun _ => rfl))
              clear HL H1 h3 h4 HMO HMI
              go_wp2_with fail
              exact ⟨⟨k + 1, by go_num, by omega, HKR⟩, by simp [intOf]; omega⟩
          · have hx1 : (x.k == 1) = false := by simp [hk1]
            by_cases hk2 : x.k = 2
            · have hx2 : (x.k == 2) = true := by simp [hk2]
              clear hk0 hk1 hk2
              by_cases hr : (S.put x.a (x.t, x.v)).1 = 0
              · obtain ⟨S', e⟩ : ∃ S', S.put x.a (x.t, x.v) = (0, S') := ⟨_, Prod.ext hr rfl⟩
                have el : S'.last = S.last := by have := put_last S x.a (x.t, x.v); rw [e] at this; exact this
                go_wp2_with fail
                refine (put_loc (w := w) H1 x.a x.t x.v e).mono ?_
                rintro e' w4 ⟨h4, rfl⟩
                have hm3 : m < wr.heap.size := lt_of_heap (HL.obj (List.Mem.head _))
                have g2 := h4.box (j := 2) (List.Mem.head _) rfl
                have g4 := h4.box (j := 4) (List.Mem.head _) rfl
                have g5 := h4.box (j := 5) (List.Mem.head _) rfl
                have own := HMO.owns (h4.obj (List.Mem.tail _ (List.Mem.head _)))
                have HM := Hid.mk (mapIs_put HMI hxo.2.2.1 (x.t, x.v))
                have HF := Hid.mk (full_put ok e h4.ok)
                clear HL H1 HMO HMI c0 c1 c2 c3 c4 c5
                go_wp2_with (first | (at_mapUpdate; refine wpList_mapUpdate_own _ rfl _ _ _ 45 rfl 2 29 law64 Try.underlying45 pairElem m k D rfl own (by unfold maxLen; omega) _ _ _ rfl rfl (key64 hxo.2.2.1) _ [] (pairElem_mk _ _) ?_; intro w9 hown9 hgrow9) | fail)
                obtain ⟨o9, ho9, hM9⟩ := owns_obj hown9
                have h9 := map_loc (E := [_]) h4 (by simp; omega) hwm hgrow9 ho9
                exact ⟨⟨k + 1, by go_num, by omega, KR.mk' (by omega) h9 (List.Mem.tail _ (List.Mem.head _)) hM9 HM.out HF.out⟩, by simp [intOf]; omega⟩
              · obtain ⟨r, hr1⟩ : ∃ r, (S.put x.a (x.t, x.v)).1 = r := ⟨_, rfl⟩
                have e : S.put x.a (x.t, x.v) = (r, S) := Prod.ext hr1 (put_err hr)
                rw [hr1] at hr
                have hr2 : (r == 0) = false := by simp [hr]
                go_wp2_with fail
                refine (put_loc (w := w) H1 x.a x.t x.v e).mono ?_
                rintro e' w4 ⟨h4, rfl⟩
                have HKR := Hid.mk (KR.mk (by omega) h4 (List.Mem.tail _ (List.Mem.head _)) HMO HMI (fun _ => rfl))
                clear HL H1 h4 HMO HMI
                go_wp2_with fail
                exact ⟨⟨k + 1, by go_num, by omega, HKR⟩, by simp [intOf]; omega⟩
            · have hx2 : (x.k == 2) = false := by simp [hk2]
              by_cases hk4 : x.k = 4
              · have hx4 : (x.k == 4) = true := by simp [hk4]
                clear hk0 hk1 hk2 hk4
                by_cases hr : (S.drop x.a x.n).1 = 0
                · obtain ⟨S', e⟩ : ∃ S', S.drop x.a x.n = (0, S') := ⟨_, Prod.ext hr rfl⟩
                  have el : S'.last = S.last := by have := drop_last S x.a x.n; rw [e] at this; exact this
                  clear hr
                  go_wp2_with fail
                  refine (drop_loc (w := w) H1 x.a x.n e).mono ?_
                  rintro e' w4 ⟨h4, rfl⟩
                  obtain ⟨n1, n2, n3, hf⟩ := full_drop ok e h4.ok
                  obtain ⟨nw, hnw⟩ : ∃ nw : Nat, x.n = nw := ⟨x.n.toNat, by omega⟩
                  rw [hnw] at hf n1 n2 n3
                  have HF := Hid.mk hf
                  have hm3 : m < wr.heap.size := lt_of_heap (HL.obj (List.Mem.head _))
                  have g1 := h4.box (j := 1) (List.Mem.head _) rfl
                  rw [hnw] at g1
                  have HM0 := Hid.mk (mapIs_start (a := x.a) HMI)
                  clear HL H1 HMI hf c0 c1 c2 c3 c4 c5 e
                  go_wp2_with fail
                  go_loopw [99] (fun i wq => ∃ (j : Nat) (o' : Obj) (D' : DataW Unit), i = .int .i64 j ∧ j ≤ nw ∧ Loc w p S' ([(wr.heap.size, .cells #[.int .i64 x.k, .int .i64 x.n, .int .i64 x.a, .int .i64 x.b, .int .i64 x.t, .int .i64 x.v] 31)] ++ [(m, o')]) wq ∧ MObj o' k D' ∧ Hid (MapIs D' (fun b => if x.a ≤ b ∧ b < x.a + (j : Int) then none else full S b))) (fun i _ => nw - (intOf i).toNat)
                  case atStart => exact ⟨0, o, D, rfl, by omega, h4, HMO, HM0⟩
                  case round =>
                    clear h4 HMO HM0 g1
                    obtain ⟨j, o1, D1, rfl, hj, HL, HMO, HM⟩ := hrel
                    by_cases hjn : j < nw
                    · have r0 := HL.box (j := 2) (List.Mem.head _) rfl
                      have own := HMO.owns (HL.obj (List.Mem.tail _ (List.Mem.head _)))
                      have n4 := n3 (by omega)
                      have ew : IntKind.i64.wrap (x.a + (j : Int)) = x.a + j := by rw [IntKind.wrap_i64]; omega
                      go_wp2_with (first | (at_delete; refine wpList_delete_own _ rfl _ _ 45 2 rfl 29 law64 Try.underlying45 pairElem m k D1 rfl own _ _ rfl (key64 (a := x.a + (j : Int)) ⟨by omega, by omega⟩) ?_; intro w9 hown9 hturn9) | fail)
                      obtain ⟨o9, ho9, hM9⟩ := owns_obj hown9
                      exact ⟨⟨j + 1, o9, _, by go_num, by omega, map_loc HL (by simp; omega) hwm hturn9.grown ho9, hM9, mapIs_step HM.out⟩, by simp [intOf]; omega⟩
                    · obtain rfl : j = nw := by omega
                      have HKR := Hid.mk (KR.mk (by omega) HL (List.Mem.tail _ (List.Mem.head _)) HMO HM.out HF.out)
                      clear HL HMO HM HF
                      go_wp2_with fail
                      exact ⟨⟨k + 1, by go_num, by omega, HKR⟩, by simp [intOf]; omega⟩
                · obtain ⟨r, hr1⟩ : ∃ r, (S.drop x.a x.n).1 = r := ⟨_, rfl⟩
                  have e : S.drop x.a x.n = (r, S) := Prod.ext hr1 (drop_err hr)
                  rw [hr1] at hr
                  have hr2 : (r == 0) = false := by simp [hr]
                  go_wp2_with fail
                  refine (drop_loc (w := w) H1 x.a x.n e).mono ?_
                  rintro e' w4 ⟨h4, rfl⟩
                  have HKR := Hid.mk (KR.mk (by omega) h4 (List.Mem.tail _ (List.Mem.head _)) HMO HMI (fun _ => rfl))
                  clear HL H1 h4 HMO HMI
                  go_wp2_with fail
                  exact ⟨⟨k + 1, by go_num, by omega, HKR⟩, by simp [intOf]; omega⟩
              · have hx4 : (x.k == 4) = false := by simp [hk4]
                clear hk0 hk1 hk2 hk4
                have HKR := Hid.mk (KR.mk (by omega) H1 (List.Mem.tail _ (List.Mem.head _)) HMO HMI (fun _ => rfl))
                clear HL H1 HMO HMI
                go_wp2_with fail
                exact ⟨⟨k + 1, by go_num, by omega, HKR⟩, by simp [intOf]; omega⟩
      · obtain rfl : k = n := by omega
        have ok := HL.ok
        have hlast := ok.last0
        have HKF := Hid.mk (kf_mk ok HMI)
        have own0 := HMO.owns (HL.obj (List.Mem.head _))
        have HCN := Hid.mk (map_count ok (own0.tidy law64) HMI)
        have hcnt := tells_count ok
        have HA := Hid.mk (cntTo_all S.regs)
        clear own0
        go_wp2_with fail
        refine (regions_loc (w := w) HL rfl).mono ?_
        rintro e w3 ⟨h3, v, hv, rfl⟩
        obtain ⟨l, hl'⟩ : ∃ l, tells S.regs = l := ⟨_, rfl⟩
        rw [← tells_len S.regs] at HA
        rw [hl'] at hv HKF hcnt HA
        clear hl' HL HMI
        obtain ⟨nl, hnl⟩ : ∃ nl, l.length = nl := ⟨_, rfl⟩
        obtain ⟨av, cv, rfl⟩ := hv.shape
        rw [hnl] at hv hcnt HA
        have HNL := Hid.mk hnl
        rw [hnl]
        clear hnl
        go_wp2_with fail
        go_loopw [111, 12] (fun i f wq => ∃ j : Nat, i = .int .i64 j ∧ f = .int .i64 (cntTo S.regs j : Nat) ∧ j ≤ nl ∧ Loc w p S [(m, o)] wq ∧ Rd wq (.slice av nl cv) l) (fun i _ _ => nl - (intOf i).toNat)
        case atStart => exact ⟨0, rfl, by rw [cntTo_zero]; rfl, by omega, h3, hv⟩
        case round =>
          clear h3 hv
          obtain ⟨j, rfl, rfl, hj, HL, HR⟩ := hrel
          by_cases hjl : j < nl
          · have hj1 : j < l.length := by rw [HNL.out]; exact hjl
            obtain ⟨ba, oa, ca, ev, hba, hcell⟩ := HR.some (by omega)
            rw [HNL.out] at ev
            simp only [Value.slice.injEq, true_and] at ev
            obtain ⟨rfl, rfl⟩ := ev
            obtain ⟨x1, ws, hx, f1, f2, f3, f4, f5⟩ := HKF.out j hj1
            have d0 := (hcell j hj1).1
            have d1 := (hcell j hj1).2
            rw [hx] at d0 d1
            simp only at d0 d1
            obtain ⟨cj, hcj⟩ : ∃ cj, cntTo S.regs j = cj := ⟨_, rfl⟩
            obtain ⟨nw, hnw⟩ : ∃ nw, ws.length = nw := ⟨_, rfl⟩
            rw [hcj] at f3 f4
            rw [hnw] at f2 d1
            have F3 := Hid.mk f3
            have F4 := Hid.mk f4
            have F5 := Hid.mk f5
            have HNW := Hid.mk hnw
            have hcj0 := f4 0
            rw [hcj]
            clear hcell hx hcj f3 f4 f5 hnw
            have HB := Loc.alloc HL (.cells #[.int .i64 x1, .int .i64 nw] 39)
            have HRB := HR.below ((Below.refl wr.heap.size wr).alloc (Nat.le_refl _) (.cells #[.int .i64 x1, .int .i64 nw] 39))
            clear HL HR
            go_wp2_with fail
            go_loopw [117, 12] (fun i f wz => ∃ q : Nat, i = .int .i64 q ∧ f = .int .i64 ((cj + cnt (ws.take q) : Nat) : Int) ∧ q ≤ nw ∧ Loc w p S [(wr.heap.size, .cells #[.int .i64 x1, .int .i64 nw] 39), (m, o)] wz ∧ Rd wz (.slice (some ⟨ba, oa, none⟩) nl cv) l) (fun i _ _ => nw - (intOf i).toNat)
            case atStart => exact ⟨0, rfl, by simp [cnt], by omega, HB, HRB⟩
            case round =>
              clear HB HRB d0 d1
              obtain ⟨q, rfl, rfl, hq, HL, HR⟩ := hrel
              by_cases hqn : q < nw
              · have r0 := HL.box (j := 0) (List.Mem.head _) rfl
                have ew : IntKind.i64.wrap (x1 + (q : Int)) = x1 + q := by rw [IntKind.wrap_i64]; omega
                have hin : In64 (x1 + (q : Int)) := ⟨by omega, by omega⟩
                have hb4 := F4.out q
                rcases F5.out q (by rw [HNW.out]; exact hqn) with ⟨-, k1, k2, ⟨er, her, k3⟩, k4⟩ | ⟨t, v, k1, k2, k3, k4⟩
                · have HK4 := Hid.mk k4
                  clear k4
                  obtain ⟨cq, hcq⟩ : ∃ cq, cj + cnt (ws.take q) = cq := ⟨_, rfl⟩
                  rw [hcq] at hb4
                  have HCQ := Hid.mk hcq
                  rw [hcq]
                  clear hcq
                  have he0 : (er == 0) = false := by simp [her]
                  go_wp2_with fail
                  refine (get_locb (w := w) HL (x1 + (q : Int)) k3).mono ?_
                  rintro e w5 ⟨h5, hb5, rfl⟩
                  have own := fun ob => HMO.owns ((Loc.alloc h5 ob).obj (List.Mem.tail _ (List.Mem.tail _ (List.Mem.head _))))
                  have v0 := fun ob => (Loc.alloc (Loc.alloc h5 (.cells #[.int .i64 0, .int .i64 0] 29)) ob).box (j := 0) (List.Mem.tail _ (List.Mem.head _)) rfl
                  have v1 := fun ob => (Loc.alloc (Loc.alloc h5 (.cells #[.int .i64 0, .int .i64 0] 29)) ob).box (j := 1) (List.Mem.tail _ (List.Mem.head _)) rfl
                  have HE := Hid.mk (Loc.alloc (Loc.alloc h5 (.cells #[.int .i64 0, .int .i64 0] 29)) (.cells #[.int .i64 0, .int .i64 0] 29))
                  have HRE := Hid.mk (((HR.below hb5).below ((Below.refl w5.heap.size w5).alloc (Nat.le_refl _) (.cells #[.int .i64 0, .int .i64 0] 29))).below ((Below.refl _ _).alloc (Nat.le_refl _) (.cells #[.int .i64 0, .int .i64 0] 29)))
                  clear HL HR h5 hb5 r0 k3 her
                  go_wp2_with (first | (at_lookup; refine wpList_lookup_own_ok _ rfl _ _ 45 rfl 2 29 law64 Try.underlying45 pairElem (zeroV29 _) (pd (0, 0)) [] (pairElem_mk 0 0) m k D rfl (own _) _ _ rfl (key64 hin) ?_; intro v5 ps hv5; rw [k2] at hv5; obtain rfl := pairElem_inv hv5; rw [k1]) | fail)
                  exact ⟨⟨q + 1, by go_num, by rw [HK4.out, HCQ.out], by omega, HE.out.weak (by intro x hx; exact List.mem_cons_of_mem _ (List.mem_cons_of_mem _ hx)), HRE.out⟩, by simp [intOf]; omega⟩
                · have HK4 := Hid.mk k4
                  have hb5 := F4.out (q + 1)
                  rw [k4] at hb5
                  clear k4
                  obtain ⟨cq, hcq⟩ : ∃ cq, cj + cnt (ws.take q) = cq := ⟨_, rfl⟩
                  rw [← Nat.add_assoc, hcq] at hb5
                  rw [hcq] at hb4
                  have HCQ := Hid.mk hcq
                  rw [hcq]
                  clear hcq
                  go_wp2_with fail
                  refine (get_locb (w := w) HL (x1 + (q : Int)) k3).mono ?_
                  rintro e w5 ⟨h5, hb6, rfl⟩
                  have own := fun ob => HMO.owns ((Loc.alloc h5 ob).obj (List.Mem.tail _ (List.Mem.tail _ (List.Mem.head _))))
                  have v0 := fun ob => (Loc.alloc (Loc.alloc h5 (.cells #[.int .i64 t, .int .i64 v] 29)) ob).box (j := 0) (List.Mem.tail _ (List.Mem.head _)) rfl
                  have v1 := fun ob => (Loc.alloc (Loc.alloc h5 (.cells #[.int .i64 t, .int .i64 v] 29)) ob).box (j := 1) (List.Mem.tail _ (List.Mem.head _)) rfl
                  have HE := Hid.mk (Loc.alloc (Loc.alloc h5 (.cells #[.int .i64 t, .int .i64 v] 29)) (.cells #[.int .i64 t, .int .i64 v] 29))
                  have HRE := Hid.mk (((HR.below hb6).below ((Below.refl w5.heap.size w5).alloc (Nat.le_refl _) (.cells #[.int .i64 t, .int .i64 v] 29))).below ((Below.refl _ _).alloc (Nat.le_refl _) (.cells #[.int .i64 t, .int .i64 v] 29)))
                  clear HL HR h5 hb6 r0 k3
                  go_wp2_with (first | (at_lookup; refine wpList_lookup_own_ok _ rfl _ _ 45 rfl 2 29 law64 Try.underlying45 pairElem (zeroV29 _) (pd (0, 0)) [] (pairElem_mk 0 0) m k D rfl (own _) _ _ rfl (key64 hin) ?_; intro v5 ps hv5; rw [k2] at hv5; obtain rfl := pairElem_inv hv5; rw [k1]) | fail)
                  exact ⟨⟨q + 1, by go_num, by rw [HK4.out, ← HCQ.out]; push_cast; congr 1, by omega, HE.out.weak (by intro x hx; exact List.mem_cons_of_mem _ (List.mem_cons_of_mem _ hx)), HRE.out⟩, by simp [intOf]; omega⟩
              · obtain rfl : q = nw := by omega
                have e3 : cj + cnt (ws.take q) = cntTo S.regs (j + 1) := by rw [F3.out, ← HNW.out, List.take_length]
                have HE3 := Hid.mk e3
                clear e3
                have HLL := Hid.mk (HL.weak (E' := [(m, o)]) (by intro x hx; exact List.mem_cons_of_mem _ hx))
                clear HL
                go_wp2_with fail
                exact ⟨⟨j + 1, by go_num, by rw [HE3.out], by omega, HLL.out, HR⟩, by simp [intOf]; omega⟩
          · obtain rfl : j = nl := by omega
            have own := HMO.owns (HL.obj (List.Mem.head _))
            have hlen := fun ty => own.len (t := 45) Try.underlying45 ty
            have e9 : cntTo S.regs j = Maps.size D := by rw [HCN.out, HA.out]
            rw [e9]
            have hz := HL.size
            clear own HL HR
            go_wp2_with fail
            go_ret
            exact ⟨rfl, hz⟩
end Go.Proofs.Ytkooogllajmkeaa
