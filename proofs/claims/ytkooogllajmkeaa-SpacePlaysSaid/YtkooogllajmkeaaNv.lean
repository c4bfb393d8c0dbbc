import Derived.Test.YtkooogllajmkeaaPl
import Derived.Outline
import Derived.LoopN
import Derived.Deep.DeepCutAuto
import Derived.RegionTactic
import Derived.Deep.CutBlock
import Derived.BigRegion
namespace Go.Proofs.Ytkooogllajmkeaa
open Go.RowKit
set_option pp.deepTerms true
theorem Loc.new {w W : World} (h : Below w.heap.size w W) : Loc w W.heap.size ⟨[], 0⟩ [] (W.alloc (.cells #[.slice none 0 0, .int .i64 0] 27)) := by
  have hb : Below w.heap.size w (W.alloc (.cells #[.slice none 0 0, .int .i64 0] 27)) := h.alloc h.size _
  exact ⟨_, Spc.zero W, by intro b hb; simp at hb; subst hb; exact h.size, hb, by simp⟩
theorem Loc.forget {w W : World} {p : Nat} {S : Sp} {E : List (Nat × Obj)} (h : Loc w p S E W) : Loc w p S [] W := let ⟨fs, h1, h2, h3, _⟩ := h; ⟨fs, h1, h2, h3, by simp⟩
section
variable {w W : World} {p : Nat} {S : Sp} {E : List (Nat × Obj)}
theorem of_locb (h : Loc w p S E W) (a : Int) {b k : Int} {is : Bool} (he : S.of a = ((b, k), is)) :
    Calls Try.prog 15 #[.pointer (some ⟨p, 0, none⟩), .int .i64 a] W fun e w' => Loc w p S E w' ∧ Below W.heap.size W w' ∧ e = .returned (.tuple #[.agg #[.int .i64 b, .int .i64 k], .bool is]) := by
  have h0 := h
  obtain ⟨fs, h1, h2, h3, h4⟩ := h
  refine (find_of h1 a).mono ?_
  rw [he]
  rintro e w' ⟨hb, rfl⟩
  exact ⟨h0.keep hb, hb, rfl⟩
end
def NvL (S : Sp) (l : List (Int × Int)) : Prop :=
  (∀ (i : Nat) (hi : i < l.length), 1 ≤ l[i].1 ∧ 1 ≤ l[i].2 ∧ l[i].1 + l[i].2 ≤ S.last + 1 ∧ S.of l[i].1 = (l[i], true) ∧ S.of (l[i].1 + l[i].2 - 1) = (l[i], true)) ∧
  (∀ (i : Nat) (hi : i + 1 < l.length), l[i].1 + l[i].2 < l[i + 1].1) ∧ (∀ i : Nat, i ≤ l.length → 0 ≤ sumTo l i ∧ sumTo l i ≤ 4194304)
def NvMid (w : World) (p : Nat) (k : Nat) (l : Value) (W : World) : Prop := ∃ S, l = .int .i64 S.last ∧ S.last ≤ 202 * ((k : Int) + 1) ∧ Loc w p S [] W

set_option maxRecDepth 100000 in
set_option maxHeartbeats 2000000 in
theorem never_any {w : World} {v : Value} {os : List Opr} (h : OpsAt w v os) : Calls Try.prog 3 #[v] w fun e w' => e = .returned (.bool true) ∧ Below w.heap.size w w' := by
  have h2 := h
  obtain ⟨⟨ao, c, rfl⟩, hml, hok, hc⟩ := h
  clear hok hml
  go_enter Try.func3, Try.ntmps3
  go_wp2_with fail
  refine (alive21_any _).mono ?_
  rintro e w1 ⟨rfl, hb1⟩
  go_wp2_with fail
  refine (great21_any (h2.below hb1)).mono ?_
  rintro e w2 ⟨hb2, hg⟩
  have hb := hb1.trans (hb2.mono hb1.size)
  clear hb1 hb2 h2
  rcases hg with rfl | ⟨rfl, hs⟩
  · go_wp2
    go_ret
    exact ⟨rfl, hb⟩
  · obtain ⟨n, hn⟩ : ∃ n, os.length = n := ⟨_, rfl⟩
    have HN := Hid.mk hn
    have hn150 : n ≤ 150 := by rw [← hn]; exact hs.1
    have HS := Hid.mk hs.2
    have HC : Hid (∀ i (hi : i < os.length), ∃ b o, ao = some ⟨b, o, none⟩ ∧ b < w.heap.size ∧ OprAt w b (o + i * 6) os[i]) := by
      intro i hi
      obtain ⟨b, o, c', e, hb, ha⟩ := hc (by omega)
      simp only [Value.slice.injEq] at e
      exact ⟨b, o, e.1, hb, ha i hi⟩
    clear hc hs
    rw [hn]
    clear hn
    have L0 := Loc.new hb
    obtain ⟨p, hp⟩ : ∃ p, w2.heap.size = p := ⟨_, rfl⟩
    rw [hp] at L0
    go_wp2_with fail
    go_loopw [30, 5] (fun i l wr => ∃ (k : Nat) (S : Sp), i = .int .i64 k ∧ l = .int .i64 S.last ∧ k ≤ n ∧ S.last ≤ 202 * k ∧ Loc w p S [] wr) (fun i _ _ => n - (intOf i).toNat)
    case atStart => exact ⟨0, ⟨[], 0⟩, rfl, rfl, by omega, by simp, L0⟩
    case round =>
      obtain ⟨k, S, rfl, rfl, hk, hl, HL⟩ := hrel
      clear L0
      by_cases hlt : k < n
      · have h1 : k < os.length := by rw [HN.out]; exact hlt
        obtain ⟨b, o, rfl, hbl, a0, a1, a2, a3, a4, a5⟩ := HC.out k h1
        have hbw := HL.size
        have c0 := (hbw.cell (p := ⟨b, o + k * 6, none⟩) hbl).trans a0
        have c1 := (hbw.cell (p := ⟨b, o + k * 6 + 1, none⟩) hbl).trans a1
        have c2 := (hbw.cell (p := ⟨b, o + k * 6 + 2, none⟩) hbl).trans a2
        have c3 := (hbw.cell (p := ⟨b, o + k * 6 + 3, none⟩) hbl).trans a3
        have c4 := (hbw.cell (p := ⟨b, o + k * 6 + 4, none⟩) hbl).trans a4
        have c5 := (hbw.cell (p := ⟨b, o + k * 6 + 5, none⟩) hbl).trans a5
        clear a0 a1 a2 a3 a4 a5 hbw
        obtain ⟨x, hx⟩ : ∃ x, x = os[k] := ⟨_, rfl⟩
        have hsm : x.k = 0 → x.n ≤ 200 ∨ 1048576 < x.n := by rw [hx]; exact HS.out _ (List.getElem_mem h1)
        rw [← hx] at c0 c1 c2 c3 c4 c5
        clear hx h1
        go_upto_block 2 with (fail)
        go_cut [5] (fun l W => Hid (NvMid w p k l W))
        case first =>
          have H1 := Loc.alloc HL (.cells #[.int .i64 x.k, .int .i64 x.n, .int .i64 x.a, .int .i64 x.b, .int .i64 x.t, .int .i64 x.v] 31)
          by_cases hk0 : x.k = 0
          · have hx0 : (x.k == 0) = true := by simp [hk0]
            have hx1 : (x.k == 1) = false := by simp [hk0]
            rcases take_cases S x.n with e | ⟨m1, m2, e, el⟩
            · clear hk0 hsm
              go_wp2_with fail
              refine (take_loc (w := w) H1 x.n (by omega) e).mono ?_
              rintro e w3 ⟨h3, rfl⟩
              go_wp2_with fail
              exact ⟨⟨k + 1, S, by go_num, rfl, by omega, by omega, h3.forget⟩, by simp [intOf]; omega⟩
            · have hm := hsm hk0
              have hlast := HL.ok.last0
              obtain ⟨nb, hnb⟩ : ∃ nb, nextBase S.last = nb := ⟨_, rfl⟩
              obtain ⟨la, hla⟩ : ∃ la, S.last = la := ⟨_, rfl⟩
              obtain ⟨S', hS⟩ : ∃ S', (S.take x.n).2 = S' := ⟨_, rfl⟩
              rw [hS] at e el
              have hnb' : nb = if la = 0 then 1 else la + 2 := by rw [← hnb, ← hla]; rfl
              rw [hnb] at e el
              rw [hla] at hlast hl
              have h4 : nb + x.n - 1 ≤ 202 * ((k : Int) + 1) := by rw [hnb']; split <;> omega
              have h5 : 1 ≤ nb := by rw [hnb']; split <;> omega
              rw [hla]
              clear hk0 hsm hm
              go_wp2_with fail
              refine (take_loc (w := w) H1 x.n (by rw [hla]; omega) e).mono ?_
              rintro e w3 ⟨h3, rfl⟩
              have g1 := h3.box (j := 1) (List.Mem.head _) rfl
              have HM : Hid (NvMid w p k (.int .i64 (nb + x.n - 1)) w3) := ⟨S', by rw [el], by rw [el]; exact h4, h3.forget⟩
              clear HL H1 hS el hnb hla
              by_cases hz : la = 0
              · rw [if_pos hz] at hnb'
                subst hnb'
                subst hz
                go_wp2_with fail
                go_meet
                case rel => exact HM
              · rw [if_neg hz] at hnb'
                subst hnb'
                have z1 : (la == 0) = false := by simp [hz]
                have z2 : decide (la > 0) = true := by simp; omega
                go_wp2_with fail
                go_meet
                case rel => exact HM
          · have hx0 : (x.k == 0) = false := by simp [hk0]
            clear hsm
            by_cases hk1 : x.k = 1
            · have hx1 : (x.k == 1) = true := by simp [hk1]
              clear hk0 hk1
              obtain ⟨r', S', e⟩ : ∃ r' S', S.let_ x.a = (r', S') := ⟨_, _, rfl⟩
              have el : S'.last = S.last := by have := let_last S x.a; rw [e] at this; exact this
              go_wp2_with fail
              refine (let_loc (w := w) H1 x.a e).mono ?_
              rintro e w3 ⟨h3, rfl⟩
              have HM : Hid (NvMid w p k (.int .i64 S.last) w3) := ⟨S', by rw [el], by rw [el]; omega, h3.forget⟩
              go_wp2_with fail
              go_meet
              case rel => exact HM
            · have hx1 : (x.k == 1) = false := by simp [hk1]
              clear hk0 hk1
              have HM : Hid (∀ o, NvMid w p k (.int .i64 S.last) (wr.alloc o)) := fun o => ⟨_, rfl, by omega, (Loc.alloc HL o).forget⟩
              go_wp2_with fail
              go_meet
              case rel => exact HM.out _
        case rest =>
          clear HL c0 c1 c2 c3 c4 c5 hsm hl
          obtain ⟨S1, rfl, hl1, H1⟩ := hcut.out
          clear hcut
          go_wp2_with fail
          refine (regions_loc (w := w) H1 rfl).mono ?_
          rintro e w3 ⟨h3, v, hv, rfl⟩
          clear H1
          have ok1 := h3.ok
          have hcnt := tells_count ok1
          have HF : Hid (NvL S1 (tells S1.regs)) := ⟨fun i hi => tells_at ok1 hi, fun i hi => tells_sep ok1 hi, fun i hi => sumTo_le ok1 hi⟩
          have HTot := Hid.mk (sumTo_all S1.regs)
          have HTot2 : Hid (0 ≤ (total S1.regs : Int) ∧ (total S1.regs : Int) ≤ 4194304) := by rw [← sumTo_all]; exact sumTo_le ok1 (Nat.le_refl _)
          have hl0 := ok1.last0
          obtain ⟨l, hl⟩ : ∃ l, tells S1.regs = l := ⟨_, rfl⟩
          rw [hl] at hv HF HTot hcnt
          clear hl ok1
          obtain ⟨nl, hnl⟩ : ∃ nl, l.length = nl := ⟨_, rfl⟩
          obtain ⟨av, cv, rfl⟩ := hv.shape
          rw [hnl] at hv hcnt HTot
          have HNL := Hid.mk hnl
          rw [hnl]
          clear hnl
          go_wp2_with fail
          go_loopw [75, 10] (fun i s wr => ∃ j : Nat, i = .int .i64 j ∧ s = .int .i64 (sumTo l j) ∧ j ≤ nl ∧ Loc w p S1 [] wr ∧ Rd wr (.slice av nl cv) l) (fun i _ _ => nl - (intOf i).toNat)
          case atStart => exact ⟨0, rfl, by rw [sumTo_zero], by omega, h3.forget, hv⟩
          case round =>
            clear h3 hv
            obtain ⟨j, rfl, rfl, hj, HL, HR⟩ := hrel
            by_cases hjl : j < nl
            · have hj1 : j < l.length := by rw [HNL.out]; exact hjl
              obtain ⟨ba, oa, ca, ev, hba, hcell⟩ := HR.some (by omega)
              rw [HNL.out] at ev
              simp only [Value.slice.injEq, true_and] at ev
              obtain ⟨rfl, rfl⟩ := ev
              obtain ⟨f1, f2, f3, f4, f5⟩ := HF.out.1 j hj1
              obtain ⟨s0, s1⟩ := HF.out.2.2 j (by omega)
              obtain ⟨t0, t1⟩ := HF.out.2.2 (j + 1) (by omega)
              have esum := sumTo_succ hj1
              have d0 := (hcell j hj1).1
              have d1 := (hcell j hj1).2
              have HPrev : Hid (∀ i, j = i + 1 → ∃ pb pm : Int, wr.cell? ⟨ba, oa + i * 2, none⟩ = some (.int .i64 pb) ∧ wr.cell? ⟨ba, oa + i * 2 + 1, none⟩ = some (.int .i64 pm) ∧ pb + pm < l[j].1 ∧ 1 ≤ pb ∧ 1 ≤ pm) := by
                rintro i rfl
                exact ⟨_, _, (hcell i (by omega)).1, (hcell i (by omega)).2, HF.out.2.1 i hj1, (HF.out.1 i (by omega)).1, (HF.out.1 i (by omega)).2.1⟩
              obtain ⟨x1, x2, hx⟩ : ∃ x1 x2, l[j] = (x1, x2) := ⟨_, _, rfl⟩
              rw [hx] at f1 f2 f3 f4 f5 d0 d1 esum HPrev
              simp only at f1 f2 f3 f4 f5 d0 d1 esum HPrev
              obtain ⟨sj, hsj⟩ : ∃ sj, sumTo l j = sj := ⟨_, rfl⟩
              rw [hsj] at esum s0 s1
              rw [esum] at t0 t1
              have HES := Hid.mk esum
              rw [hsj]
              clear hcell hx hsj esum
              have e0 := fun ob => (cell_alloc (w := wr) (o := ob) (a := ⟨ba, oa + j * 2, none⟩) hba).trans d0
              have e1 := fun ob => (cell_alloc (w := wr) (o := ob) (a := ⟨ba, oa + j * 2 + 1, none⟩) hba).trans d1
              obtain ⟨la, hla⟩ : ∃ la, S1.last = la := ⟨_, rfl⟩
              rw [hla] at f3 hl1 hl0 ⊢
              have HLA := Hid.mk hla
              clear hla
              have z1 : decide (x2 < 1) = false := by simp; omega
              have HB := Loc.alloc HL (.cells #[.int .i64 x1, .int .i64 x2] 39)
              have HRB := HR.below ((Below.refl wr.heap.size wr).alloc (Nat.le_refl _) (.cells #[.int .i64 x1, .int .i64 x2] 39))
              have g0 := HB.box (j := 0) (List.Mem.head _) rfl
              have g1 := HB.box (j := 1) (List.Mem.head _) rfl
              go_upto_region 25 with (fail)
              go_cut [119] (fun t W => Hid (t = .bool false ∧ Loc w p S1 [(wr.heap.size, .cells #[.int .i64 x1, .int .i64 x2] 39)] W ∧ Rd W (.slice (some ⟨ba, oa, none⟩) nl cv) l))
              case first =>
                have HM : Hid (∀ q, Loc w p S1 [(wr.heap.size, .cells #[.int .i64 x1, .int .i64 x2] 39)] ((wr.alloc (.cells #[.int .i64 x1, .int .i64 x2] 39)).drewN q) ∧ Rd ((wr.alloc (.cells #[.int .i64 x1, .int .i64 x2] 39)).drewN q) (.slice (some ⟨ba, oa, none⟩) nl cv) l) :=
                  fun q => ⟨HB.keep (below_drewN (Below.refl _ _) q), HRB.below (below_drewN (Below.refl _ _) q)⟩
                clear HB HRB HL HR
                have w0 : IntKind.i64.wrap (la + 1) = la + 1 := by rw [IntKind.wrap_i64]; omega
                have z0 : decide (x1 + x2 > la + 1) = false := by simp; omega
                rcases Nat.eq_zero_or_pos j with hj0 | hj0
                · have z3 : decide ((j : Int) > 0) = false := by simp; omega
                  clear HPrev
                  go_wp2_with fail
                  go_quiet (fail)
                  go_wp2_with fail
                  go_meet
                  case rel => exact ⟨rfl, HM.out _⟩
                · obtain ⟨i, hi⟩ : ∃ i, j = i + 1 := ⟨j - 1, by omega⟩
                  obtain ⟨pb, pm, p0, p1, p2, p3, p4⟩ := HPrev.out i hi
                  have q0 := fun ob => (cell_alloc (w := wr) (o := ob) (a := ⟨ba, oa + i * 2, none⟩) hba).trans p0
                  have q1 := fun ob => (cell_alloc (w := wr) (o := ob) (a := ⟨ba, oa + i * 2 + 1, none⟩) hba).trans p1
                  clear p0 p1 HPrev
                  have z2 : decide (pb + pm ≥ x1) = false := by simp; omega
                  have z3 : decide ((j : Int) > 0) = true := by simp; omega
                  have w1 : IntKind.i64.wrap ((j : Int) - 1) = (i : Int) := by rw [IntKind.wrap_i64]; omega
                  have w2 : IntKind.i64.wrap (pb + pm) = pb + pm := by rw [IntKind.wrap_i64]; omega
                  have hil : i < nl := by omega
                  have hil' : (i : Int) < (nl : Int) := by omega
                  go_wp2_with fail
                  go_quiet (fail)
                  go_wp2_with fail
                  go_meet
                  case rel => exact ⟨rfl, HM.out _⟩
              case rest =>
                clear HB HRB g0 g1 HL HR e0 e1 d0 d1 HPrev
                obtain ⟨rfl, HL, HR⟩ := hcut.out
                clear hcut
                have g0 := HL.box (j := 0) (List.Mem.head _) rfl
                have g1 := HL.box (j := 1) (List.Mem.head _) rfl
                have w1 : IntKind.i64.wrap (x1 + x2 - 1) = x1 + x2 - 1 := by rw [IntKind.wrap_i64]; omega
                go_wp2_with fail
                refine wp_loop_rounds 3 ?_; rw [rounds_succ]
                go_wp2_with fail
                refine (of_locb (w := w) (Loc.alloc HL _) x1 f4).mono ?_
                rintro e w5 ⟨h5, hb5, rfl⟩
                have HR5 := (HR.below ((Below.refl wc.heap.size wc).alloc (Nat.le_refl _) (.cells #[.int .i64 x1, .int .i64 (x1 + x2 - 1)] 2))).below hb5
                have HL6 := Loc.alloc h5 (.cells #[.int .i64 x1, .int .i64 x2] 39)
                have HR6 := HR5.below ((Below.refl w5.heap.size w5).alloc (Nat.le_refl _) (.cells #[.int .i64 x1, .int .i64 x2] 39))
                clear HL HR g0 g1 hb5 HR5
                have g0 := HL6.box (j := 0) (List.Mem.tail _ (List.Mem.tail _ (List.Mem.head _))) rfl
                have g1 := HL6.box (j := 1) (List.Mem.tail _ (List.Mem.tail _ (List.Mem.head _))) rfl
                have l1 := HL6.box (j := 1) (List.Mem.tail _ (List.Mem.head _)) rfl
                clear h5
                go_wp2_with fail
                rw [rounds_succ]
                go_wp2_with fail
                refine (of_locb (w := w) HL6 (x1 + x2 - 1) f5).mono ?_
                rintro e w7 ⟨h7, hb7, rfl⟩
                have HR7 := HR6.below hb7
                have HL8 := Loc.alloc h7 (.cells #[.int .i64 x1, .int .i64 x2] 39)
                have HR8 := HR7.below ((Below.refl w7.heap.size w7).alloc (Nat.le_refl _) (.cells #[.int .i64 x1, .int .i64 x2] 39))
                clear HL6 HR6 g0 g1 l1 hb7 HR7
                have g0 := HL8.box (j := 0) (List.Mem.tail _ (List.Mem.tail _ (List.Mem.tail _ (List.Mem.head _)))) rfl
                have g1 := HL8.box (j := 1) (List.Mem.tail _ (List.Mem.tail _ (List.Mem.tail _ (List.Mem.head _)))) rfl
                clear h7
                go_wp2_with fail
                rw [rounds_succ]
                go_wp2_with fail
                exact ⟨⟨j + 1, by go_num, by rw [HES.out], by omega, HL8.forget, HR8⟩, by simp [intOf]; omega⟩
            · obtain rfl : j = nl := by omega
              rw [HTot.out]
              obtain ⟨ht0, ht1⟩ := HTot2.out
              clear HF HTot HTot2
              go_wp2_with fail
              refine (live_loc (w := w) HL rfl).mono ?_
              rintro e w4 ⟨h4, rfl⟩
              obtain ⟨tt, htt⟩ : ∃ tt, total S1.regs = tt := ⟨_, rfl⟩
              rw [htt] at ht0 ht1 ⊢
              clear HL HR htt
              go_wp2_with fail
              exact ⟨⟨k + 1, S1, by go_num, rfl, by omega, by omega, h4⟩, by simp [intOf]; omega⟩
      · obtain rfl : k = n := by omega
        go_wp2
        go_ret
        exact ⟨rfl, HL.size⟩
end Go.Proofs.Ytkooogllajmkeaa
