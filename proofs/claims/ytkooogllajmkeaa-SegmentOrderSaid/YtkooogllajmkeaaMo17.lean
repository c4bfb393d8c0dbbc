/- Parts Gx, put together. -/
import Derived.Test.YtkooogllajmkeaaMo16
/- SegmentOrder's walk. -/
namespace Go.Proofs.Ytkooogllajmkeaa
open Go.RowKit
set_option pp.deepTerms true
attribute [local go_sem ↓] Go.wp_at_zero Go.wp_at_succ
set_option maxRecDepth 100000 in
set_option maxHeartbeats 4000000 in
theorem order_any {w : World} {v : Value} {os : List (Int × Int)} (h : RdIn w v os) (s c : Int) : Calls Try.prog 7 #[.agg #[.int .i64 s, .int .i64 c], v] w fun e w' => e = .returned (.bool true) ∧ Below w.heap.size w w' := by
  obtain ⟨n, hn⟩ : ∃ n, os.length = n := ⟨_, rfl⟩
  obtain ⟨⟨ao, cap, rfl⟩, hml, hin0, h⟩ := h
  have hin : ∀ x ∈ os, I64 x.2 := fun x hx => (hin0 x hx).2
  clear hin0
  have HN := Hid.mk hn
  have HRd := Hid.mk h
  have HIn := Hid.mk hin
  have hmx : n ≤ 9223372036854775807 := by unfold maxLen at hml; omega
  have hB : Below w.heap.size w (w.alloc (.cells #[.int .i64 s, .int .i64 c] 70)) := (Below.refl _ _).alloc (Nat.le_refl _) _
  have c0 : (w.alloc (.cells #[.int .i64 s, .int .i64 c] 70)).cell? ⟨w.heap.size, 0, none⟩ = some (.int .i64 s) := by simp
  have c1 : (w.alloc (.cells #[.int .i64 s, .int .i64 c] 70)).cell? ⟨w.heap.size, 1, none⟩ = some (.int .i64 c) := by simp
  rw [hn]
  clear h hin hn hml
  go_enter Try.func7, Try.ntmps7
  go_wp2_with fail
  refine (alive24_any _).mono ?_
  rintro e wb ⟨rfl, hb1⟩
  have d0 := keep_be hb1 c0
  have d1 := keep_be hb1 c1
  have hbb := hB.trans (hb1.mono hB.size)
  clear c0 c1 hb1 hB
  go_wp2_with fail
  refine (begin24_any s c wb).mono ?_
  rintro e w2 (⟨hok, x, p, b, pr, q, rfl, hxx, hG⟩ | ⟨hok, x, vp, vr, rfl, hb2, hX⟩)
  · have x1 := hG.box (j := 1) (List.Mem.head _) rfl
    have hsz := hG.size
    by_cases h60 : n ≤ 60
    · have z1 : decide ((n : Int) > 60) = false := by simp; omega
      have HOK : Hid (256 ≤ s ∧ s ≤ 65536 ∧ 0 ≤ c ∧ c ≤ 64) := by
        unfold segOk rangeB at hok
        simp at hok
        exact ⟨by omega, by omega, by omega, by omega⟩
      have HL0 : Hid (OrdI wb x p b pr q s c 0 (.slice none 0 0) w2) := by
        refine ⟨_, _, SegR.nil hG, SInv.new s c ?_, by simp, by simp⟩
        unfold segOk rangeB at hok
        simp at hok
        omega
      clear hok hG hsz
      go_wp2_with fail
      go_loopw [59, 8] (fun i vw wr => ∃ k : Nat, i = .int .i64 k ∧ k ≤ n ∧ Hid (OrdI wb x p b pr q s c k vw wr)) (fun i _ _ => n - (intOf i).toNat)
      case atStart => exact ⟨0, rfl, by omega, HL0⟩
      case round =>
        clear HL0 x1
        obtain ⟨k, rfl, hk, HI⟩ := hrel
        by_cases hlt : k < n
        · have h1 : k < os.length := by rw [HN.out]; exact hlt
          obtain ⟨ba, oa, ca, ev, hba, hcell⟩ := (HRd.out (by omega)).some (by omega)
          simp only [Value.slice.injEq, true_and] at ev
          obtain ⟨rfl, rfl⟩ := ev
          obtain ⟨a0, a1⟩ := hcell k h1
          have hIn := HIn.out _ (List.getElem_mem h1)
          obtain ⟨kd, N, hx⟩ : ∃ kd N, os[k] = (kd, N) := ⟨_, _, rfl⟩
          rw [hx] at a0 a1 hIn
          simp only at a0 a1 hIn
          have HNN := Hid.mk hIn
          clear hx hcell hIn h1
          obtain ⟨S, L, hR, hI, hl, hll⟩ := HI.out
          have hbw := hbb.trans (hR.size.mono hbb.size)
          have e0 := (hbw.cell (p := ⟨ba, oa + k * 2, none⟩) hba).trans a0
          have e1 := (hbw.cell (p := ⟨ba, oa + k * 2 + 1, none⟩) hba).trans a1
          clear hbw a0 a1 hba
          have hA := hR.alloc (.cells #[.int .i64 kd, .int .i64 N] 80)
          have g0 := hA.box (j := 0) (List.Mem.head _) rfl
          have g1 := hA.box (j := 1) (List.Mem.head _) rfl
          have x0 := hA.box (B := x) (j := 0) (List.Mem.tail _ (List.Mem.head _)) rfl
          have x1 := hA.box (B := x) (j := 1) (List.Mem.tail _ (List.Mem.head _)) rfl
          have dA := hA.size
          have HD : Hid (wb.cell? ⟨w.heap.size, 0, none⟩ = some (.int .i64 s) ∧ wb.cell? ⟨w.heap.size, 1, none⟩ = some (.int .i64 c)) := ⟨d0, d1⟩
          have HA := Hid.mk (And.intro hA (And.intro hI (And.intro hl hll)))
          have HA0 : Hid (L.live.length ≤ k) := hll
          clear hA hR hI hl hll HI dA d0 d1
          go_upto_block 2 with (fail)
          obtain ⟨X, hX⟩ : ∃ X, wr.alloc (.cells #[.int .i64 kd, .int .i64 N] 80) = X := ⟨_, rfl⟩
          obtain ⟨Bo, hBo⟩ : ∃ Bo, wr.heap.size = Bo := ⟨_, rfl⟩
          rw [hX] at HA g0 g1 x0 x1
          rw [hBo] at HA g0 g1
          simp only [hX, hBo]
          clear hX hBo e0 e1
          go_cut [8] (fun v W => Hid (OrdI wb x p b pr q s c (k + 1) v W))
          case first =>
            have HD0 : Hid (wb.cell? ⟨w.heap.size, 0, none⟩ = some (.int .i64 s)) := HD.out.1
            have hk60 : k ≤ 60 := by omega
            by_cases hk0 : kd = 0
            · refine so2_k0 HOK hk60 HD0 HA hk0 ?_
              intro c4 c8 c11 c12 c13 c14 c15 c65 c66 c67 c68 c69 c70 c71 c72 c73 c74 c75 c76 c77 c78 c79 c80 c81 c82 c83 c84 c85 c86 c87 c88 c89 c90 c91 c92 c93 c94 c95 c96 c97 c98 c99 c100 c101 c102 c103 c104 c105 c106 c107 c108 c109 c110 c111 c112 c113 c114 c115 c116 c117 c118 c119 c120 c121 c122 c123 c124 c125 c126 c127 c128 c129 c130 c131 c132 c133 c134 c135 c136 c137 c138 c139 c140 c141 c142 c143 c144 c145 W' h
              go_wp2_with fail
              go_meet
              case rel => exact h
            · by_cases hk1 : kd = 1
              · refine so2_k1 HOK hk60 HD0 HA hk1 ?_
                intro c4 c8 c11 c12 c13 c14 c15 c65 c66 c67 c68 c69 c70 c71 c72 c73 c74 c75 c76 c77 c78 c79 c80 c81 c82 c83 c84 c85 c86 c87 c88 c89 c90 c91 c92 c93 c94 c95 c96 c97 c98 c99 c100 c101 c102 c103 c104 c105 c106 c107 c108 c109 c110 c111 c112 c113 c114 c115 c116 c117 c118 c119 c120 c121 c122 c123 c124 c125 c126 c127 c128 c129 c130 c131 c132 c133 c134 c135 c136 c137 c138 c139 c140 c141 c142 c143 c144 c145 W' h
                go_wp2_with fail
                go_meet
                case rel => exact h
              · by_cases hk3 : kd = 3
                · refine so2_k3 HOK hk60 HD0 HA hk3 ?_
                  intro c4 c8 c11 c12 c13 c14 c15 c65 c66 c67 c68 c69 c70 c71 c72 c73 c74 c75 c76 c77 c78 c79 c80 c81 c82 c83 c84 c85 c86 c87 c88 c89 c90 c91 c92 c93 c94 c95 c96 c97 c98 c99 c100 c101 c102 c103 c104 c105 c106 c107 c108 c109 c110 c111 c112 c113 c114 c115 c116 c117 c118 c119 c120 c121 c122 c123 c124 c125 c126 c127 c128 c129 c130 c131 c132 c133 c134 c135 c136 c137 c138 c139 c140 c141 c142 c143 c144 c145 W' h
                  go_wp2_with fail
                  go_meet
                  case rel => exact h
                · refine so2_kx HOK hk60 HD0 HA hk0 hk1 hk3 ?_
                  intro c4 c8 c11 c12 c13 c14 c15 c65 c66 c67 c68 c69 c70 c71 c72 c73 c74 c75 c76 c77 c78 c79 c80 c81 c82 c83 c84 c85 c86 c87 c88 c89 c90 c91 c92 c93 c94 c95 c96 c97 c98 c99 c100 c101 c102 c103 c104 c105 c106 c107 c108 c109 c110 c111 c112 c113 c114 c115 c116 c117 c118 c119 c120 c121 c122 c123 c124 c125 c126 c127 c128 c129 c130 c131 c132 c133 c134 c135 c136 c137 c138 c139 c140 c141 c142 c143 c144 c145 W' h
                  go_wp2_with fail
                  go_meet
                  case rel => exact h
          case rest =>
            clear g0 g1 x0 x1 HA0 HA
            obtain ⟨S, L, hR, hI, hl, hll⟩ := hcut.out
            clear hcut
            have x0 := hR.box (B := x) (j := 0) (List.Mem.head _) rfl
            have x1 := hR.box (B := x) (j := 1) (List.Mem.head _) rfl
            have y1 := keep_be hR.size HD.out.2
            have hfew := hI.few
            have hreg := hI.len
            have hO := HOK.out
            obtain ⟨nl, hnl⟩ : ∃ nl, L.live.length = nl := ⟨_, rfl⟩
            obtain ⟨nk, hnk⟩ : ∃ nk, L.kept.length = nk := ⟨_, rfl⟩
            have hnl60 : nl ≤ 60 := by omega
            have hnk64 : nk ≤ 64 := by omega
            have zk : decide ((nk : Int) > c) = false := by simp; omega
            have HI := Hid.mk (And.intro hI (And.intro hl (And.intro hll (And.intro hnl (And.intro hnk (And.intro hreg hR.ok))))))
            have hkc := kept24_seg hR.seg (by omega)
            have HKC := Hid.mk hkc
            have HR := Hid.mk hR
            obtain ⟨ao, cpw, e8⟩ := own_shape hR.row
            rw [hnl] at e8
            subst e8
            clear hR hI hl hll hfew hreg hO hkc hnl hnk
            go_wp2_with fail
            refine HKC.out.mono ?_
            rintro e w3 ⟨-, hb3, vk, rfl, hkrow⟩
            obtain ⟨aok, cpk, ek⟩ := own_shape hkrow
            rw [HI.out.2.2.2.2.1] at ek
            subst ek
            have hrk := Rd.of_row hkrow rfl
            have hR3 := HR.out.keep hb3
            have x0 := keep_be hb3 x0
            have x1 := keep_be hb3 x1
            have y1 := keep_be hb3 y1
            have hlc := live24_seg hR3.seg (by have := HI.out.2.2.2.1; omega)
            have HLC := Hid.mk hlc
            have HR3 := Hid.mk (And.intro hR3 hrk)
            clear hb3 hkrow hrk hR3 hlc HKC HR
            go_wp2_with fail
            refine HLC.out.mono ?_
            rintro e w4 ⟨-, hb4, vl, rfl, hlrow⟩
            have hrl := Rd.of_row hlrow rfl
            have hR4 := HR3.out.1.keep hb4
            have hrk := HR3.out.2.below hb4
            have x0 := keep_be hb4 x0
            have y1 := keep_be hb4 y1
            have hsc := same_Same21 hrl (Rd.of_row hR4.row rfl) (by have := HI.out.2.2.2.1; omega)
            have HSC := Hid.mk hsc
            have HR4 := Hid.mk (And.intro hR4 hrk)
            clear hb4 hlrow hrl hR4 hrk hsc x1 HLC HR3
            go_wp2_with fail
            refine HSC.out.mono ?_
            rintro e w5 ⟨hb5, rfl⟩
            rw [decide_eq_true (rfl : L.live = L.live)]
            have hR5 := HR4.out.1.keep hb5
            have hrk := HR4.out.2.below hb5
            have x0 := keep_be hb5 x0
            have y1 := keep_be hb5 y1
            have hrc := regions_seg hR5.seg
            have HRC := Hid.mk hrc
            have HR5 := Hid.mk (And.intro hR5 hrk)
            clear hb5 hR5 hrk hrc HSC HR4
            go_wp2_with fail
            refine HRC.out.mono ?_
            rintro e w6 ⟨hb6, vr, hrr, rfl⟩
            obtain ⟨aor, cpr, er⟩ := hrr.shape
            rw [show (tells S.regs).length = nl + nk by simp only [tells, List.length_map]; rw [HI.out.2.2.2.2.2.1, HI.out.2.2.2.1, HI.out.2.2.2.2.1]] at er
            subst er
            have hR6 := HR5.out.1.keep hb6
            have hrk := HR5.out.2.below hb6
            have HR6 := Hid.mk (And.intro hR6 hrk)
            have hws : IntKind.i64.wrap ((nl : Int) + (nk : Int)) = (nl : Int) + (nk : Int) := by rw [IntKind.wrap_i64]; omega
            have hb6s := hR6.size.size
            have e1 := own_empty w6 hb6s
            have hal : Below w6.heap.size w6 (w6.alloc (.cells #[] 39)) := (Below.refl _ _).alloc (Nat.le_refl _) _
            have hrw7 := Rd.of_row (hR6.keep hal).row rfl
            have HAL := Hid.mk hal
            clear hb6 hR6 hrk HRC HR5 x0 y1 hal
            go_wp2_with (at_builtin; refine wpList_append_rd rfl _ _ rfl wb.heap.size _ _ (xs := []) (ys := L.live) rfl rfl e1 hrw7 ?m1 ?m2 ?_)
            case m1 => have := HI.out.2.2.2.1; simp; omega
            case m2 => simp; omega
            intro v8 w8 hown8 hg8 hat8
            have hb8 : Below w6.heap.size w6 w8 := HAL.out.grown hg8 (by simp) (fun k hk => by simp [Value.ownBlock] at hk; omega)
            have hat8' : ∀ k, v8.ownBlock = some k → w6.heap.size ≤ k := fun k hk => by
              rcases hat8 with q | q <;> (rw [q] at hk; simp [Value.ownBlock] at hk; omega)
            have hrk8 := HR6.out.2.below hb8
            have HB8 := Hid.mk hb8
            have hs8 := Nat.le_trans hb6s hb8.size
            clear hrw7 hat8 hg8 e1 hb8
            go_wp2_with (at_builtin; refine wpList_append_rd rfl _ _ rfl wb.heap.size _ _ (xs := L.live) (ys := L.kept) rfl rfl hown8 hrk8 ?m1 hs8 ?_)
            case m1 => have := HI.out.2.2.2.1; have := HI.out.2.2.2.2.1; simp; omega
            intro va w9 hown9 hg9 hat9
            have hb9 : Below w6.heap.size w6 w9 := HB8.out.grown hg9 HB8.out.size hat8'
            have hra := Rd.of_row hown9 (by simp)
            have HA9 : Hid (va.ownBlock = none ∨ True) := .inr trivial
            have HS : Hid (Sto wb p b s c S L [(x, pl24 p b pr q), (q, qlo pr s c), (pr, rs0)] (.slice ao nl cpw) (.slice aok nk cpk) va w9) := ⟨HR6.out.1.keep hb9, HR6.out.2.below hb9, hra⟩
            have HOWN := Hid.mk hown9
            obtain ⟨aoa, cpa, ea⟩ := own_shape hown9
            obtain ⟨m, hm⟩ : ∃ m, L.live.length + L.kept.length = m := ⟨_, rfl⟩
            rw [hm] at ea
            subst ea
            have hm2 : m ≤ nl + nk := by rw [← hm, HI.out.2.2.2.1, HI.out.2.2.2.2.1]; exact Nat.le_refl _
            have HM : Hid ((L.live ++ L.kept).length = m) := by rw [List.length_append]; exact hm
            clear hm
            have hcapA : m ≤ cpa := by
              rcases HOWN.out.2 with ⟨q, h0⟩ | ⟨g, cap', cur, q, _, _, hc, _⟩
              · have h0' : (L.live ++ L.kept).length = 0 := by simpa using h0
                have := HM.out
                omega
              · simp only [Value.slice.injEq] at q
                have := HM.out
                rw [List.length_append] at this
                omega
            clear hown8 hown9 hat8' hrk8 hg9 hat9 hb9 hra HB8 HAL HR6 HA9 hs8 hb6s hws zk HOWN
            have HI3 : Hid (SInv S L s c ∧ Spok S ∧ S.last ≤ 65540 * ((k + 1 : Nat) : Int)) := ⟨HI.out.1, HI.out.2.2.2.2.2.2, HI.out.2.1⟩
            have hm1000 : m ≤ 1000 := by omega
            have hnk1000 : nk ≤ 1000 := by omega
            have hk101 : k + 1 ≤ 100 := by omega
            go_upto_block 3 with (fail)
            go_cut [] (fun W => Hid (Sto wb p b s c S L [(x, pl24 p b pr q), (q, qlo pr s c), (pr, rs0)] (.slice ao nl cpw) (.slice aok nk cpk) (.slice aoa m cpa) W))
            case first =>
              refine so3 (k := k + 1) rfl hm1000 hcapA HM HI3 hk101 HS ?_
              intro c4 c18 c19 c20 c21 c23 c187 c188 c189 c190 c191 c192 c193 c194 c195 c196 c197 c198 c199 c200 c201 c202 c203 c204 c205 c206 c207 c208 c209 c210 c211 c212 c213 c214 c215 c216 c217 c218 c219 c220 c221 c222 c223 c224 c225 c226 c227 c228 c229 c230 c231 c232 c233 c234 c235 c236 W' h
              go_wp2_with fail
              go_meet
              case rel => exact h
            case rest =>
              have HK : Hid (L.kept.length = nk) := HI.out.2.2.2.2.1
              have HL1 : Hid (L.live.length ≤ k + 1) := HI.out.2.2.1
              clear HS
              go_upto_block 7 with (fail)
              refine so7 (k := k + 1) hnk1000 HK HI3 hk101 hcut ?_
              intro c4 c25 c26 c27 c28 c239 c240 c241 c242 c243 c244 c245 c246 c247 c248 c249 c250 c251 c252 c253 c254 c255 c256 c257 c258 c259 c260 c261 c262 c263 c264 W' h
              have HW : Hid (OrdI wb x p b pr q s c (k + 1) (.slice ao nl cpw) W') := ⟨S, L, h.1, HI3.out.1, HI3.out.2.2, HL1.out⟩
              clear h
              go_wp2_with fail
              exact ⟨⟨k + 1, by go_num, by omega, HW⟩, by simp [intOf]; omega⟩
        · obtain rfl : k = n := by omega
          have HF : Hid (Below w.heap.size w wr) := by
            obtain ⟨S, L, h1, -⟩ := HI.out
            exact hbb.trans (h1.size.mono hbb.size)
          clear HI
          go_wp2_with fail
          go_ret
          exact ⟨rfl, HF.out⟩
    · have z1 : decide ((n : Int) > 60) = true := by simp; omega
      have HF := Hid.mk (hbb.trans (hsz.mono hbb.size))
      clear hG hsz
      go_wp2_with fail
      go_ret
      exact ⟨rfl, HF.out⟩
  · have x1 : w2.cell? ⟨x, 1, none⟩ = some (.pointer none) := by rw [cell_of_row w2 x 1 _ _ _ hX]; rfl
    have HF := Hid.mk (hbb.trans (hb2.mono hbb.size))
    clear hb2 hX
    by_cases h60 : n ≤ 60
    · have z1 : decide ((n : Int) > 60) = false := by simp; omega
      go_wp2_with fail
      go_ret
      exact ⟨rfl, HF.out⟩
    · have z1 : decide ((n : Int) > 60) = true := by simp; omega
      go_wp2_with fail
      go_ret
      exact ⟨rfl, HF.out⟩
end Go.Proofs.Ytkooogllajmkeaa
