/- The document's Run. -/
import Derived.Test.YtkooogllajmkeaaRd
namespace Go.Proofs.Ytkooogllajmkeaa
open Go.RowKit
theorem seg_snoc {l : List (Int × Int)} {j q : Nat} (h : j + q < l.length) : seg l j (q + 1) = seg l j q ++ [l[j + q]] := by
  unfold seg
  rw [List.take_succ_eq_append_getElem (by simp; omega)]
  simp
theorem seg_nil (l : List (Int × Int)) (j : Nat) : seg l j 0 = [] := by simp [seg]
theorem row_rd {w : World} {base n : Nat} {v : Value} {xs : List (Int × Int)} (h : w.ownsRow base 29 2 v n (wcells xs)) (hn : n = xs.length) : Rd w v xs := Rd.of_row h hn
section
variable {w w' : World} {p : Nat} {last : Int} {rv wv : Value} {ls : List LReg}
set_option maxRecDepth 100000 in
set_option maxHeartbeats 2000000 in
theorem rrun_spc {S : Sp} {gs : List Nat} (h : RSpc w p S gs) (a m : Int) (ha : -9223372036854775808 ≤ a ∧ a ≤ 9223372036854775807) : Calls Try.prog 55 #[.pointer (some ⟨p, 0, none⟩), .int .i64 a, .int .i64 m] w fun e w' =>
    Below w.heap.size w w' ∧ ∃ v, e = .returned (.tuple #[v, .int .i64 (S.run a m).2]) ∧ Rd w' v ((S.run a m).1.getD []) := by
  obtain ⟨rv, wv, ls, h, ok, hwd, hr, hgs⟩ := h
  clear hgs
  have hhas := rhas_any h ok a m ha
  by_cases hm0 : m = 0
  · subst hm0
    have e1 : hasOf (ls.map LReg.reg) a 0 = true := by simp [hasOf]
    have e2 : S.run a 0 = (none, 0) := by unfold Sp.run; rw [if_pos rfl]
    rw [e1] at hhas
    rw [e2]
    clear h ok hwd hr e1 e2
    go_enter Try.func55, Try.ntmps55
    go_wp2_with fail
    refine hhas.mono ?_
    rintro e w1 ⟨hb1, rfl⟩
    go_wp2_with fail
    refine wp_loop_rounds 1 ?_; rw [rounds_succ]
    go_wp2_with fail
    go_ret2
    exact ⟨hb1, _, rfl, .inl ⟨rfl, rfl⟩⟩
  · by_cases hh : 0 < m ∧ (locate (ls.map LReg.reg) a m).isSome = true
    · obtain ⟨hm1, hso⟩ := hh
      obtain ⟨⟨i, j⟩, hl⟩ := Option.isSome_iff_exists.1 hso
      have e1 : hasOf (ls.map LReg.reg) a m = true := by simp [hasOf, hm1, hl]
      rw [e1] at hhas
      obtain ⟨hi', h1, h2⟩ := locate_spec hl
      have hi : i < ls.length := by simpa using hi'
      obtain ⟨q1, q2, q3⟩ := hasB_iff.1 h1
      simp only [List.getElem_map, LReg.reg] at q1 q2 q3 h2
      have hjm : j + m.toNat ≤ ls[i].words.length := by omega
      obtain ⟨nm, hnm⟩ : ∃ nm : Nat, m = nm := ⟨m.toNat, by omega⟩
      have hnt : m.toNat = nm := by omega
      rw [hnt] at hjm
      have e2 : S.run a m = if (0, 0) ∈ seg ls[i].words j nm then (none, 212) else (some (seg ls[i].words j nm), 0) := by
        unfold Sp.run
        rw [if_neg hm0, if_neg (by omega), hr, hl]
        simp only [wordsAt_map hi, hnt]
      have hln := (ok.lo _ (List.getElem_mem hi)).2.2.1
      have hlb := (ok.lo _ (List.getElem_mem hi)).2.2.2
      have hl1 := ok.last1
      have hbs := (ok.lo _ (List.getElem_mem hi)).1
      have ea : a = ls[i].base + (j : Int) := by omega
      have HG : Hid (∀ (W : World) (q : Nat), Below w.heap.size w W → q < nm → ∃ x : Int × Int, ls[i].words[j + q]? = some x ∧ Calls Try.prog 52 #[.pointer (some ⟨p, 0, none⟩), .int .i64 (a + q)] W fun e w' =>
          Below W.heap.size W w' ∧ e = .returned (.tuple (if x = (0, 0) then #[.agg #[.int .i64 0, .int .i64 0], .int .i64 212] else #[.agg #[.int .i64 x.1, .int .i64 x.2], .int .i64 0]))) := by
        intro W q hb hq
        have hx : j + q < ls[i].words.length := by omega
        refine ⟨ls[i].words[j + q], by simp [hx], ?_⟩
        have hc := rget_any (h.below hb) ok hwd (a + q) ⟨by omega, by omega⟩
        have hg : Sp.get ⟨ls.map LReg.reg, S.last⟩ (a + q) = if ls[i].words[j + q] = (0, 0) then ((0, 0), 212) else (ls[i].words[j + q], 0) := by
          have e9 : a + (q : Int) = ls[i].base + ((j + q : Nat) : Int) := by omega
          unfold Sp.get
          rw [e9, loc_at ok hi hx (m := 1) (by omega)]
          simp only [wordAt_map hi hx]
        rw [hg] at hc
        refine hc.mono ?_
        rintro e w' ⟨hb', rfl⟩
        refine ⟨hb', ?_⟩
        by_cases hz : ls[i].words[j + q] = (0, 0)
        · rw [if_pos hz, if_pos hz]
        · rw [if_neg hz, if_neg hz]
      have hin : a + (nm : Int) ≤ 4611686018427387904 := by omega
      obtain ⟨ws, hws⟩ : ∃ ws, ls[i].words = ws := ⟨_, rfl⟩
      rw [hws] at HG e2 hjm hln
      have HE := Hid.mk e2
      subst hnm
      clear e1 e2 h1 h2 q1 q2 q3 hl hso hnt hi' hm0 h ok hwd hr hws ea
      obtain ⟨i0, hi0, hz0, hz1, hz2⟩ := info_parts infoV
      go_enter Try.func55, Try.ntmps55
      go_wp2_with fail
      refine hhas.mono ?_
      rintro e w1 ⟨hb1, rfl⟩
      clear hhas
      go_wp2_with fail
      go_loopw [10, 9] (fun x v wr => ∃ q : Nat, x = .int .i64 q ∧ q ≤ nm ∧ Below w.heap.size w wr ∧ Hid (wr.ownsRow w.heap.size 29 2 v q (wcells (seg ws j q)) ∧ ∀ y ∈ seg ws j q, y ≠ (0, 0))) (fun x _ _ => nm - (intOf x).toNat)
      case atStart => exact ⟨0, rfl, by omega, hb1, by rw [seg_nil]; exact ⟨World.ownsRow_nil _ _ _ _, by simp⟩⟩
      case round =>
        clear hb1
        obtain ⟨q, rfl, hq, hbw, HR⟩ := hrel
        rename_i v _ _
        by_cases hqn : q < nm
        · obtain ⟨x, hx, hget⟩ := HG.out wr q hbw hqn
          have hjq : j + q < ws.length := by omega
          have hxx : ws[j + q] = x := by rw [List.getElem?_eq_getElem hjq] at hx; exact Option.some.inj hx
          have HSN := Hid.mk (seg_snoc hjq)
          rw [hxx] at HSN
          by_cases hz : x = (0, 0)
          · rw [if_pos hz] at hget
            have HM : Hid ((0, 0) ∈ seg ws j nm) := by
              rw [← hz, ← hxx]
              show _ ∈ _
              unfold seg
              rw [List.mem_iff_getElem]
              exact ⟨q, by simp; omega, by simp⟩
            clear hx hxx HSN hz
            go_wp2_with fail
            refine hget.mono ?_
            rintro e w3 ⟨hb3, rfl⟩
            have hb4 := hbw.trans (hb3.mono hbw.size)
            clear hget HR
            go_wp2_with fail
            go_ret2
            rw [HE.out, if_pos HM.out]
            exact ⟨hb4.alloc hb4.size _, _, rfl, .inl ⟨rfl, rfl⟩⟩
          · rw [if_neg hz] at hget
            have HZ := Hid.mk hz
            clear hx hxx hz
            go_wp2_with fail
            refine hget.mono ?_
            rintro e w3 ⟨hb3, rfl⟩
            have hb4 := hbw.trans (hb3.mono hbw.size)
            have hrow := (Kp.of_below hb3 []).row HR.out.1 (by simp)
            have HN := Hid.mk HR.out.2
            clear hget HR
            go_wp2_with (at_builtin; refine wpList_append_own _ rfl _ _ 62 rfl w.heap.size 29 i0 (.agg #[.int .i64 0, .int .i64 0]) 2 16 Try.underlying62 hi0 hz0 hz1 hz2 rfl (by decide) _ _ _ rfl ((hrow.alloc _).alloc _) _ 1 1 [.int .i64 x.1, .int .i64 x.2] rfl rfl ?c2 ?c3 ?c4 ?c5 ?c6 ?_)
            case c2 =>
              intro j u hu
              have := two_new (w3.alloc (.cells #[.int .i64 x.1, .int .i64 x.2] 29)) (.int .i64 x.1) (.int .i64 x.2) 29 j u hu
              simpa using this
            case c3 => intro u hu; simp only [List.mem_cons, List.not_mem_nil, or_false] at hu; obtain rfl | rfl := hu <;> rfl
            case c4 => unfold maxLen; omega
            case c5 => omega
            case c6 => have := hb4.size; simp; omega
            intro v' w9 hown' hgrow hnn
            have hb9 : Below w.heap.size w w9 := by
              have s1 := hb4.size
              have hb5 := (hb4.alloc s1 (.cells #[.int .i64 x.1, .int .i64 x.2] 29)).alloc (by simp; omega) (.cells #[.int .i64 x.1, .int .i64 x.2] 29)
              exact hb5.grown hgrow (by simp; omega) (fun k hk => (hrow.lt k hk).1)
            have HR9 : Hid (w9.ownsRow w.heap.size 29 2 v' (q + 1) (wcells (seg ws j (q + 1))) ∧ ∀ y ∈ seg ws j (q + 1), y ≠ (0, 0)) := by
              show _ ∧ _
              rw [HSN.out]
              refine ⟨by rw [wcells_app]; simpa [wcells, wcell] using hown', fun y hy => ?_⟩
              rcases List.mem_append.1 hy with c | c
              · exact HN.out y c
              · simp only [List.mem_singleton] at c
                subst c
                exact HZ.out
            clear hown' hgrow hrow HN hnn
            go_wp2_with fail
            exact ⟨⟨q + 1, by go_num, by omega, hb9, HR9⟩, by simp [intOf]; omega⟩
        · obtain rfl : q = nm := by omega
          have HR2 := Hid.mk (row_rd HR.out.1 (by simp [seg]; omega))
          have HN := HR.out.2
          have HM : Hid (¬ (0, 0) ∈ seg ws j q) := fun hq => HN _ hq rfl
          clear HR HG HN
          go_wp2_with fail
          go_ret2
          rw [HE.out, if_neg HM.out]
          exact ⟨hbw, _, rfl, HR2.out⟩
    · have e1 : hasOf (ls.map LReg.reg) a m = false := by
        by_cases hm1 : 0 < m
        · have : (locate (ls.map LReg.reg) a m).isSome = false := by simpa using fun q => hh ⟨hm1, q⟩
          simp [hasOf, hm0, this]
        · simp [hasOf, hm0, hm1]
      have e2 : S.run a m = (none, 210) := by
        unfold Sp.run
        rw [if_neg hm0]
        by_cases hm1 : m < 0
        · rw [if_pos hm1]
        · rw [if_neg hm1, hr]
          cases hq : locate (ls.map LReg.reg) a m with
          | none => rfl
          | some x => exact absurd ⟨by omega, by rw [hq]; rfl⟩ hh
      rw [e1] at hhas
      rw [e2]
      clear h ok hwd hr e1 e2 hh
      go_enter Try.func55, Try.ntmps55
      go_wp2_with fail
      refine hhas.mono ?_
      rintro e w1 ⟨hb1, rfl⟩
      go_wp2_with fail
      go_ret2
      exact ⟨hb1, _, rfl, .inl ⟨rfl, rfl⟩⟩
end
end Go.Proofs.Ytkooogllajmkeaa
