/- Parts Va Vb Vd Ve Ye, put together. -/
import Derived.Test.YtpfnnmcokbolhaaGreatMc3
import Derived.Test.YtpfnnmcokbolhaaGreatMc16
import Derived.Test.YtpfnnmcokbolhaaGreatMc23
import Derived.LoopTactic
import Derived.Deep.QuietTactic
import Derived.BigQuiet
/- Great, and the twin's making. -/
namespace Go.Proofs.YtpfnnmcokbolhaaGreat
open Go.RowKit
set_option pp.deepTerms true
def Small25 (s : Int) (os : List OpV) : Prop := os.length ≤ 80 ∧ ¬ (2000 < s ∧ s ≤ 65536) ∧ ∀ x ∈ os, x.o.l.slots.length ≤ 100
set_option maxRecDepth 100000 in
set_option maxHeartbeats 1000000 in
theorem great25_any {w : World} {v : Value} {os : List OpV} (h : Ops25 w v os) (s c : Int) : Calls Tryz.prog 7 #[.agg #[.int .i64 s, .int .i64 c], v] w fun e w' => Below w.heap.size w w' ∧ (e = .returned (.int .i64 1) ∨ e = .returned (.int .i64 0) ∧ Small25 s os) := by
  obtain ⟨⟨ao, cv, rfl⟩, hml, hok, hc⟩ := h
  have hmx : os.length ≤ 9223372036854775807 := by unfold maxLen at hml; omega
  clear hml
  obtain ⟨n, hn⟩ : ∃ n, os.length = n := ⟨_, rfl⟩
  have HN := Hid.mk hn
  have HC : Hid (∀ i (hi : i < os.length), ∃ b o, ao = some ⟨b, o, none⟩ ∧ b < w.heap.size ∧ OpVAt w b (o + i * 10) os[i] ∧ OpVOk w os[i]) := by
    intro i hi
    obtain ⟨b, o, c', e, hb, ha⟩ := hc (by omega)
    simp only [Value.slice.injEq] at e
    exact ⟨b, o, e.1, hb, ha i hi, hok _ (List.getElem_mem hi)⟩
  clear hc hok
  rw [hn] at hmx ⊢
  clear hn
  have hB : Below w.heap.size w (w.alloc (.cells #[.int .i64 s, .int .i64 c] 23)) := (Below.refl _ _).alloc (Nat.le_refl _) _
  have HB := Hid.mk hB
  clear hB
  by_cases h80 : 80 < n
  · have z0 : decide ((n : Int) > 80) = true := by simp; omega
    go_enter Tryz.func7, Tryz.ntmps7
    go_wp2_with fail
    go_ret
    exact ⟨HB.out, .inl rfl⟩
  · have z0 : decide ((n : Int) > 80) = false := by simp; omega
    by_cases hs1 : 2000 < s ∧ s ≤ 65536
    · have z1 : decide (s > 2000) = true := by simpa using hs1.1
      have z2 : decide (s ≤ 65536) = true := by simpa using hs1.2
      clear hs1
      go_enter Tryz.func7, Tryz.ntmps7
      go_wp2_with fail
      go_ret
      exact ⟨HB.out, .inl rfl⟩
    · have HS1 := Hid.mk hs1
      by_cases hs2 : 2000 < s
      · have z1 : decide (s > 2000) = true := by simpa using hs2
        have z2 : decide (s ≤ 65536) = false := by simp; omega
        clear hs1 hs2
        go_enter Tryz.func7, Tryz.ntmps7
        go_wp2_with fail
        go_loopw [21] (fun i wr => ∃ k : Nat, i = .int .i64 k ∧ k ≤ n ∧ Hid (∀ j (h1 : j < os.length), j < k → os[j].o.l.slots.length ≤ 100) ∧ Hid (Below w.heap.size w wr)) (fun i _ => n - (intOf i).toNat)
        case atStart => exact ⟨0, rfl, by omega, fun _ _ q => absurd q (by omega), HB⟩
        case round =>
          obtain ⟨k, rfl, hk, HBD, HW⟩ := hrel
          by_cases hlt : k < n
          · have h1 : k < os.length := by rw [HN.out]; exact hlt
            obtain ⟨b, o, rfl, hbl, ha, hv⟩ := HC.out k h1
            obtain ⟨-, -, a2, -, -, -, a6, -⟩ := ha
            obtain ⟨sa, sc, hsv⟩ := hv.1.shape
            obtain ⟨-, -, aa, ac, hav⟩ := hv
            have c2 := (HW.out.cell (p := ⟨b, o + k * 10 + 2, none⟩) hbl).trans a2
            have c6 := (HW.out.cell (p := ⟨b, o + k * 10 + 6, none⟩) hbl).trans a6
            rw [hsv] at c2
            rw [hav] at c6
            obtain ⟨sn, hsn⟩ : ∃ sn, os[k].o.l.slots.length = sn := ⟨_, rfl⟩
            obtain ⟨an, han⟩ : ∃ an, os[k].an = an := ⟨_, rfl⟩
            rw [hsn] at c2
            rw [han] at c6
            have HSN := Hid.mk (Exists.intro h1 hsn : ∃ h1 : k < os.length, os[k].o.l.slots.length = sn)
            have hlt' : (k : Int) < (n : Int) := by omega
            clear a2 a6 hsv hav hsn han hbl h1 HC
            by_cases q1 : 100 < sn
            · have z5 : decide ((sn : Int) > 100) = true := by simp; omega
              go_wp2_with fail
              go_ret
              exact ⟨HW.out, .inl rfl⟩
            · have z5 : decide ((sn : Int) > 100) = false := by simp; omega
              by_cases q2 : 100 < an
              · have z6 : decide ((an : Int) > 100) = true := by simp; omega
                go_wp2_with fail
                go_ret
                exact ⟨HW.out, .inl rfl⟩
              · have z6 : decide ((an : Int) > 100) = false := by simp; omega
                have HBD' : Hid (∀ j (h1 : j < os.length), j < k + 1 → os[j].o.l.slots.length ≤ 100) := by
                  intro j h1 hj
                  rcases Nat.lt_or_ge j k with q | q
                  · exact HBD.out j h1 q
                  · obtain rfl : j = k := by omega
                    obtain ⟨h9, e⟩ := HSN.out
                    rw [e]
                    omega
                go_wp2_with fail
                exact ⟨⟨k + 1, by go_num, by omega, HBD', HW⟩, by simp [intOf]; omega⟩
          · obtain rfl : k = n := by omega
            have HS : Hid (Small25 s os) := by
              refine ⟨by rw [HN.out]; omega, HS1.out, fun x hx => ?_⟩
              obtain ⟨j, hj, rfl⟩ := List.mem_iff_getElem.1 hx
              exact HBD.out j hj (by rw [HN.out] at hj; exact hj)
            clear HBD HC
            go_wp2_with fail
            go_ret
            exact ⟨HW.out, .inr ⟨rfl, HS.out⟩⟩
      · have z1 : decide (s > 2000) = false := by simp; omega
        clear hs1 hs2
        go_enter Tryz.func7, Tryz.ntmps7
        go_wp2_with fail
        go_loopw [21] (fun i wr => ∃ k : Nat, i = .int .i64 k ∧ k ≤ n ∧ Hid (∀ j (h1 : j < os.length), j < k → os[j].o.l.slots.length ≤ 100) ∧ Hid (Below w.heap.size w wr)) (fun i _ => n - (intOf i).toNat)
        case atStart => exact ⟨0, rfl, by omega, fun _ _ q => absurd q (by omega), HB⟩
        case round =>
          obtain ⟨k, rfl, hk, HBD, HW⟩ := hrel
          by_cases hlt : k < n
          · have h1 : k < os.length := by rw [HN.out]; exact hlt
            obtain ⟨b, o, rfl, hbl, ha, hv⟩ := HC.out k h1
            obtain ⟨-, -, a2, -, -, -, a6, -⟩ := ha
            obtain ⟨sa, sc, hsv⟩ := hv.1.shape
            obtain ⟨-, -, aa, ac, hav⟩ := hv
            have c2 := (HW.out.cell (p := ⟨b, o + k * 10 + 2, none⟩) hbl).trans a2
            have c6 := (HW.out.cell (p := ⟨b, o + k * 10 + 6, none⟩) hbl).trans a6
            rw [hsv] at c2
            rw [hav] at c6
            obtain ⟨sn, hsn⟩ : ∃ sn, os[k].o.l.slots.length = sn := ⟨_, rfl⟩
            obtain ⟨an, han⟩ : ∃ an, os[k].an = an := ⟨_, rfl⟩
            rw [hsn] at c2
            rw [han] at c6
            have HSN := Hid.mk (Exists.intro h1 hsn : ∃ h1 : k < os.length, os[k].o.l.slots.length = sn)
            have hlt' : (k : Int) < (n : Int) := by omega
            clear a2 a6 hsv hav hsn han hbl h1 HC
            by_cases q1 : 100 < sn
            · have z5 : decide ((sn : Int) > 100) = true := by simp; omega
              go_wp2_with fail
              go_ret
              exact ⟨HW.out, .inl rfl⟩
            · have z5 : decide ((sn : Int) > 100) = false := by simp; omega
              by_cases q2 : 100 < an
              · have z6 : decide ((an : Int) > 100) = true := by simp; omega
                go_wp2_with fail
                go_ret
                exact ⟨HW.out, .inl rfl⟩
              · have z6 : decide ((an : Int) > 100) = false := by simp; omega
                have HBD' : Hid (∀ j (h1 : j < os.length), j < k + 1 → os[j].o.l.slots.length ≤ 100) := by
                  intro j h1 hj
                  rcases Nat.lt_or_ge j k with q | q
                  · exact HBD.out j h1 q
                  · obtain rfl : j = k := by omega
                    obtain ⟨h9, e⟩ := HSN.out
                    rw [e]
                    omega
                go_wp2_with fail
                exact ⟨⟨k + 1, by go_num, by omega, HBD', HW⟩, by simp [intOf]; omega⟩
          · obtain rfl : k = n := by omega
            have HS : Hid (Small25 s os) := by
              refine ⟨by rw [HN.out]; omega, HS1.out, fun x hx => ?_⟩
              obtain ⟨j, hj, rfl⟩ := List.mem_iff_getElem.1 hx
              exact HBD.out j hj (by rw [HN.out] at hj; exact hj)
            clear HBD HC
            go_wp2_with fail
            go_ret
            exact ⟨HW.out, .inr ⟨rfl, HS.out⟩⟩
section
variable {w W : World} {F : List Asr} {t b p k : Nat} {sz ca : Int} {C : Ch}
theorem Sep.row0 (h : Sep w F W) (T : TypeId) (n : Nat) : Sep w (rw_ 0 T n (.slice none 0 0) 0 [] :: F) W :=
  Sep.rerow (Sep.row h (Below.refl W.heap.size W) (World.ownsRow_nil W W.heap.size T n)) (by intro b q; exact q) (World.ownsRow_nil W 0 T n)
theorem tw_new (h : Sep w (chP b p k sz ca C F) W) : Sep w (twL W.heap.size b (.slice none 0 0) (.slice none 0 0) [] [] 0 ++ chP b p k sz ca C F) (W.alloc (.cells #[.pointer (some ⟨b, 0, none⟩), .slice none 0 0, .slice none 0 0, .int .i64 0] 44)) := by
  have h1 := Sep.row0 (Sep.row0 (h.alloc (.cells #[.pointer (some ⟨b, 0, none⟩), .slice none 0 0, .slice none 0 0, .int .i64 0] 44)) 56 7) 115 5
  exact h1.perm (((List.Perm.swap _ _ _).trans (List.Perm.cons _ (List.Perm.swap _ _ _))).trans (List.Perm.swap _ _ _))
set_option maxRecDepth 100000 in
set_option maxHeartbeats 1000000 in
theorem twins_any (h : Sep w F W) (s c : Int) : Calls Tryz.prog 6 #[.agg #[.int .i64 s, .int .i64 c]] W fun e w' => (segOk s c = true ∧ ∃ t b p k, Sep w (twL t b (.slice none 0 0) (.slice none 0 0) [] [] 0 ++ chP b p k s c (newC s).2 F) w' ∧ e = .returned (.pointer (some ⟨t, 0, none⟩))) ∨ (segOk s c = false ∧ Sep w F w' ∧ e = .returned (.pointer none)) := by
  have h0 := (h.alloc (.cells #[.int .i64 s, .int .i64 c] 23)).space
  simp only [World.size_alloc] at h0
  cases hs : segOk s c
  · have HN := Hid.mk (cnew_bad (p := W.heap.size + 1) h0 hs)
    clear h0 h hs
    go_enter Tryz.func6, Tryz.ntmps6
    go_wp2_with fail
    refine HN.out.mono ?_
    rintro e w1 ⟨h1, rfl⟩
    have H1 := Hid.mk (Sep.lose 0 (Sep.lose 0 h1))
    clear HN h1
    go_wp2_with fail
    go_ret
    exact .inr ⟨by trivial, H1.out, rfl⟩
  · have HN := Hid.mk (cnew_ok h0 hs)
    clear h0 h hs
    go_enter Tryz.func6, Tryz.ntmps6
    go_wp2_with fail
    refine HN.out.mono ?_
    rintro e w1 ⟨b, k, h1, rfl⟩
    have H1 := Hid.mk (tw_new (Sep.lose 3 h1))
    clear HN h1
    go_wp2_with fail
    go_ret
    exact .inl ⟨by trivial, _, _, _, _, H1.out, rfl⟩
end
end Go.Proofs.YtpfnnmcokbolhaaGreat
/- The twin, as it is carried: do, alike, lengths. -/
namespace Go.Proofs.YtpfnnmcokbolhaaGreat
open Go.RowKit
set_option pp.deepTerms true
section
variable {w W : World} {F G : List Asr} {t b p k g c : Nat} {sz ca many : Int} {C : Ch} {lv pv : Value} {ml l : List Mv} {x : Mv} {Q : List (Int × Pf)} {A : Asr} {T : Tw} {Z : List (Md × Af)} {n : Nat} {o : Op25} {sv av : Value} {last : Bool} {B0 : Nat}
variable {N : Nt} {n' : Nat}
theorem TwR.do_ (h : TwR w W t b p k sz ca n N F) (hn : n ≤ 280) (hn' : (if N.M ≠ [] ∧ (o.kind = 3 ∨ o.kind = 6) then n else n + 1) ≤ n') (hsl : ∀ W', Sep w F W' → Rdi W' sv o.l.slots) (hcap : SlOk sv) (hlen : o.l.slots.length ≤ 100) :
    Calls Tryz.prog 8 #[.pointer (some ⟨t, 0, none⟩), (.agg #[.int .i64 o.kind, .int .i64 o.n, sv, .int .i64 o.l.args, .int .i64 o.l.res, .int .i64 o.l.height, av, .int .i64 o.v.1, .int .i64 o.v.2, .bool last])] W fun e w' => TwR w w' t b p k sz ca n' (stepN N o) F ∧ e = .returned (.bool true) := by
  obtain ⟨⟨C, M, Q, many⟩, Z, ⟨lv, pv, ml, hM, hS⟩, hs, rfl⟩ := h
  simp only at hM hS
  subst hM
  exact tdo_any hS hs hn (by simpa [Tw.N] using hn') hsl hcap hlen
theorem TwR.more (h : TwR w W t b p k sz ca n N F) (o : Obj) : TwR w (W.alloc o) t b p k sz ca n N (bx W.heap.size o :: F) := by
  obtain ⟨T, Z, ⟨lv, pv, ml, hM, hS⟩, hs, hN⟩ := h
  exact ⟨T, Z, ⟨lv, pv, ml, hM, tw_more hS o⟩, hs, hN⟩
theorem TwR.keep {W' : World} (h : TwR w W t b p k sz ca n N F) (hb : Below W.heap.size W W') : TwR w W' t b p k sz ca n N F := by
  obtain ⟨T, Z, ⟨lv, pv, ml, hM, hS⟩, hs, hN⟩ := h
  exact ⟨T, Z, ⟨lv, pv, ml, hM, hS.keep hb⟩, hs, hN⟩
theorem TwR.sep (h : TwR w W t b p k sz ca n N F) : Sep w F W := by
  obtain ⟨T, Z, ⟨lv, pv, ml, hM, hS⟩, hs, hN⟩ := h
  rw [twch_eq] at hS
  exact Sep.sub hS (List.sublist_append_right _ _)
theorem TwR.len (h : TwR w W t b p k sz ca n N F) : (∃ ao c, W.cell? ⟨t, 1, none⟩ = some (.slice ao N.M.length c)) ∧ N.M.length ≤ n := by
  obtain ⟨T, Z, ⟨lv, pv, ml, hM, hS⟩, hs, rfl⟩ := h
  obtain ⟨⟨ao, c, rfl⟩, -⟩ := tw_shapes hS
  obtain ⟨-, k1, -, -, -⟩ := tw_k hS
  have e : ml.length = T.N.M.length := by show _ = T.M.length; rw [← hM, List.length_map]
  rw [e] at k1
  exact ⟨⟨_, _, k1⟩, hs.len.1⟩
theorem TwR.top {f : Md} {M : List Md} (h : TwR w W t b p k sz ca n N F) (hn : n ≤ 300) (hM : N.M = f :: M) : (∃ g c oa oc, W.cell? ⟨t, 1, none⟩ = some (.slice (some ⟨g, 0, none⟩) (M.length + 1 : Nat) c) ∧ W.cell? ⟨g, M.length * 7 + 5, none⟩ = some (.slice oa f.ops.length oc)) ∧ f.ops.length ≤ 64 := by
  obtain ⟨⟨C, M', Q, many⟩, Z, ⟨lv, pv, ml, hM', hS⟩, hs, rfl⟩ := h
  simp only at hM' hS
  subst hM'
  cases ml with
  | nil => cases hM
  | cons x l =>
    simp only [Tw.N, List.map_cons, List.cons.injEq] at hM
    obtain ⟨rfl, rfl⟩ := hM
    obtain ⟨g, c, rfl, hc, -, -, -, -, -, k5, -, -⟩ := tw_top hS
    obtain ⟨oa, oc, hov, -, -⟩ := tw_ovShape hS
    rw [hov] at k5
    obtain ⟨-, k1, -, -, -⟩ := tw_k hS
    rw [List.length_map]
    exact ⟨⟨g, c, oa, oc, k1, k5⟩, (hs.md (m := x.m) (by simp)).2.2.2.2⟩
theorem TwR.depth (h : TwR w W t b p k sz ca n N F) : W.cell? ⟨t, 0, none⟩ = some (.pointer (some ⟨b, 0, none⟩)) ∧ Calls Tryz.prog 10 #[.pointer (some ⟨b, 0, none⟩)] W fun e w' => w' = W ∧ e = .returned (.int .i64 N.M.length) := by
  obtain ⟨T, Z, ⟨lv, pv, ml, hM, hS⟩, hs, rfl⟩ := h
  refine ⟨(tw_k hS).1, ?_⟩
  exact cdepth_G hS hs.len.2
theorem TwR.new {s c : Int} (h : Sep w (twL t b (.slice none 0 0) (.slice none 0 0) [] [] 0 ++ chP b p k s c (newC s).2 F) W) (hs : segOk s c = true) (hsz : s ≤ 2000) : TwR w W t b p k s c 0 ⟨[], [], 0⟩ F := ⟨⟨(newC s).2, [], [], 0⟩, [], ⟨_, _, [], rfl, h⟩, Sim.new hs hsz, rfl⟩
end
end Go.Proofs.YtpfnnmcokbolhaaGreat
/- Frames as lists: behind the arguments no slot points anywhere; what is told of a chain that hangs on no address. -/
namespace Go.Proofs.YtpfnnmcokbolhaaGreat
open Go.RowKit
/-- behind the arguments there is no pointer but the null one -/
def NullM (m : Md) : Prop := ∀ (i : Nat) (hi : i < m.slots.length), m.lay.args ≤ i → m.slots[i].1 = 4 → m.slots[i].2 = 0
def Null (N : Nt) : Prop := ∀ m ∈ N.M, NullM m
theorem NullM.ops {m : Md} (h : NullM m) (o : List (Int × Int)) : NullM (m.withOps o) := h
theorem NullM.set {m : Md} (h : NullM m) (j : Nat) {v : Int × Int} (hv : v.1 = 4 → v.2 = 0) : NullM (m.set j v) := by
  intro i hi ha
  have hi' : i < m.slots.length := by simpa [Md.set] using hi
  have e : (m.set j v).slots[i]? = some (if j = i then v else m.slots[i]) := by
    show (m.slots.set j v)[i]? = _
    rw [List.getElem?_set]
    split
    · rename_i q
      subst q
      simp [hi']
    · exact List.getElem?_eq_getElem hi'
  rw [List.getElem?_eq_getElem hi] at e
  simp only [Option.some.injEq] at e
  rw [e]
  split
  · exact hv
  · exact h i hi' ha
theorem null_fill {l : Lay} {vs : List (Int × Int)} {w link : Int} (hl : vs.length ≤ l.slots.length) (h : ∀ (i : Nat) (hi : i < vs.length), l.args ≤ i → vs[i].1 = 4 → vs[i].2 = 0) : NullM ⟨l, fillV l.slots vs, [], w, link⟩ := by
  intro i hi ha
  simp only at hi ha ⊢
  have e := fillV_app hl
  by_cases q : i < vs.length
  · have e2 : (fillV l.slots vs)[i] = vs[i] := by
      have : (fillV l.slots vs)[i]? = some vs[i] := by rw [e, List.getElem?_append_left q]; simp [q]
      rw [List.getElem?_eq_getElem hi] at this
      simpa using this
    rw [e2]
    exact h i q ha
  · intro _
    have hi2 : i < l.slots.length := by have hi3 := hi; rw [e] at hi3; simp at hi3; omega
    have : (fillV l.slots vs)[i]? = some (l.slots[i], 0) := by
      rw [e, List.getElem?_append_right (by omega), List.getElem?_map, List.getElem?_drop]
      have e3 : vs.length + (i - vs.length) = i := by omega
      rw [e3, List.getElem?_eq_getElem hi2]
      rfl
    rw [List.getElem?_eq_getElem hi] at this
    simp only [Option.some.injEq] at this
    rw [this]
theorem Null.of {M : List Md} {P : List Pf} {k : Int} (h : ∀ m ∈ M, NullM m) : Null ⟨M, P, k⟩ := h
theorem modAt_all {Pr : Md → Prop} {g : Md → Md} (hg : ∀ m, Pr m → Pr (g m)) : ∀ {M : List Md} {d : Nat}, (∀ m ∈ M, Pr m) → ∀ m ∈ modAt d g M, Pr m
  | [], _, h => by intro m hm; cases hm
  | x :: M, d, h => by
    intro m hm
    unfold modAt at hm
    split at hm
    · rcases List.mem_cons.1 hm with rfl | q
      · exact hg _ (h x List.mem_cons_self)
      · exact h m (List.mem_cons_of_mem _ q)
    · rcases List.mem_cons.1 hm with rfl | q
      · exact h _ List.mem_cons_self
      · exact modAt_all hg (fun m hm => h m (List.mem_cons_of_mem _ hm)) m q
theorem zargs_null (l : Lay) (i : Nat) (hi : i < (zargs l).length) : (zargs l)[i].2 = 0 := by
  simp [zargs]
theorem val_null (o : Op25) : o.val.1 = 4 → o.val.2 = 0 := val_ptr (v1 := o.val.1) (v2 := o.val.2) rfl
theorem Null.begun {N : Nt} {l : Lay} {args : List (Int × Int)} {link : Int} {M : List Md} (hl : args.length ≤ l.slots.length) (ha : ∀ (i : Nat) (hi : i < args.length), l.args ≤ i → args[i].1 = 4 → args[i].2 = 0) (hM : ∀ m ∈ M, NullM m) : Null (N.begun l args link M) := by
  intro m hm
  rcases List.mem_cons.1 hm with rfl | q
  · exact null_fill hl ha
  · exact hM m q
theorem Null.step {N : Nt} (h : Null N) (o : Op25) : Null (stepN N o) := by
  have hz : ∀ l : Lay, (zargs l).length ≤ l.slots.length := fun l => by rw [zargs_len]; exact Nat.min_le_right _ _
  unfold stepN
  cases hM : N.M with
  | nil =>
    simp only
    split
    · exact Null.begun (hz _) (fun i hi _ _ => zargs_null _ i hi) (by simp)
    · exact h
  | cons f M =>
    have hf : NullM f := h f (by rw [hM]; exact List.mem_cons_self)
    have hR : ∀ m ∈ M, NullM m := fun m hm => h m (by rw [hM]; exact List.mem_cons_of_mem _ hm)
    have hc : ∀ g, NullM g → ∀ m ∈ g :: M, NullM m := fun g hg m hm => by
      rcases List.mem_cons.1 hm with rfl | q
      · exact hg
      · exact hR m q
    simp only
    split
    · split
      · rename_i hk hcall
        have hcall' := hcall
        simp only [callOk, Bool.and_eq_true, decide_eq_true_eq] at hcall'
        have hlay := (layOk_iff _).1 (can_iff' hcall'.1.1).1
        refine Null.begun (by rw [List.length_drop]; omega) (fun i hi q => ?_) (hc _ hf)
        rw [List.length_drop] at hi
        omega
      · exact h
    · split
      · split
        · exact Null.begun (hz _) (fun i hi _ _ => zargs_null _ i hi) (hc _ hf)
        · exact h
      · split
        · cases M with
          | nil => exact h
          | cons g M' =>
            simp only
            split
            · intro m hm
              rcases List.mem_cons.1 hm with rfl | q
              · exact hR g List.mem_cons_self
              · exact hR m (List.mem_cons_of_mem _ q)
            · exact h
        · split
          · exact fun m hm => hR m hm
          · split
            · split
              · exact fun m hm => hc _ (hf.ops _) m hm
              · exact h
            · split
              · exact fun m hm => hc _ (hf.ops _) m hm
              · split
                · split
                  · exact fun m hm => hc _ (hf.set _ (val_null o)) m hm
                  · exact h
                · split
                  · split
                    · intro m hm
                      refine hc _ ?_ m hm
                      split
                      · exact hf
                      · exact hf
                    · exact h
                  · split
                    · unfold putN
                      rw [hM]
                      simp only
                      split
                      · exact h
                      · split
                        · exact h
                        · split
                          · exact h
                          · split
                            · intro m hm
                              refine modAt_all (Pr := NullM) (fun m hm => hm.set _ (fun q => by cases q)) (fun m hm => ?_) m hm
                              exact hc f hf m hm
                            · exact h
                    · exact h
def placeN (N : Nt) : (Int × Int) × Int := match N.M with
  | [] => ((0, 0), 250)
  | f :: _ => ((Int.tdiv f.link 128, Int.tmod f.link 128), 0)
def heightN (N : Nt) : Int := match N.M with
  | [] => 0
  | f :: _ => f.ops.length
def resN (N : Nt) : List (Int × Int) × Int := match N.M with
  | [] => ([], 250)
  | f :: _ => (f.res, 0)
section
variable {sz ca : Int} {n : Nat} {T : Tw} {Z : List (Md × Af)}
theorem Sim.placeN (h : Sim sz ca n T Z) : placeC T.C = placeN T.N := by
  cases Z with
  | nil =>
    have h1 := h.M
    have h2 := h.rep.fs
    unfold placeC Go.Proofs.YtpfnnmcokbolhaaGreat.placeN Tw.N
    rw [h2, h1]
    rfl
  | cons z Z0 =>
    have h1 := h.M
    have h2 := Rep.place h.rep
    rw [h2]
    unfold Go.Proofs.YtpfnnmcokbolhaaGreat.placeN Tw.N
    rw [h1]
    simp only [List.map_cons]
    rw [(h.ma z List.mem_cons_self).link]
theorem Sim.heightN (h : Sim sz ca n T Z) : heightC T.C = heightN T.N := by
  rw [h.height]
  rfl
theorem Sim.resN (h : Sim sz ca n T Z) (hn : Null T.N) : (resC T.C).1.getD [] = (resN T.N).1 ∧ (resC T.C).2 = (resN T.N).2 := by
  cases Z with
  | nil =>
    have h1 := h.M
    have h2 := h.rep.fs
    unfold resC Go.Proofs.YtpfnnmcokbolhaaGreat.resN Tw.N
    rw [h2, h1]
    exact ⟨rfl, rfl⟩
  | cons z Z0 =>
    have h1 := h.M
    obtain ⟨r1, r2⟩ := Rep.res h.rep
    have hma := h.ma z List.mem_cons_self
    have hnz : NullM z.1 := hn z.1 (by show z.1 ∈ T.M; rw [h1]; simp)
    have e1 : Go.Proofs.YtpfnnmcokbolhaaGreat.resN T.N = (z.1.res, 0) := by
      unfold Go.Proofs.YtpfnnmcokbolhaaGreat.resN Tw.N
      rw [h1]
      rfl
    rw [e1, r1, r2]
    refine ⟨?_, rfl⟩
    have e2 := hma.res
    unfold Af.res at e2
    rw [e2]
    have hlay := (h.rep.core.each z.2 (by simp)).lay
    rw [← hma.lay] at hlay
    obtain ⟨-, -, a0, -⟩ := (layOk_iff _).1 hlay
    have : ∀ v ∈ z.1.res, here T.Q v = v := fun v hv => by
      obtain ⟨i, hi, rfl⟩ := List.getElem_of_mem (List.mem_of_mem_take hv)
      rw [List.length_drop] at hi
      have hz := hnz (z.1.lay.args.toNat + i) (by omega) (by omega)
      rw [List.getElem_drop]
      unfold here
      rw [if_neg]
      rintro ⟨q1, q2⟩
      have := hz q1
      omega
    rw [List.map_congr_left this, List.map_id']
theorem Sim.linkOk (h : Sim sz ca n T Z) : ∀ f ∈ T.C.F, 0 ≤ (T.C.S.get f.link).1.2 ∧ (T.C.S.get f.link).1.2 ≤ 1048576 := by
  intro f hf
  rw [h.rep.fs] at hf
  obtain ⟨a, ha, rfl⟩ := List.mem_map.1 hf
  have hok := h.rep.core.each a ha
  have e := h.rep.core.wd a ha a.slots.length (1, a.link) (by unfold Af.words; rw [List.getElem?_append_right (Nat.le_refl _)]; simp)
  have e2 : a.f.link = a.f.base + (a.slots.length : Int) := by unfold Fr.link; rw [hok.len]
  rw [e2, get_full e]
  exact hok.lk
end
end Go.Proofs.YtpfnnmcokbolhaaGreat
/- A twin's place, height, results; two twins. -/
namespace Go.Proofs.YtpfnnmcokbolhaaGreat
open Go.RowKit
set_option pp.deepTerms true
section
variable {w W : World} {F G : List Asr} {t b p k n : Nat} {sz ca : Int} {N : Nt}
theorem TwR.perm (h : TwR w W t b p k sz ca n N F) (q : F.Perm G) : TwR w W t b p k sz ca n N G := by
  obtain ⟨T, Z, ⟨lv, pv, ml, hM, hS⟩, hs, hN⟩ := h
  refine ⟨T, Z, ⟨lv, pv, ml, hM, ?_⟩, hs, hN⟩
  rw [twch_eq] at hS ⊢
  exact hS.perm (q.append_left _)
theorem TwR.sub (h : TwR w W t b p k sz ca n N F) (q : G.Sublist F) : TwR w W t b p k sz ca n N G := by
  obtain ⟨T, Z, ⟨lv, pv, ml, hM, hS⟩, hs, hN⟩ := h
  refine ⟨T, Z, ⟨lv, pv, ml, hM, ?_⟩, hs, hN⟩
  rw [twch_eq] at hS ⊢
  exact Sep.sub hS (q.append_left _)
theorem TwR.place (h : TwR w W t b p k sz ca n N F) (hn : n ≤ 290) :
    Calls Tryz.prog 9 #[.pointer (some ⟨b, 0, none⟩)] W fun e w' => TwR w w' t b p k sz ca n N F ∧ e = .returned (.tuple #[.int .i64 (placeN N).1.1, .int .i64 (placeN N).1.2, .int .i64 (placeN N).2]) := by
  obtain ⟨T, Z, ⟨lv, pv, ml, hM, hS⟩, hs, rfl⟩ := h
  refine (cplace_any (tw_ch hS) (hs.ok (by omega)) hs.linkOk).mono ?_
  rintro e w' ⟨h1, -, rfl⟩
  rw [hs.placeN]
  exact ⟨⟨T, Z, ⟨lv, pv, ml, hM, ch_tw h1⟩, hs, rfl⟩, rfl⟩
theorem TwR.height (h : TwR w W t b p k sz ca n N F) (hn : n ≤ 290) :
    Calls Tryz.prog 11 #[.pointer (some ⟨b, 0, none⟩)] W fun e w' => TwR w w' t b p k sz ca n N F ∧ e = .returned (.int .i64 (heightN N)) := by
  obtain ⟨T, Z, ⟨lv, pv, ml, hM, hS⟩, hs, rfl⟩ := h
  refine (cheight_any (tw_ch hS) (hs.ok (by omega))).mono ?_
  rintro e w' ⟨h1, -, rfl⟩
  rw [hs.heightN]
  exact ⟨⟨T, Z, ⟨lv, pv, ml, hM, ch_tw h1⟩, hs, rfl⟩, rfl⟩
theorem TwR.results (h : TwR w W t b p k sz ca n N F) (hn : n ≤ 290) (hN : Null N) :
    Calls Tryz.prog 12 #[.pointer (some ⟨b, 0, none⟩)] W fun e w' => ∃ v, TwR w w' t b p k sz ca n N (vrow v (resN N).1 :: F) ∧ e = .returned (.tuple #[v, .int .i64 (resN N).2]) := by
  obtain ⟨T, Z, ⟨lv, pv, ml, hM, hS⟩, hs, rfl⟩ := h
  refine (cresults_any (tw_ch hS) (hs.ok (by omega))).mono ?_
  rintro e w' ⟨v, h1, -, rfl⟩
  obtain ⟨e1, e2⟩ := hs.resN hN
  rw [e1] at h1
  rw [e2]
  refine ⟨v, ⟨T, Z, ⟨lv, pv, ml, hM, ?_⟩, hs, rfl⟩, rfl⟩
  rw [twch_eq]
  refine h1.perm ?_
  have e : ([chA b p k T.C.F, spA p T.C.S, lkA k p sz ca T.C.L] ++ (twL t b lv pv ml T.Q T.many ++ F)).Perm ((twL t b lv pv ml T.Q T.many ++ [chA b p k T.C.F, spA p T.C.S, lkA k p sz ca T.C.L]) ++ F) := by
    rw [← List.append_assoc]
    exact List.perm_append_comm.append_right F
  exact (List.Perm.cons _ e).trans List.perm_middle.symm
theorem TwR.resLen (h : TwR w W t b p k sz ca n N F) (hn : n ≤ 290) : (resN N).1.length ≤ 4194304 := by
  obtain ⟨T, Z, hS, hs, rfl⟩ := h
  unfold resN Tw.N
  cases hM : T.M with
  | nil => simp
  | cons f M =>
    simp only
    obtain ⟨-, hsl, hs64, -, -⟩ := hs.md (m := f) (by rw [hM]; simp)
    have : f.res.length ≤ f.slots.length := by
      unfold Md.res
      rw [List.length_take, List.length_drop]
      omega
    omega
theorem ten_cells2 {q : Nat} {v0 v1 v2 v3 v4 v5 v6 v7 v8 v9 : Value} {T : TypeId} {L : List Asr} (h : Sep w L W) (hm : bx q (.cells #[v0, v1, v2, v3, v4, v5, v6, v7, v8, v9] T) ∈ L) : W.cell? ⟨q, 6, none⟩ = some v6 ∧ W.cell? ⟨q, 9, none⟩ = some v9 := by
  have B := Sep.at h hm
  exact ⟨by rw [cell_of_row _ _ 6 _ _ _ B]; rfl, by rw [cell_of_row _ _ 9 _ _ _ B]; rfl⟩
theorem vrow_shape2 {v : Value} {vs : List (Int × Int)} {L : List Asr} (h : Sep w L W) (hm : vrow v vs ∈ L) : (∃ ao cc, v = .slice ao vs.length cc) ∧ Rd W v vs := ⟨own_shape (Sep.owns (base := 0) (T := 34) (n := 2) (v := v) (m := vs.length) (xs := wcells vs) h hm), Rd.of_row (Sep.owns h hm) rfl⟩
end
/-- a twin's places and sizes -/
structure Tn where
  t : Nat
  b : Nat
  p : Nat
  k : Nat
  sz : Int
  ca : Int
def Tn.R (x : Tn) (w W : World) (n : Nat) (N : Nt) (F : List Asr) : Prop := TwR w W x.t x.b x.p x.k x.sz x.ca n N F
/-- two twins, the first ahead -/
def Two (w W : World) (x y : Tn) (n m : Nat) (N N' : Nt) (F : List Asr) : Prop := ∃ T Z lv pv ml, ml.map (·.m) = T.M ∧ x.R w W n N (twL y.t y.b lv pv ml T.Q T.many ++ chP y.b y.p y.k y.sz y.ca T.C F) ∧ Sim y.sz y.ca m T Z ∧ T.N = N'
section
variable {w W : World} {F G : List Asr} {x y : Tn} {n m : Nat} {N N' : Nt}
theorem Two.swap (h : Two w W x y n m N N' F) : Two w W y x m n N' N F := by
  obtain ⟨T, Z, lv, pv, ml, hM, ⟨T2, Z2, ⟨lv2, pv2, ml2, hM2, hS⟩, hs2, hN2⟩, hs, hN⟩ := h
  refine ⟨T2, Z2, lv2, pv2, ml2, hM2, ⟨T, Z, ⟨lv, pv, ml, hM, ?_⟩, hs, hN⟩, hs2, hN2⟩
  rw [twch_eq, twch_eq (F := F)] at hS
  rw [twch_eq, twch_eq (F := F)]
  exact Sep.rot _ _ hS
/-- what the first does is done beside the second -/
theorem Two.fst {f : Nat} {args : Array Value} {P : Ending → Prop} {n' : Nat} {N2 : Nt} (h : Two w W x y n m N N' F) (hf : ∀ {G}, x.R w W n N G → Calls Tryz.prog f args W fun e w' => x.R w w' n' N2 G ∧ P e) :
    Calls Tryz.prog f args W fun e w' => Two w w' x y n' m N2 N' F ∧ P e := by
  obtain ⟨T, Z, lv, pv, ml, hM, hR, hs, hN⟩ := h
  refine (hf hR).mono ?_
  rintro e w' ⟨h1, h2⟩
  exact ⟨⟨T, Z, lv, pv, ml, hM, h1, hs, hN⟩, h2⟩
theorem Two.at (h : Two w W x y n m N N' F) : ∃ G, x.R w W n N G := by
  obtain ⟨T, Z, lv, pv, ml, hM, hR, hs, hN⟩ := h
  exact ⟨_, hR⟩
theorem Two.cells (h : Two w W x y n m N N' F) : W.cell? ⟨x.t, 0, none⟩ = some (.pointer (some ⟨x.b, 0, none⟩)) ∧ ∃ ao c, W.cell? ⟨x.t, 1, none⟩ = some (.slice ao N.M.length c) := by
  obtain ⟨G, hR⟩ := h.at
  exact ⟨(TwR.depth hR).1, (TwR.len hR).1⟩
theorem Two.depth (h : Two w W x y n m N N' F) : Calls Tryz.prog 10 #[.pointer (some ⟨x.b, 0, none⟩)] W fun e w' => w' = W ∧ e = .returned (.int .i64 N.M.length) := by
  obtain ⟨G, hR⟩ := h.at
  exact (TwR.depth hR).2
theorem Two.keep {W' : World} (h : Two w W x y n m N N' F) (hb : Below W.heap.size W W') : Two w W' x y n m N N' F := by
  obtain ⟨T, Z, lv, pv, ml, hM, hR, hs, hN⟩ := h
  exact ⟨T, Z, lv, pv, ml, hM, TwR.keep hR hb, hs, hN⟩
theorem Two.more (h : Two w W x y n m N N' F) (o : Obj) : Two w (W.alloc o) x y n m N N' (bx W.heap.size o :: F) := by
  obtain ⟨T, Z, lv, pv, ml, hM, hR, hs, hN⟩ := h
  refine ⟨T, Z, lv, pv, ml, hM, (TwR.more hR o).perm ?_, hs, hN⟩
  rw [twch_eq F, twch_eq (_ :: F)]
  exact List.perm_middle.symm
theorem Two.sub (h : Two w W x y n m N N' F) (q : G.Sublist F) : Two w W x y n m N N' G := by
  obtain ⟨T, Z, lv, pv, ml, hM, hR, hs, hN⟩ := h
  refine ⟨T, Z, lv, pv, ml, hM, TwR.sub hR ?_, hs, hN⟩
  rw [twch_eq, twch_eq (F := F)]
  exact q.append_left _
theorem Two.sep (h : Two w W x y n m N N' F) : Sep w F W := by
  obtain ⟨T, Z, lv, pv, ml, hM, hR, hs, hN⟩ := h
  have := TwR.sep hR
  rw [twch_eq] at this
  exact Sep.sub this (List.sublist_append_right _ _)
theorem Two.depthB (h : Two w W x y n m N N' F) : Calls Tryz.prog 10 #[.pointer (some ⟨x.b, 0, none⟩)] W fun e w' => Two w w' x y n m N N' F ∧ Below W.heap.size W w' ∧ e = .returned (.int .i64 N.M.length) := by
  refine h.depth.mono ?_
  rintro e w' ⟨rfl, rfl⟩
  exact ⟨h, Below.refl _ _, rfl⟩
theorem Two.heightB (h : Two w W x y n m N N' F) (hn : n ≤ 290) : Calls Tryz.prog 11 #[.pointer (some ⟨x.b, 0, none⟩)] W fun e w' => Two w w' x y n m N N' F ∧ Below W.heap.size W w' ∧ e = .returned (.int .i64 (heightN N)) := by
  obtain ⟨T, Z, lv, pv, ml, hM, ⟨T2, Z2, ⟨lv2, pv2, ml2, hM2, hS⟩, hs2, hN2⟩, hs, hN⟩ := h
  refine (cheight_any (tw_ch hS) (hs2.ok (by omega))).mono ?_
  rintro e w' ⟨h1, hb, rfl⟩
  rw [hs2.heightN, hN2]
  exact ⟨⟨T, Z, lv, pv, ml, hM, ⟨T2, Z2, ⟨lv2, pv2, ml2, hM2, ch_tw h1⟩, hs2, hN2⟩, hs, hN⟩, hb, rfl⟩
theorem keep4 {W' : World} {a b c d : Addr} {u v x y : Value} (hb : Below W.heap.size W W') (h : (W.cell? a = some u ∧ W.cell? b = some v) ∧ (W.cell? c = some x ∧ W.cell? d = some y)) : (W'.cell? a = some u ∧ W'.cell? b = some v) ∧ (W'.cell? c = some x ∧ W'.cell? d = some y) :=
  ⟨⟨keep_be hb h.1.1, keep_be hb h.1.2⟩, ⟨keep_be hb h.2.1, keep_be hb h.2.2⟩⟩
theorem Two.results (h : Two w W x y n m N N' F) (hn : n ≤ 290) (hN : Null N) :
    Calls Tryz.prog 12 #[.pointer (some ⟨x.b, 0, none⟩)] W fun e w' => ∃ v, Two w w' x y n m N N' (vrow v (resN N).1 :: F) ∧ e = .returned (.tuple #[v, .int .i64 (resN N).2]) := by
  obtain ⟨T, Z, lv, pv, ml, hM, hR, hs, hN2⟩ := h
  refine (TwR.results hR hn hN).mono ?_
  rintro e w' ⟨v, h1, rfl⟩
  refine ⟨v, ⟨T, Z, lv, pv, ml, hM, TwR.perm h1 ?_, hs, hN2⟩, rfl⟩
  rw [twch_eq F, twch_eq (_ :: F)]
  exact List.perm_middle.symm
theorem Two.new {t b p k t' b' p' k' : Nat} {s c s' c' : Int} (h : Sep w (twL t b (.slice none 0 0) (.slice none 0 0) [] [] 0 ++ chP b p k s c (newC s).2 (twL t' b' (.slice none 0 0) (.slice none 0 0) [] [] 0 ++ chP b' p' k' s' c' (newC s').2 F)) W) (hs : segOk s c = true) (hsz : s ≤ 2000) (hs' : segOk s' c' = true) (hsz' : s' ≤ 2000) : Two w W ⟨t, b, p, k, s, c⟩ ⟨t', b', p', k', s', c'⟩ 0 0 ⟨[], [], 0⟩ ⟨[], [], 0⟩ F :=
  ⟨⟨(newC s').2, [], [], 0⟩, [], _, _, [], rfl, TwR.new h hs hsz, Sim.new hs' hsz', rfl⟩
end
end Go.Proofs.YtpfnnmcokbolhaaGreat
/- The chapter's examples hold: the walk. -/
namespace Go.Proofs.YtpfnnmcokbolhaaGreat
open Go.RowKit
set_option pp.deepTerms true
attribute [local go_sem ↓] Go.wp_at_zero Go.wp_at_succ
set_option maxRecDepth 100000 in
set_option maxHeartbeats 4000000 in
theorem alive25_any (W : World) : Calls Tryz.prog 5 #[] W fun e w' => Below W.heap.size W w' ∧ e = .returned (.bool true) := by
  have h0 := (Sep.nil (Below.refl W.heap.size W)).space
  have HN := Hid.mk (cnew_ok h0 (show segOk 256 1 = true by decide))
  clear h0
  go_enter Tryz.func5, Tryz.ntmps5
  go_wp2_with fail
  refine HN.out.mono ?_
  rintro e w1 ⟨b, k, h1, rfl⟩
  have H1 := Hid.mk (some_sep h1)
  clear HN h1
  go_wp2_with fail
  refine H1.out.mono ?_
  rintro e w2 ⟨v, h2, rfl⟩
  have H2 := Hid.mk h2
  clear H1 h2
  go_wp2_with fail
  refine (num_any 5 _).mono ?_
  rintro e w3 ⟨hb3, rfl⟩
  have h3 := (H2.out.keep hb3).alloc (.cells #[.int .i64 1, .int .i64 5] 34)
  have HF := Hid.mk (al_first h3)
  clear H2 hb3 h3
  go_wp2_with fail
  refine HF.out.mono ?_
  rintro e w4 ⟨h4, rfl⟩
  have HL := cload_any h4 (chOk_of al_ok1) (by decide +kernel) 0
  rw [al_load0] at HL
  have HL := Hid.mk HL
  clear HF h4
  go_wp2_with fail
  refine HL.out.mono ?_
  rintro e w5 ⟨h5, -, rfl⟩
  have h5 := h5.alloc (.cells #[.int .i64 1, .int .i64 5] 34)
  obtain ⟨B4, hB4⟩ : ∃ B4, w5.heap.size = B4 := ⟨_, rfl⟩
  rw [hB4] at h5
  have HL := cload_any (chP_in h5) (chOk_of al_ok1) (by decide +kernel) 1
  rw [al_load1] at HL
  have HL := Hid.mk HL
  clear h5
  go_wp2_with fail
  refine HL.out.mono ?_
  rintro e w6 ⟨h6, -, rfl⟩
  have h6 := h6.alloc (.cells #[.int .i64 1, .int .i64 0] 34)
  obtain ⟨B6, hB6⟩ : ∃ B6, w6.heap.size = B6 := ⟨_, rfl⟩
  rw [hB6] at h6
  have h6 := chP_in h6
  have HP := cplace_any h6 (chOk_of al_ok1) (fun f hf => by
    have := al_linkB
    rw [List.all_eq_true] at this
    simpa [rangeB] using this f hf)
  rw [al_place] at HP
  have HP := Hid.mk HP
  clear h6 HL
  go_wp2_with fail
  refine HP.out.mono ?_
  rintro e w7 ⟨h7, -, rfl⟩
  have hcells : ∀ W', Sep W (chP b W.heap.size k 256 1 aR [bx B6 (.cells #[.int .i64 1, .int .i64 0] 34), bx B4 (.cells #[.int .i64 1, .int .i64 5] 34)]) W' → W'.cell? ⟨B4, 0, none⟩ = some (.int .i64 1) ∧ W'.cell? ⟨B4, 1, none⟩ = some (.int .i64 5) ∧ W'.cell? ⟨B6, 0, none⟩ = some (.int .i64 1) ∧ W'.cell? ⟨B6, 1, none⟩ = some (.int .i64 0) := fun W' q => by
    have B1 := q.at (b := B4) (o := (.cells #[.int .i64 1, .int .i64 5] 34)) (by simp [chP])
    have B2 := q.at (b := B6) (o := (.cells #[.int .i64 1, .int .i64 0] 34)) (by simp [chP])
    exact ⟨by rw [cell_of_row _ _ 0 _ _ _ B1]; rfl, by rw [cell_of_row _ _ 1 _ _ _ B1]; rfl, by rw [cell_of_row _ _ 0 _ _ _ B2]; rfl, by rw [cell_of_row _ _ 1 _ _ _ B2]; rfl⟩
  have d0 := hcells _ h7
  have H7 := Hid.mk h7
  clear HP h7 hcells
  go_wp2_with fail
  go_region_held3 (fun X => X.cell? ⟨B4, 0, none⟩ = some (.int .i64 1) ∧ X.cell? ⟨B4, 1, none⟩ = some (.int .i64 5) ∧ X.cell? ⟨B6, 0, none⟩ = some (.int .i64 1) ∧ X.cell? ⟨B6, 1, none⟩ = some (.int .i64 0)) (first | exact s2 | exact s1 | exact d0) (first | (go_at_call 21; refine (num_any 5 w7.drew).mono ?_; rintro e w8 ⟨hb8, rfl⟩; have s1 := And.intro (keep_dr hb8 d0.1) (And.intro (keep_dr hb8 d0.2.1) (And.intro (keep_dr hb8 d0.2.2.1) (keep_dr hb8 d0.2.2.2)))) | (go_at_call 21; refine (num_any 0 _).mono ?_; rintro e w9 ⟨hb9, rfl⟩; have s2 := And.intro (keep_be hb9 s1.1) (And.intro (keep_be hb9 s1.2.1) (And.intro (keep_be hb9 s1.2.2.1) (keep_be hb9 s1.2.2.2)))))
  have H : Hid (Sep W (chP b W.heap.size k 256 1 aR []) w9) := Sep.lose 3 (Sep.lose 3 ((H7.out.keep (undrew hb8)).keep hb9))
  clear H7 hb8 hb9 s1 s2 d0
  go_wp2_with fail
  refine wp_loop_rounds 4 ?_
  rw [rounds_succ]
  go_wp2_with fail
  refine (num_any 7 _).mono ?_
  rintro e wa ⟨hba, rfl⟩
  have HPu := Hid.mk (al_push (H.out.keep hba) (chOk_of al_ok1) al_ep1)
  clear H hba
  go_wp2_with fail
  refine HPu.out.mono ?_
  rintro e wb ⟨hb', rfl⟩
  have HS := Hid.mk (some_sep hb')
  clear HPu hb'
  go_wp2_with fail
  refine HS.out.mono ?_
  rintro e wc ⟨v, hc, rfl⟩
  have HC := Hid.mk (al_call hc (chOk_of al_p1.2.2.1) al_ec1)
  clear HS hc
  go_wp2_with fail
  refine HC.out.mono ?_
  rintro e wd ⟨hd, rfl⟩
  have H := Hid.mk hd
  clear HC hd
  go_wp2_with fail
  rw [rounds_succ]
  go_wp2_with fail
  refine (num_any 7 _).mono ?_
  rintro e wa ⟨hba, rfl⟩
  have HPu := Hid.mk (al_push (H.out.keep hba) (chOk_of al_p1.2.2.2) al_ep2)
  clear H hba
  go_wp2_with fail
  refine HPu.out.mono ?_
  rintro e wb ⟨hb', rfl⟩
  have HS := Hid.mk (some_sep hb')
  clear HPu hb'
  go_wp2_with fail
  refine HS.out.mono ?_
  rintro e wc ⟨v, hc, rfl⟩
  have HC := Hid.mk (al_call hc (chOk_of al_p2.2.2.1) al_ec2)
  clear HS hc
  go_wp2_with fail
  refine HC.out.mono ?_
  rintro e wd ⟨hd, rfl⟩
  have H := Hid.mk hd
  clear HC hd
  go_wp2_with fail
  rw [rounds_succ]
  go_wp2_with fail
  refine (num_any 7 _).mono ?_
  rintro e wa ⟨hba, rfl⟩
  have HPu := Hid.mk (al_push (H.out.keep hba) (chOk_of al_p2.2.2.2) al_ep3)
  clear H hba
  go_wp2_with fail
  refine HPu.out.mono ?_
  rintro e wb ⟨hb', rfl⟩
  have HS := Hid.mk (some_sep hb')
  clear HPu hb'
  go_wp2_with fail
  refine HS.out.mono ?_
  rintro e wc ⟨v, hc, rfl⟩
  have HC := Hid.mk (al_call hc (chOk_of al_p3.2.2.1) al_ec3)
  clear HS hc
  go_wp2_with fail
  refine HC.out.mono ?_
  rintro e wd ⟨hd, rfl⟩
  have H := Hid.mk hd
  clear HC hd
  go_wp2_with fail
  rw [rounds_succ]
  have HG := csegs_any H.out (chOk_of al_p3.2.2.2)
  rw [al_lens.1, al_lens.2.1] at HG
  have HG := Hid.mk HG
  clear H
  go_wp2_with fail
  refine HG.out.mono ?_
  rintro e w10 ⟨ao, c, ak, ck, h10, rfl⟩
  have H10 := Hid.mk (h10.tl.tl)
  clear HG h10
  go_wp2_with fail
  refine (num_any 8 _).mono ?_
  rintro e w11 ⟨hb11, rfl⟩
  have HS := cstore_any (H10.out.keep hb11) (chOk_of al_p3.2.2.2) al_lens.2.2 1 (1, 8)
  rw [al_es] at HS
  have HS := Hid.mk HS
  clear H10 hb11
  go_wp2_with fail
  refine HS.out.mono ?_
  rintro e w12 ⟨h12, rfl⟩
  have HT := cret_any h12 (chOk_of al_store.2.1)
  rw [al_et] at HT
  have HT := Hid.mk HT
  clear HS h12
  go_wp2_with fail
  refine HT.out.mono ?_
  rintro e w13 ⟨h13, rfl⟩
  have HO := cpop_any h13 (chOk_of al_ret.2.1)
  rw [al_eo] at HO
  have HO := Hid.mk HO
  clear HT h13
  go_wp2_with fail
  refine HO.out.mono ?_
  rintro e w14 ⟨h14, rfl⟩
  have h14 := chP_in (h14.alloc (.cells #[.int .i64 1, .int .i64 8] 34))
  obtain ⟨B7, hB7⟩ : ∃ B7, w14.heap.size = B7 := ⟨_, rfl⟩
  rw [hB7] at h14
  have HG := csegs_any h14 (chOk_of al_store.2.2)
  rw [al_ret.2.2.2.1, al_ret.2.2.2.2.1] at HG
  have HG := Hid.mk HG
  clear HO h14
  go_wp2_with fail
  refine HG.out.mono ?_
  rintro e w15 ⟨ao2, c2, ak2, ck2, h15, rfl⟩
  have h15 := h15.tl.tl
  have HD := fun W' (q : Below w15.heap.size w15 W') => cdepth_any (h15.keep q)
  rw [al_ret.2.2.2.2.2] at HD
  have HD := Hid.mk HD
  have B1 := h15.at (b := B7) (o := (.cells #[.int .i64 1, .int .i64 8] 34)) (by simp [chP])
  have d0 : w15.cell? ⟨B7, 0, none⟩ = some (.int .i64 1) ∧ w15.cell? ⟨B7, 1, none⟩ = some (.int .i64 8) := ⟨by rw [cell_of_row _ _ 0 _ _ _ B1]; rfl, by rw [cell_of_row _ _ 1 _ _ _ B1]; rfl⟩
  have HB := Hid.mk h15.size
  clear HG h15 B1
  go_wp2_with fail
  go_region_held3 (fun X => X.cell? ⟨B7, 0, none⟩ = some (.int .i64 1) ∧ X.cell? ⟨B7, 1, none⟩ = some (.int .i64 8)) (first | exact s1 | exact d0) (first | (go_at_call 21; refine (num_any 8 w15.drew).mono ?_; rintro e w16 ⟨hb16, rfl⟩; have s1 := And.intro (keep_dr hb16 d0.1) (keep_dr hb16 d0.2)) | (go_at_call 10; refine (HD.out _ (undrew hb16)).mono ?_; rintro e w17 ⟨rfl, rfl⟩))
  have HE := Hid.mk (HB.out.trans ((undrew hb16).mono HB.out.size))
  clear HB hb16 HD s1 d0
  go_wp2_with fail
  go_ret
  exact ⟨HE.out, rfl⟩
end Go.Proofs.YtpfnnmcokbolhaaGreat
