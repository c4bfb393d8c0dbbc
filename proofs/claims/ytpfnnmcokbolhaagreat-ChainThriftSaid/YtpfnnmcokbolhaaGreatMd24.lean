/- Parts Va Vb Vd Ve Vg Wa, put together. -/
import Derived.Test.YtpfnnmcokbolhaaGreatMd2
import Derived.Test.YtpfnnmcokbolhaaGreatMd3
import Derived.Test.YtpfnnmcokbolhaaGreatMd12
import Derived.Test.YtpfnnmcokbolhaaGreatMd23
import Derived.LoopTactic
import Derived.Deep.QuietTactic
import Derived.BigQuiet
/- Great, and the twin's making. -/
namespace Go.Proofs.YtpfnnmcokbolhaaGreat
open Go.RowKit
set_option pp.deepTerms true
def Small25 (s : Int) (os : List OpV) : Prop := os.length ≤ 80 ∧ ¬ (2000 < s ∧ s ≤ 65536) ∧ ∀ x ∈ os, x.o.l.slots.length ≤ 100
set_option maxRecDepth 100000 in
set_option maxHeartbeats 1000000 in
theorem great25_any {w : World} {v : Value} {os : List OpV} (h : Ops25 w v os) (s c : Int) : Calls Tryz.prog 7 #[.agg #[.int .i64 s, .int .i64 c], v] w fun e w' => Below w.heap.size w w' ∧ (e = .returned (.int .i64 1) ∨ e = .returned (.int .i64 0) ∧ Small25 s os) := by
  obtain ⟨⟨ao, cv, rfl⟩, hml, hok, hc⟩ := h
  have hmx : os.length ≤ 9223372036854775807 := by unfold maxLen at hml; omega
  clear hml
  obtain ⟨n, hn⟩ : ∃ n, os.length = n := ⟨_, rfl⟩
  have HN := Hid.mk hn
  have HC : Hid (∀ i (hi : i < os.length), ∃ b o, ao = some ⟨b, o, none⟩ ∧ b < w.heap.size ∧ OpVAt w b (o + i * 10) os[i] ∧ OpVOk w os[i]) := by
    intro i hi
    obtain ⟨b, o, c', e, hb, ha⟩ := hc (by omega)
    simp only [Value.slice.injEq] at e
    exact ⟨b, o, e.1, hb, ha i hi, hok _ (List.getElem_mem hi)⟩
  clear hc hok
  rw [hn] at hmx ⊢
  clear hn
  have hB : Below w.heap.size w (w.alloc (.cells #[.int .i64 s, .int .i64 c] 23)) := (Below.refl _ _).alloc (Nat.le_refl _) _
  have HB := Hid.mk hB
  clear hB
  by_cases h80 : 80 < n
  · have z0 : decide ((n : Int) > 80) = true := by simp; omega
    go_enter Tryz.func7, Tryz.ntmps7
    go_wp2_with fail
    go_ret
    exact ⟨HB.out, .inl rfl⟩
  · have z0 : decide ((n : Int) > 80) = false := by simp; omega
    by_cases hs1 : 2000 < s ∧ s ≤ 65536
    · have z1 : decide (s > 2000) = true := by simpa using hs1.1
      have z2 : decide (s ≤ 65536) = true := by simpa using hs1.2
      clear hs1
      go_enter Tryz.func7, Tryz.ntmps7
      go_wp2_with fail
      go_ret
      exact ⟨HB.out, .inl rfl⟩
    · have HS1 := Hid.mk hs1
      by_cases hs2 : 2000 < s
      · have z1 : decide (s > 2000) = true := by simpa using hs2
        have z2 : decide (s ≤ 65536) = false := by simp; omega
        clear hs1 hs2
        go_enter Tryz.func7, Tryz.ntmps7
        go_wp2_with fail
        go_loopw [21] (fun i wr => ∃ k : Nat, i = .int .i64 k ∧ k ≤ n ∧ Hid (∀ j (h1 : j < os.length), j < k → os[j].o.l.slots.length ≤ 100) ∧ Hid (Below w.heap.size w wr)) (fun i _ => n - (intOf i).toNat)
        case atStart => exact ⟨0, rfl, by omega, fun _ _ q => absurd q (by omega), HB⟩
        case round =>
          obtain ⟨k, rfl, hk, HBD, HW⟩ := hrel
          by_cases hlt : k < n
          · have h1 : k < os.length := by rw [HN.out]; exact hlt
            obtain ⟨b, o, rfl, hbl, ha, hv⟩ := HC.out k h1
            obtain ⟨-, -, a2, -, -, -, a6, -⟩ := ha
            obtain ⟨sa, sc, hsv⟩ := hv.1.shape
            obtain ⟨-, -, aa, ac, hav⟩ := hv
            have c2 := (HW.out.cell (p := ⟨b, o + k * 10 + 2, none⟩) hbl).trans a2
            have c6 := (HW.out.cell (p := ⟨b, o + k * 10 + 6, none⟩) hbl).trans a6
            rw [hsv] at c2
            rw [hav] at c6
            obtain ⟨sn, hsn⟩ : ∃ sn, os[k].o.l.slots.length = sn := ⟨_, rfl⟩
            obtain ⟨an, han⟩ : ∃ an, os[k].an = an := ⟨_, rfl⟩
            rw [hsn] at c2
            rw [han] at c6
            have HSN := Hid.mk (Exists.intro h1 hsn : ∃ h1 : k < os.length, os[k].o.l.slots.length = sn)
            have hlt' : (k : Int) < (n : Int) := by omega
            clear a2 a6 hsv hav hsn han hbl h1 HC
            by_cases q1 : 100 < sn
            · have z5 : decide ((sn : Int) > 100) = true := by simp; omega
              go_wp2_with fail
              go_ret
              exact ⟨HW.out, .inl rfl⟩
            · have z5 : decide ((sn : Int) > 100) = false := by simp; omega
              by_cases q2 : 100 < an
              · have z6 : decide ((an : Int) > 100) = true := by simp; omega
                go_wp2_with fail
                go_ret
                exact ⟨HW.out, .inl rfl⟩
              · have z6 : decide ((an : Int) > 100) = false := by simp; omega
                have HBD' : Hid (∀ j (h1 : j < os.length), j < k + 1 → os[j].o.l.slots.length ≤ 100) := by
                  intro j h1 hj
                  rcases Nat.lt_or_ge j k with q | q
                  · exact HBD.out j h1 q
                  · obtain rfl : j = k := by omega
                    obtain ⟨h9, e⟩ := HSN.out
                    rw [e]
                    omega
                go_wp2_with fail
                exact ⟨⟨k + 1, by go_num, by omega, HBD', HW⟩, by simp [intOf]; omega⟩
          · obtain rfl : k = n := by omega
            have HS : Hid (Small25 s os) := by
              refine ⟨by rw [HN.out]; omega, HS1.out, fun x hx => ?_⟩
              obtain ⟨j, hj, rfl⟩ := List.mem_iff_getElem.1 hx
              exact HBD.out j hj (by rw [HN.out] at hj; exact hj)
            clear HBD HC
            go_wp2_with fail
            go_ret
            exact ⟨HW.out, .inr ⟨rfl, HS.out⟩⟩
      · have z1 : decide (s > 2000) = false := by simp; omega
        clear hs1 hs2
        go_enter Tryz.func7, Tryz.ntmps7
        go_wp2_with fail
        go_loopw [21] (fun i wr => ∃ k : Nat, i = .int .i64 k ∧ k ≤ n ∧ Hid (∀ j (h1 : j < os.length), j < k → os[j].o.l.slots.length ≤ 100) ∧ Hid (Below w.heap.size w wr)) (fun i _ => n - (intOf i).toNat)
        case atStart => exact ⟨0, rfl, by omega, fun _ _ q => absurd q (by omega), HB⟩
        case round =>
          obtain ⟨k, rfl, hk, HBD, HW⟩ := hrel
          by_cases hlt : k < n
          · have h1 : k < os.length := by rw [HN.out]; exact hlt
            obtain ⟨b, o, rfl, hbl, ha, hv⟩ := HC.out k h1
            obtain ⟨-, -, a2, -, -, -, a6, -⟩ := ha
            obtain ⟨sa, sc, hsv⟩ := hv.1.shape
            obtain ⟨-, -, aa, ac, hav⟩ := hv
            have c2 := (HW.out.cell (p := ⟨b, o + k * 10 + 2, none⟩) hbl).trans a2
            have c6 := (HW.out.cell (p := ⟨b, o + k * 10 + 6, none⟩) hbl).trans a6
            rw [hsv] at c2
            rw [hav] at c6
            obtain ⟨sn, hsn⟩ : ∃ sn, os[k].o.l.slots.length = sn := ⟨_, rfl⟩
            obtain ⟨an, han⟩ : ∃ an, os[k].an = an := ⟨_, rfl⟩
            rw [hsn] at c2
            rw [han] at c6
            have HSN := Hid.mk (Exists.intro h1 hsn : ∃ h1 : k < os.length, os[k].o.l.slots.length = sn)
            have hlt' : (k : Int) < (n : Int) := by omega
            clear a2 a6 hsv hav hsn han hbl h1 HC
            by_cases q1 : 100 < sn
            · have z5 : decide ((sn : Int) > 100) = true := by simp; omega
              go_wp2_with fail
              go_ret
              exact ⟨HW.out, .inl rfl⟩
            · have z5 : decide ((sn : Int) > 100) = false := by simp; omega
              by_cases q2 : 100 < an
              · have z6 : decide ((an : Int) > 100) = true := by simp; omega
                go_wp2_with fail
                go_ret
                exact ⟨HW.out, .inl rfl⟩
              · have z6 : decide ((an : Int) > 100) = false := by simp; omega
                have HBD' : Hid (∀ j (h1 : j < os.length), j < k + 1 → os[j].o.l.slots.length ≤ 100) := by
                  intro j h1 hj
                  rcases Nat.lt_or_ge j k with q | q
                  · exact HBD.out j h1 q
                  · obtain rfl : j = k := by omega
                    obtain ⟨h9, e⟩ := HSN.out
                    rw [e]
                    omega
                go_wp2_with fail
                exact ⟨⟨k + 1, by go_num, by omega, HBD', HW⟩, by simp [intOf]; omega⟩
          · obtain rfl : k = n := by omega
            have HS : Hid (Small25 s os) := by
              refine ⟨by rw [HN.out]; omega, HS1.out, fun x hx => ?_⟩
              obtain ⟨j, hj, rfl⟩ := List.mem_iff_getElem.1 hx
              exact HBD.out j hj (by rw [HN.out] at hj; exact hj)
            clear HBD HC
            go_wp2_with fail
            go_ret
            exact ⟨HW.out, .inr ⟨rfl, HS.out⟩⟩
section
variable {w W : World} {F : List Asr} {t b p k : Nat} {sz ca : Int} {C : Ch}
theorem Sep.row0 (h : Sep w F W) (T : TypeId) (n : Nat) : Sep w (rw_ 0 T n (.slice none 0 0) 0 [] :: F) W :=
  Sep.rerow (Sep.row h (Below.refl W.heap.size W) (World.ownsRow_nil W W.heap.size T n)) (by intro b q; exact q) (World.ownsRow_nil W 0 T n)
theorem tw_new (h : Sep w (chP b p k sz ca C F) W) : Sep w (twL W.heap.size b (.slice none 0 0) (.slice none 0 0) [] [] 0 ++ chP b p k sz ca C F) (W.alloc (.cells #[.pointer (some ⟨b, 0, none⟩), .slice none 0 0, .slice none 0 0, .int .i64 0] 44)) := by
  have h1 := Sep.row0 (Sep.row0 (h.alloc (.cells #[.pointer (some ⟨b, 0, none⟩), .slice none 0 0, .slice none 0 0, .int .i64 0] 44)) 56 7) 115 5
  exact h1.perm (((List.Perm.swap _ _ _).trans (List.Perm.cons _ (List.Perm.swap _ _ _))).trans (List.Perm.swap _ _ _))
set_option maxRecDepth 100000 in
set_option maxHeartbeats 1000000 in
theorem twins_any (h : Sep w F W) (s c : Int) : Calls Tryz.prog 6 #[.agg #[.int .i64 s, .int .i64 c]] W fun e w' => (segOk s c = true ∧ ∃ t b p k, Sep w (twL t b (.slice none 0 0) (.slice none 0 0) [] [] 0 ++ chP b p k s c (newC s).2 F) w' ∧ e = .returned (.pointer (some ⟨t, 0, none⟩))) ∨ (segOk s c = false ∧ Sep w F w' ∧ e = .returned (.pointer none)) := by
  have h0 := (h.alloc (.cells #[.int .i64 s, .int .i64 c] 23)).space
  simp only [World.size_alloc] at h0
  cases hs : segOk s c
  · have HN := Hid.mk (cnew_bad (p := W.heap.size + 1) h0 hs)
    clear h0 h hs
    go_enter Tryz.func6, Tryz.ntmps6
    go_wp2_with fail
    refine HN.out.mono ?_
    rintro e w1 ⟨h1, rfl⟩
    have H1 := Hid.mk (Sep.lose 0 (Sep.lose 0 h1))
    clear HN h1
    go_wp2_with fail
    go_ret
    exact .inr ⟨by trivial, H1.out, rfl⟩
  · have HN := Hid.mk (cnew_ok h0 hs)
    clear h0 h hs
    go_enter Tryz.func6, Tryz.ntmps6
    go_wp2_with fail
    refine HN.out.mono ?_
    rintro e w1 ⟨b, k, h1, rfl⟩
    have H1 := Hid.mk (tw_new (Sep.lose 3 h1))
    clear HN h1
    go_wp2_with fail
    go_ret
    exact .inl ⟨by trivial, _, _, _, _, H1.out, rfl⟩
end
end Go.Proofs.YtpfnnmcokbolhaaGreat
/- The twin, as it is carried: do, alike, lengths. -/
namespace Go.Proofs.YtpfnnmcokbolhaaGreat
open Go.RowKit
set_option pp.deepTerms true
section
variable {w W : World} {F G : List Asr} {t b p k g c : Nat} {sz ca many : Int} {C : Ch} {lv pv : Value} {ml l : List Mv} {x : Mv} {Q : List (Int × Pf)} {A : Asr} {T : Tw} {Z : List (Md × Af)} {n : Nat} {o : Op25} {sv av : Value} {last : Bool} {B0 : Nat}
variable {N : Nt} {n' : Nat}
theorem TwR.do_ (h : TwR w W t b p k sz ca n N F) (hn : n ≤ 280) (hn' : (if N.M ≠ [] ∧ (o.kind = 3 ∨ o.kind = 6) then n else n + 1) ≤ n') (hsl : ∀ W', Sep w F W' → Rdi W' sv o.l.slots) (hcap : SlOk sv) (hlen : o.l.slots.length ≤ 100) :
    Calls Tryz.prog 8 #[.pointer (some ⟨t, 0, none⟩), (.agg #[.int .i64 o.kind, .int .i64 o.n, sv, .int .i64 o.l.args, .int .i64 o.l.res, .int .i64 o.l.height, av, .int .i64 o.v.1, .int .i64 o.v.2, .bool last])] W fun e w' => TwR w w' t b p k sz ca n' (stepN N o) F ∧ e = .returned (.bool true) := by
  obtain ⟨⟨C, M, Q, many⟩, Z, ⟨lv, pv, ml, hM, hS⟩, hs, rfl⟩ := h
  simp only at hM hS
  subst hM
  exact tdo_any hS hs hn (by simpa [Tw.N] using hn') hsl hcap hlen
theorem TwR.more (h : TwR w W t b p k sz ca n N F) (o : Obj) : TwR w (W.alloc o) t b p k sz ca n N (bx W.heap.size o :: F) := by
  obtain ⟨T, Z, ⟨lv, pv, ml, hM, hS⟩, hs, hN⟩ := h
  exact ⟨T, Z, ⟨lv, pv, ml, hM, tw_more hS o⟩, hs, hN⟩
theorem TwR.keep {W' : World} (h : TwR w W t b p k sz ca n N F) (hb : Below W.heap.size W W') : TwR w W' t b p k sz ca n N F := by
  obtain ⟨T, Z, ⟨lv, pv, ml, hM, hS⟩, hs, hN⟩ := h
  exact ⟨T, Z, ⟨lv, pv, ml, hM, hS.keep hb⟩, hs, hN⟩
theorem TwR.sep (h : TwR w W t b p k sz ca n N F) : Sep w F W := by
  obtain ⟨T, Z, ⟨lv, pv, ml, hM, hS⟩, hs, hN⟩ := h
  rw [twch_eq] at hS
  exact Sep.sub hS (List.sublist_append_right _ _)
theorem TwR.len (h : TwR w W t b p k sz ca n N F) : (∃ ao c, W.cell? ⟨t, 1, none⟩ = some (.slice ao N.M.length c)) ∧ N.M.length ≤ n := by
  obtain ⟨T, Z, ⟨lv, pv, ml, hM, hS⟩, hs, rfl⟩ := h
  obtain ⟨⟨ao, c, rfl⟩, -⟩ := tw_shapes hS
  obtain ⟨-, k1, -, -, -⟩ := tw_k hS
  have e : ml.length = T.N.M.length := by show _ = T.M.length; rw [← hM, List.length_map]
  rw [e] at k1
  exact ⟨⟨_, _, k1⟩, hs.len.1⟩
theorem TwR.top {f : Md} {M : List Md} (h : TwR w W t b p k sz ca n N F) (hn : n ≤ 300) (hM : N.M = f :: M) : (∃ g c oa oc, W.cell? ⟨t, 1, none⟩ = some (.slice (some ⟨g, 0, none⟩) (M.length + 1 : Nat) c) ∧ W.cell? ⟨g, M.length * 7 + 5, none⟩ = some (.slice oa f.ops.length oc)) ∧ f.ops.length ≤ 64 := by
  obtain ⟨⟨C, M', Q, many⟩, Z, ⟨lv, pv, ml, hM', hS⟩, hs, rfl⟩ := h
  simp only at hM' hS
  subst hM'
  cases ml with
  | nil => cases hM
  | cons x l =>
    simp only [Tw.N, List.map_cons, List.cons.injEq] at hM
    obtain ⟨rfl, rfl⟩ := hM
    obtain ⟨g, c, rfl, hc, -, -, -, -, -, k5, -, -⟩ := tw_top hS
    obtain ⟨oa, oc, hov, -, -⟩ := tw_ovShape hS
    rw [hov] at k5
    obtain ⟨-, k1, -, -, -⟩ := tw_k hS
    rw [List.length_map]
    exact ⟨⟨g, c, oa, oc, k1, k5⟩, (hs.md (m := x.m) (by simp)).2.2.2.2⟩
theorem TwR.depth (h : TwR w W t b p k sz ca n N F) : W.cell? ⟨t, 0, none⟩ = some (.pointer (some ⟨b, 0, none⟩)) ∧ Calls Tryz.prog 10 #[.pointer (some ⟨b, 0, none⟩)] W fun e w' => w' = W ∧ e = .returned (.int .i64 N.M.length) := by
  obtain ⟨T, Z, ⟨lv, pv, ml, hM, hS⟩, hs, rfl⟩ := h
  refine ⟨(tw_k hS).1, ?_⟩
  exact cdepth_G hS hs.len.2
theorem TwR.new {s c : Int} (h : Sep w (twL t b (.slice none 0 0) (.slice none 0 0) [] [] 0 ++ chP b p k s c (newC s).2 F) W) (hs : segOk s c = true) (hsz : s ≤ 2000) : TwR w W t b p k s c 0 ⟨[], [], 0⟩ F := ⟨⟨(newC s).2, [], [], 0⟩, [], ⟨_, _, [], rfl, h⟩, Sim.new hs hsz, rfl⟩
end
end Go.Proofs.YtpfnnmcokbolhaaGreat
/- Frames as lists: behind the arguments no slot points anywhere; what is told of a chain that hangs on no address. -/
namespace Go.Proofs.YtpfnnmcokbolhaaGreat
open Go.RowKit
/-- behind the arguments there is no pointer but the null one -/
def NullM (m : Md) : Prop := ∀ (i : Nat) (hi : i < m.slots.length), m.lay.args ≤ i → m.slots[i].1 = 4 → m.slots[i].2 = 0
def Null (N : Nt) : Prop := ∀ m ∈ N.M, NullM m
theorem NullM.ops {m : Md} (h : NullM m) (o : List (Int × Int)) : NullM (m.withOps o) := h
theorem NullM.set {m : Md} (h : NullM m) (j : Nat) {v : Int × Int} (hv : v.1 = 4 → v.2 = 0) : NullM (m.set j v) := by
  intro i hi ha
  have hi' : i < m.slots.length := by simpa [Md.set] using hi
  have e : (m.set j v).slots[i]? = some (if j = i then v else m.slots[i]) := by
    show (m.slots.set j v)[i]? = _
    rw [List.getElem?_set]
    split
    · rename_i q
      subst q
      simp [hi']
    · exact List.getElem?_eq_getElem hi'
  rw [List.getElem?_eq_getElem hi] at e
  simp only [Option.some.injEq] at e
  rw [e]
  split
  · exact hv
  · exact h i hi' ha
theorem null_fill {l : Lay} {vs : List (Int × Int)} {w link : Int} (hl : vs.length ≤ l.slots.length) (h : ∀ (i : Nat) (hi : i < vs.length), l.args ≤ i → vs[i].1 = 4 → vs[i].2 = 0) : NullM ⟨l, fillV l.slots vs, [], w, link⟩ := by
  intro i hi ha
  simp only at hi ha ⊢
  have e := fillV_app hl
  by_cases q : i < vs.length
  · have e2 : (fillV l.slots vs)[i] = vs[i] := by
      have : (fillV l.slots vs)[i]? = some vs[i] := by rw [e, List.getElem?_append_left q]; simp [q]
      rw [List.getElem?_eq_getElem hi] at this
      simpa using this
    rw [e2]
    exact h i q ha
  · intro _
    have hi2 : i < l.slots.length := by have hi3 := hi; rw [e] at hi3; simp at hi3; omega
    have : (fillV l.slots vs)[i]? = some (l.slots[i], 0) := by
      rw [e, List.getElem?_append_right (by omega), List.getElem?_map, List.getElem?_drop]
      have e3 : vs.length + (i - vs.length) = i := by omega
      rw [e3, List.getElem?_eq_getElem hi2]
      rfl
    rw [List.getElem?_eq_getElem hi] at this
    simp only [Option.some.injEq] at this
    rw [this]
theorem Null.of {M : List Md} {P : List Pf} {k : Int} (h : ∀ m ∈ M, NullM m) : Null ⟨M, P, k⟩ := h
theorem modAt_all {Pr : Md → Prop} {g : Md → Md} (hg : ∀ m, Pr m → Pr (g m)) : ∀ {M : List Md} {d : Nat}, (∀ m ∈ M, Pr m) → ∀ m ∈ modAt d g M, Pr m
  | [], _, h => by intro m hm; cases hm
  | x :: M, d, h => by
    intro m hm
    unfold modAt at hm
    split at hm
    · rcases List.mem_cons.1 hm with rfl | q
      · exact hg _ (h x List.mem_cons_self)
      · exact h m (List.mem_cons_of_mem _ q)
    · rcases List.mem_cons.1 hm with rfl | q
      · exact h _ List.mem_cons_self
      · exact modAt_all hg (fun m hm => h m (List.mem_cons_of_mem _ hm)) m q
theorem zargs_null (l : Lay) (i : Nat) (hi : i < (zargs l).length) : (zargs l)[i].2 = 0 := by
  simp [zargs]
theorem val_null (o : Op25) : o.val.1 = 4 → o.val.2 = 0 := val_ptr (v1 := o.val.1) (v2 := o.val.2) rfl
theorem Null.begun {N : Nt} {l : Lay} {args : List (Int × Int)} {link : Int} {M : List Md} (hl : args.length ≤ l.slots.length) (ha : ∀ (i : Nat) (hi : i < args.length), l.args ≤ i → args[i].1 = 4 → args[i].2 = 0) (hM : ∀ m ∈ M, NullM m) : Null (N.begun l args link M) := by
  intro m hm
  rcases List.mem_cons.1 hm with rfl | q
  · exact null_fill hl ha
  · exact hM m q
theorem Null.step {N : Nt} (h : Null N) (o : Op25) : Null (stepN N o) := by
  have hz : ∀ l : Lay, (zargs l).length ≤ l.slots.length := fun l => by rw [zargs_len]; exact Nat.min_le_right _ _
  unfold stepN
  cases hM : N.M with
  | nil =>
    simp only
    split
    · exact Null.begun (hz _) (fun i hi _ _ => zargs_null _ i hi) (by simp)
    · exact h
  | cons f M =>
    have hf : NullM f := h f (by rw [hM]; exact List.mem_cons_self)
    have hR : ∀ m ∈ M, NullM m := fun m hm => h m (by rw [hM]; exact List.mem_cons_of_mem _ hm)
    have hc : ∀ g, NullM g → ∀ m ∈ g :: M, NullM m := fun g hg m hm => by
      rcases List.mem_cons.1 hm with rfl | q
      · exact hg
      · exact hR m q
    simp only
    split
    · split
      · rename_i hk hcall
        have hcall' := hcall
        simp only [callOk, Bool.and_eq_true, decide_eq_true_eq] at hcall'
        have hlay := (layOk_iff _).1 (can_iff' hcall'.1.1).1
        refine Null.begun (by rw [List.length_drop]; omega) (fun i hi q => ?_) (hc _ hf)
        rw [List.length_drop] at hi
        omega
      · exact h
    · split
      · split
        · exact Null.begun (hz _) (fun i hi _ _ => zargs_null _ i hi) (hc _ hf)
        · exact h
      · split
        · cases M with
          | nil => exact h
          | cons g M' =>
            simp only
            split
            · intro m hm
              rcases List.mem_cons.1 hm with rfl | q
              · exact hR g List.mem_cons_self
              · exact hR m (List.mem_cons_of_mem _ q)
            · exact h
        · split
          · exact fun m hm => hR m hm
          · split
            · split
              · exact fun m hm => hc _ (hf.ops _) m hm
              · exact h
            · split
              · exact fun m hm => hc _ (hf.ops _) m hm
              · split
                · split
                  · exact fun m hm => hc _ (hf.set _ (val_null o)) m hm
                  · exact h
                · split
                  · split
                    · intro m hm
                      refine hc _ ?_ m hm
                      split
                      · exact hf
                      · exact hf
                    · exact h
                  · split
                    · unfold putN
                      rw [hM]
                      simp only
                      split
                      · exact h
                      · split
                        · exact h
                        · split
                          · exact h
                          · split
                            · intro m hm
                              refine modAt_all (Pr := NullM) (fun m hm => hm.set _ (fun q => by cases q)) (fun m hm => ?_) m hm
                              exact hc f hf m hm
                            · exact h
                    · exact h
def placeN (N : Nt) : (Int × Int) × Int := match N.M with
  | [] => ((0, 0), 250)
  | f :: _ => ((Int.tdiv f.link 128, Int.tmod f.link 128), 0)
def heightN (N : Nt) : Int := match N.M with
  | [] => 0
  | f :: _ => f.ops.length
def resN (N : Nt) : List (Int × Int) × Int := match N.M with
  | [] => ([], 250)
  | f :: _ => (f.res, 0)
section
variable {sz ca : Int} {n : Nat} {T : Tw} {Z : List (Md × Af)}
theorem Sim.placeN (h : Sim sz ca n T Z) : placeC T.C = placeN T.N := by
  cases Z with
  | nil =>
    have h1 := h.M
    have h2 := h.rep.fs
    unfold placeC Go.Proofs.YtpfnnmcokbolhaaGreat.placeN Tw.N
    rw [h2, h1]
    rfl
  | cons z Z0 =>
    have h1 := h.M
    have h2 := Rep.place h.rep
    rw [h2]
    unfold Go.Proofs.YtpfnnmcokbolhaaGreat.placeN Tw.N
    rw [h1]
    simp only [List.map_cons]
    rw [(h.ma z List.mem_cons_self).link]
theorem Sim.heightN (h : Sim sz ca n T Z) : heightC T.C = heightN T.N := by
  rw [h.height]
  rfl
theorem Sim.resN (h : Sim sz ca n T Z) (hn : Null T.N) : (resC T.C).1.getD [] = (resN T.N).1 ∧ (resC T.C).2 = (resN T.N).2 := by
  cases Z with
  | nil =>
    have h1 := h.M
    have h2 := h.rep.fs
    unfold resC Go.Proofs.YtpfnnmcokbolhaaGreat.resN Tw.N
    rw [h2, h1]
    exact ⟨rfl, rfl⟩
  | cons z Z0 =>
    have h1 := h.M
    obtain ⟨r1, r2⟩ := Rep.res h.rep
    have hma := h.ma z List.mem_cons_self
    have hnz : NullM z.1 := hn z.1 (by show z.1 ∈ T.M; rw [h1]; simp)
    have e1 : Go.Proofs.YtpfnnmcokbolhaaGreat.resN T.N = (z.1.res, 0) := by
      unfold Go.Proofs.YtpfnnmcokbolhaaGreat.resN Tw.N
      rw [h1]
      rfl
    rw [e1, r1, r2]
    refine ⟨?_, rfl⟩
    have e2 := hma.res
    unfold Af.res at e2
    rw [e2]
    have hlay := (h.rep.core.each z.2 (by simp)).lay
    rw [← hma.lay] at hlay
    obtain ⟨-, -, a0, -⟩ := (layOk_iff _).1 hlay
    have : ∀ v ∈ z.1.res, here T.Q v = v := fun v hv => by
      obtain ⟨i, hi, rfl⟩ := List.getElem_of_mem (List.mem_of_mem_take hv)
      rw [List.length_drop] at hi
      have hz := hnz (z.1.lay.args.toNat + i) (by omega) (by omega)
      rw [List.getElem_drop]
      unfold here
      rw [if_neg]
      rintro ⟨q1, q2⟩
      have := hz q1
      omega
    rw [List.map_congr_left this, List.map_id']
theorem Sim.linkOk (h : Sim sz ca n T Z) : ∀ f ∈ T.C.F, 0 ≤ (T.C.S.get f.link).1.2 ∧ (T.C.S.get f.link).1.2 ≤ 1048576 := by
  intro f hf
  rw [h.rep.fs] at hf
  obtain ⟨a, ha, rfl⟩ := List.mem_map.1 hf
  have hok := h.rep.core.each a ha
  have e := h.rep.core.wd a ha a.slots.length (1, a.link) (by unfold Af.words; rw [List.getElem?_append_right (Nat.le_refl _)]; simp)
  have e2 : a.f.link = a.f.base + (a.slots.length : Int) := by unfold Fr.link; rw [hok.len]
  rw [e2, get_full e]
  exact hok.lk
end
end Go.Proofs.YtpfnnmcokbolhaaGreat
/- A twin's place, height, results; two twins. -/
namespace Go.Proofs.YtpfnnmcokbolhaaGreat
open Go.RowKit
set_option pp.deepTerms true
section
variable {w W : World} {F G : List Asr} {t b p k n : Nat} {sz ca : Int} {N : Nt}
theorem TwR.perm (h : TwR w W t b p k sz ca n N F) (q : F.Perm G) : TwR w W t b p k sz ca n N G := by
  obtain ⟨T, Z, ⟨lv, pv, ml, hM, hS⟩, hs, hN⟩ := h
  refine ⟨T, Z, ⟨lv, pv, ml, hM, ?_⟩, hs, hN⟩
  rw [twch_eq] at hS ⊢
  exact hS.perm (q.append_left _)
theorem TwR.sub (h : TwR w W t b p k sz ca n N F) (q : G.Sublist F) : TwR w W t b p k sz ca n N G := by
  obtain ⟨T, Z, ⟨lv, pv, ml, hM, hS⟩, hs, hN⟩ := h
  refine ⟨T, Z, ⟨lv, pv, ml, hM, ?_⟩, hs, hN⟩
  rw [twch_eq] at hS ⊢
  exact Sep.sub hS (q.append_left _)
theorem TwR.place (h : TwR w W t b p k sz ca n N F) (hn : n ≤ 290) :
    Calls Tryz.prog 9 #[.pointer (some ⟨b, 0, none⟩)] W fun e w' => TwR w w' t b p k sz ca n N F ∧ e = .returned (.tuple #[.int .i64 (placeN N).1.1, .int .i64 (placeN N).1.2, .int .i64 (placeN N).2]) := by
  obtain ⟨T, Z, ⟨lv, pv, ml, hM, hS⟩, hs, rfl⟩ := h
  refine (cplace_any (tw_ch hS) (hs.ok (by omega)) hs.linkOk).mono ?_
  rintro e w' ⟨h1, -, rfl⟩
  rw [hs.placeN]
  exact ⟨⟨T, Z, ⟨lv, pv, ml, hM, ch_tw h1⟩, hs, rfl⟩, rfl⟩
theorem TwR.height (h : TwR w W t b p k sz ca n N F) (hn : n ≤ 290) :
    Calls Tryz.prog 11 #[.pointer (some ⟨b, 0, none⟩)] W fun e w' => TwR w w' t b p k sz ca n N F ∧ e = .returned (.int .i64 (heightN N)) := by
  obtain ⟨T, Z, ⟨lv, pv, ml, hM, hS⟩, hs, rfl⟩ := h
  refine (cheight_any (tw_ch hS) (hs.ok (by omega))).mono ?_
  rintro e w' ⟨h1, -, rfl⟩
  rw [hs.heightN]
  exact ⟨⟨T, Z, ⟨lv, pv, ml, hM, ch_tw h1⟩, hs, rfl⟩, rfl⟩
theorem TwR.results (h : TwR w W t b p k sz ca n N F) (hn : n ≤ 290) (hN : Null N) :
    Calls Tryz.prog 12 #[.pointer (some ⟨b, 0, none⟩)] W fun e w' => ∃ v, TwR w w' t b p k sz ca n N (vrow v (resN N).1 :: F) ∧ e = .returned (.tuple #[v, .int .i64 (resN N).2]) := by
  obtain ⟨T, Z, ⟨lv, pv, ml, hM, hS⟩, hs, rfl⟩ := h
  refine (cresults_any (tw_ch hS) (hs.ok (by omega))).mono ?_
  rintro e w' ⟨v, h1, -, rfl⟩
  obtain ⟨e1, e2⟩ := hs.resN hN
  rw [e1] at h1
  rw [e2]
  refine ⟨v, ⟨T, Z, ⟨lv, pv, ml, hM, ?_⟩, hs, rfl⟩, rfl⟩
  rw [twch_eq]
  refine h1.perm ?_
  have e : ([chA b p k T.C.F, spA p T.C.S, lkA k p sz ca T.C.L] ++ (twL t b lv pv ml T.Q T.many ++ F)).Perm ((twL t b lv pv ml T.Q T.many ++ [chA b p k T.C.F, spA p T.C.S, lkA k p sz ca T.C.L]) ++ F) := by
    rw [← List.append_assoc]
    exact List.perm_append_comm.append_right F
  exact (List.Perm.cons _ e).trans List.perm_middle.symm
theorem TwR.rd {v : Value} {vs : List (Int × Int)} (h : TwR w W t b p k sz ca n N F) (hm : vrow v vs ∈ F) : Rd W v vs := Rd.of_row (Sep.owns h.sep hm) rfl
end
/-- a twin's places and sizes -/
structure Tn where
  t : Nat
  b : Nat
  p : Nat
  k : Nat
  sz : Int
  ca : Int
def Tn.R (x : Tn) (w W : World) (n : Nat) (N : Nt) (F : List Asr) : Prop := TwR w W x.t x.b x.p x.k x.sz x.ca n N F
/-- two twins, the first ahead -/
def Two (w W : World) (x y : Tn) (n m : Nat) (N N' : Nt) (F : List Asr) : Prop := ∃ T Z lv pv ml, ml.map (·.m) = T.M ∧ x.R w W n N (twL y.t y.b lv pv ml T.Q T.many ++ chP y.b y.p y.k y.sz y.ca T.C F) ∧ Sim y.sz y.ca m T Z ∧ T.N = N'
section
variable {w W : World} {F G : List Asr} {x y : Tn} {n m : Nat} {N N' : Nt}
theorem Two.swap (h : Two w W x y n m N N' F) : Two w W y x m n N' N F := by
  obtain ⟨T, Z, lv, pv, ml, hM, ⟨T2, Z2, ⟨lv2, pv2, ml2, hM2, hS⟩, hs2, hN2⟩, hs, hN⟩ := h
  refine ⟨T2, Z2, lv2, pv2, ml2, hM2, ⟨T, Z, ⟨lv, pv, ml, hM, ?_⟩, hs, hN⟩, hs2, hN2⟩
  rw [twch_eq, twch_eq (F := F)] at hS
  rw [twch_eq, twch_eq (F := F)]
  exact Sep.rot _ _ hS
/-- what the first does is done beside the second -/
theorem Two.fst {f : Nat} {args : Array Value} {P : Ending → Prop} {n' : Nat} {N2 : Nt} (h : Two w W x y n m N N' F) (hf : ∀ {G}, x.R w W n N G → Calls Tryz.prog f args W fun e w' => x.R w w' n' N2 G ∧ P e) :
    Calls Tryz.prog f args W fun e w' => Two w w' x y n' m N2 N' F ∧ P e := by
  obtain ⟨T, Z, lv, pv, ml, hM, hR, hs, hN⟩ := h
  refine (hf hR).mono ?_
  rintro e w' ⟨h1, h2⟩
  exact ⟨⟨T, Z, lv, pv, ml, hM, h1, hs, hN⟩, h2⟩
theorem Two.at (h : Two w W x y n m N N' F) : ∃ G, x.R w W n N G := by
  obtain ⟨T, Z, lv, pv, ml, hM, hR, hs, hN⟩ := h
  exact ⟨_, hR⟩
theorem Two.cells (h : Two w W x y n m N N' F) : W.cell? ⟨x.t, 0, none⟩ = some (.pointer (some ⟨x.b, 0, none⟩)) ∧ ∃ ao c, W.cell? ⟨x.t, 1, none⟩ = some (.slice ao N.M.length c) := by
  obtain ⟨G, hR⟩ := h.at
  exact ⟨(TwR.depth hR).1, (TwR.len hR).1⟩
theorem Two.depth (h : Two w W x y n m N N' F) : Calls Tryz.prog 10 #[.pointer (some ⟨x.b, 0, none⟩)] W fun e w' => w' = W ∧ e = .returned (.int .i64 N.M.length) := by
  obtain ⟨G, hR⟩ := h.at
  exact (TwR.depth hR).2
theorem Two.keep {W' : World} (h : Two w W x y n m N N' F) (hb : Below W.heap.size W W') : Two w W' x y n m N N' F := by
  obtain ⟨T, Z, lv, pv, ml, hM, hR, hs, hN⟩ := h
  exact ⟨T, Z, lv, pv, ml, hM, TwR.keep hR hb, hs, hN⟩
theorem Two.more (h : Two w W x y n m N N' F) (o : Obj) : Two w (W.alloc o) x y n m N N' (bx W.heap.size o :: F) := by
  obtain ⟨T, Z, lv, pv, ml, hM, hR, hs, hN⟩ := h
  refine ⟨T, Z, lv, pv, ml, hM, (TwR.more hR o).perm ?_, hs, hN⟩
  rw [twch_eq F, twch_eq (_ :: F)]
  exact List.perm_middle.symm
theorem Two.sub (h : Two w W x y n m N N' F) (q : G.Sublist F) : Two w W x y n m N N' G := by
  obtain ⟨T, Z, lv, pv, ml, hM, hR, hs, hN⟩ := h
  refine ⟨T, Z, lv, pv, ml, hM, TwR.sub hR ?_, hs, hN⟩
  rw [twch_eq, twch_eq (F := F)]
  exact q.append_left _
theorem Two.sep (h : Two w W x y n m N N' F) : Sep w F W := by
  obtain ⟨T, Z, lv, pv, ml, hM, hR, hs, hN⟩ := h
  have := TwR.sep hR
  rw [twch_eq] at this
  exact Sep.sub this (List.sublist_append_right _ _)
theorem Two.results (h : Two w W x y n m N N' F) (hn : n ≤ 290) (hN : Null N) :
    Calls Tryz.prog 12 #[.pointer (some ⟨x.b, 0, none⟩)] W fun e w' => ∃ v, Two w w' x y n m N N' (vrow v (resN N).1 :: F) ∧ e = .returned (.tuple #[v, .int .i64 (resN N).2]) := by
  obtain ⟨T, Z, lv, pv, ml, hM, hR, hs, hN2⟩ := h
  refine (TwR.results hR hn hN).mono ?_
  rintro e w' ⟨v, h1, rfl⟩
  refine ⟨v, ⟨T, Z, lv, pv, ml, hM, TwR.perm h1 ?_, hs, hN2⟩, rfl⟩
  rw [twch_eq F, twch_eq (_ :: F)]
  exact List.perm_middle.symm
theorem Two.new {t b p k t' b' p' k' : Nat} {s c s' c' : Int} (h : Sep w (twL t b (.slice none 0 0) (.slice none 0 0) [] [] 0 ++ chP b p k s c (newC s).2 (twL t' b' (.slice none 0 0) (.slice none 0 0) [] [] 0 ++ chP b' p' k' s' c' (newC s').2 F)) W) (hs : segOk s c = true) (hsz : s ≤ 2000) (hs' : segOk s' c' = true) (hsz' : s' ≤ 2000) : Two w W ⟨t, b, p, k, s, c⟩ ⟨t', b', p', k', s', c'⟩ 0 0 ⟨[], [], 0⟩ ⟨[], [], 0⟩ F :=
  ⟨⟨(newC s').2, [], [], 0⟩, [], _, _, [], rfl, TwR.new h hs hsz, Sim.new hs' hsz', rfl⟩
end
end Go.Proofs.YtpfnnmcokbolhaaGreat
/- How many full words a chain has: those of its frames. -/
namespace Go.Proofs.YtpfnnmcokbolhaaGreat
open Go.RowKit
theorem countP_or {α : Type} {p q : α → Bool} : ∀ {l : List α}, (∀ x ∈ l, p x = true → q x = true → False) → l.countP (fun x => p x || q x) = l.countP p + l.countP q
  | [], _ => rfl
  | x :: l, h => by
    have ih := countP_or (p := p) (q := q) (l := l) (fun y hy => h y (List.mem_cons_of_mem _ hy))
    have h0 := h x List.mem_cons_self
    simp only [List.countP_cons, ih]
    cases hp : p x <;> cases hq : q x <;> simp [hp, hq] at h0 ⊢ <;> omega
theorem countP_interval (lo hi : Nat) (h : lo ≤ hi) : ∀ m, hi ≤ m → (List.range m).countP (fun j => decide (lo ≤ j ∧ j < hi)) = hi - lo := by
  have key : ∀ m, (List.range m).countP (fun j => decide (lo ≤ j ∧ j < hi)) = min m hi - min m lo := by
    intro m
    induction m with
    | zero => simp
    | succ m ih =>
      rw [List.range_succ, List.countP_append, ih]
      by_cases q : lo ≤ m ∧ m < hi
      · simp only [List.countP_cons, List.countP_nil, q, and_self, decide_true, if_true]
        omega
      · simp only [List.countP_cons, List.countP_nil, q, decide_false]
        simp
        omega
  intro m hm
  rw [key]
  omega
theorem count_parts {m : Nat} : ∀ {B : List (Nat × Nat)}, (∀ b ∈ B, b.1 ≤ b.2 ∧ b.2 ≤ m) → B.Pairwise (fun a b => b.2 ≤ a.1) → (List.range m).countP (fun j => B.any fun b => decide (b.1 ≤ j ∧ j < b.2)) = (B.map fun b => b.2 - b.1).sum
  | [], _, _ => by simp
  | b :: B, h, hp => by
    obtain ⟨hp1, hp2⟩ := List.pairwise_cons.1 hp
    have ih := count_parts (B := B) (fun x hx => h x (List.mem_cons_of_mem _ hx)) hp2
    have hb := h b List.mem_cons_self
    have e : (fun j => (b :: B).any fun b => decide (b.1 ≤ j ∧ j < b.2)) = fun j => decide (b.1 ≤ j ∧ j < b.2) || B.any fun b => decide (b.1 ≤ j ∧ j < b.2) := by
      funext j
      simp
    rw [e, countP_or, countP_interval _ _ hb.1 _ hb.2, ih]
    · simp
    · intro j _ h1 h2
      simp only [decide_eq_true_eq] at h1
      obtain ⟨c, hc, h3⟩ := List.any_eq_true.1 h2
      simp only [decide_eq_true_eq] at h3
      have := hp1 c hc
      omega
/-- a sum parted by a key -/
theorem sum_key {α κ : Type} [DecidableEq κ] (key : α → κ) (f : α → Nat) : ∀ {A : List α} {ks : List κ}, ks.Nodup → (∀ a ∈ A, key a ∈ ks) → (ks.map fun k => ((A.filter fun a => decide (key a = k)).map f).sum).sum = (A.map f).sum
  | [], ks, _, _ => by
    simp only [List.filter_nil, List.map_nil, List.sum_nil]
    induction ks with
    | nil => rfl
    | cons k ks ih => simp_all
  | a :: A, ks, hn, h => by
    have ih := sum_key key f (A := A) hn (fun x hx => h x (List.mem_cons_of_mem _ hx))
    have ha := h a List.mem_cons_self
    have e : ∀ ks : List κ, ks.Nodup → (ks.map fun k => (((a :: A).filter fun a => decide (key a = k)).map f).sum).sum = (ks.map fun k => ((A.filter fun a => decide (key a = k)).map f).sum).sum + (if key a ∈ ks then f a else 0) := by
      intro ks
      induction ks with
      | nil => intro _; simp
      | cons k ks ihk =>
        intro hn
        obtain ⟨hk, hn⟩ := List.nodup_cons.1 hn
        have := ihk hn
        simp only [List.map_cons, List.sum_cons, this]
        by_cases q : key a = k
        · subst q
          simp only [List.filter_cons, decide_true, if_true, List.map_cons, List.sum_cons, hk, List.mem_cons, true_or, if_false]
          omega
        · have q' : ¬ k = key a := fun e => q e.symm
          simp only [List.filter_cons, q, decide_false, List.mem_cons, false_or]
          simp
          omega
    rw [e ks hn, ih, if_pos ha]
    simp
    omega
theorem tells_nodup {S : Sp} (h : Spok S) : (tells S.regs).Nodup := by
  obtain ⟨ls, e, ok⟩ := h
  unfold tells
  rw [e, List.map_map]
  refine List.pairwise_map.2 (ok.sep.imp_of_mem ?_)
  intro a b ha hb hab e'
  have h1 : a.base = b.base := congrArg Prod.fst e'
  have := (ok.lo a ha).2.1
  omega
theorem full_ne {S : Sp} {a : Int} {v : Int × Int} (h : full S a = some v) : v ≠ (0, 0) := by
  unfold full at h
  split at h
  · split at h
    · cases h
    · rename_i q
      simp only [Option.some.injEq] at h
      exact h ▸ q
  · cases h
section
variable {sz ca : Int} {S : Sp} {L : Lk} {A : List Af} {r : Int × Int}
theorem Core.live_nodup (h : Core sz ca S L A) : L.live.Nodup :=
  (List.nodup_append.1 (h.inv.perm.nodup_iff.1 (tells_nodup h.ok))).1
theorem Core.seg_count (h : Core sz ca S L A) (hr : r ∈ L.live) : cnt (wordsR S r) = ((A.filter fun a => decide (a.seg = r)).map fun a => a.words.length).sum := by
  obtain ⟨B, hB⟩ : ∃ B, (A.filter fun a => decide (a.seg = r)).map (fun a => ((a.f.base - r.1).toNat, (a.top - r.1).toNat)) = B := ⟨_, rfl⟩
  have hmem : ∀ a ∈ A.filter (fun a => decide (a.seg = r)), a ∈ A ∧ a.seg = r := fun a ha => by
    obtain ⟨q1, q2⟩ := List.mem_filter.1 ha
    exact ⟨q1, by simpa using q2⟩
  have hin : ∀ a ∈ A, a.seg = r → r.1 ≤ a.f.base ∧ a.f.base < a.top ∧ a.top ≤ r.1 + r.2 ∧ a.top = a.f.base + a.words.length := fun a ha e => by
    have hok := h.each a ha
    have h1 := hok.lo
    have h2 := hok.hi
    have h3 := hok.top_le
    have h4 := a.lt_top
    rw [e] at h1 h2
    exact ⟨h1, h4, by omega, rfl⟩
  have h1 : ∀ b ∈ B, b.1 ≤ b.2 ∧ b.2 ≤ r.2.toNat := by
    intro b hb
    rw [← hB] at hb
    obtain ⟨a, ha, rfl⟩ := List.mem_map.1 hb
    obtain ⟨q1, q2⟩ := hmem a ha
    have := hin a q1 q2
    simp only
    omega
  have h2 : B.Pairwise (fun a b => b.2 ≤ a.1) := by
    rw [← hB]
    refine List.pairwise_map.2 ((h.apart.filter _).imp_of_mem ?_)
    intro a b ha hb hab
    obtain ⟨q1, q2⟩ := hmem a ha
    obtain ⟨q3, q4⟩ := hmem b hb
    have := hab (q2.trans q4.symm)
    simp only
    omega
  have h3 := count_parts h1 h2
  have h4 : (B.map fun b => b.2 - b.1) = (A.filter fun a => decide (a.seg = r)).map fun a => a.words.length := by
    rw [← hB, List.map_map]
    refine List.map_congr_left fun a ha => ?_
    obtain ⟨q1, q2⟩ := hmem a ha
    have := hin a q1 q2
    simp only [Function.comp]
    omega
  rw [← h4, ← h3]
  unfold cnt wordsR
  rw [List.countP_map]
  refine List.countP_congr fun j hj => ?_
  have hj := List.mem_range.1 hj
  simp only [Function.comp, decide_eq_true_eq, List.any_eq_true]
  constructor
  · intro hne
    have hf : full S (r.1 + (j : Int)) ≠ none := fun e => by
      obtain ⟨e0, -, e1⟩ := get_none e
      rw [e1] at hne
      exact hne rfl
    have : ¬ ∀ a ∈ A, a.seg = r → ¬ (a.f.base ≤ r.1 + (j : Int) ∧ r.1 + (j : Int) < a.top) := fun q => hf (h.no r hr _ (by omega) (by omega) q)
    simp only [Classical.not_forall, Classical.not_not] at this
    obtain ⟨a, ha, e, q⟩ := this
    have hi := hin a ha e
    refine ⟨((a.f.base - r.1).toNat, (a.top - r.1).toNat), ?_, by omega⟩
    rw [← hB]
    exact List.mem_map.2 ⟨a, List.mem_filter.2 ⟨ha, by simpa using e⟩, rfl⟩
  · rintro ⟨b, hb, q⟩
    rw [← hB] at hb
    obtain ⟨a, ha, rfl⟩ := List.mem_map.1 hb
    obtain ⟨q1, q2⟩ := hmem a ha
    have hi := hin a q1 q2
    simp only at q
    have hjl : (r.1 + (j : Int) - a.f.base).toNat < a.words.length := by omega
    have hw := h.wd a q1 _ _ (List.getElem?_eq_getElem hjl)
    have e : a.f.base + ((r.1 + (j : Int) - a.f.base).toNat : Int) = r.1 + (j : Int) := by omega
    rw [e] at hw
    rw [get_full hw]
    exact full_ne hw
end
theorem cnt_flatMap {α : Type} (f : α → List (Int × Int)) : ∀ l : List α, cnt (l.flatMap f) = (l.map fun x => cnt (f x)).sum
  | [] => rfl
  | x :: l => by
    have ih := cnt_flatMap f l
    unfold cnt at ih ⊢
    rw [List.flatMap_cons, List.countP_append, ih, List.map_cons, List.sum_cons]
theorem Rep.count {sz ca : Int} {C : Ch} {A : List Af} (h : Rep sz ca C A) : cnt (wordsC C) = (A.map fun a => a.words.length).sum := by
  unfold wordsC
  rw [cnt_flatMap, ← sum_key (fun a : Af => a.seg) (fun a => a.words.length) h.core.live_nodup h.core.live]
  congr 1
  exact List.map_congr_left fun r hr => h.core.seg_count hr
def needN (N : Nt) : Nat := (N.M.map fun m => m.slots.length + 1 + m.ops.length).sum
def mostN (N : Nt) : Int := (N.M.map fun m => m.lay.words).sum
theorem Sim.full {sz ca : Int} {n : Nat} {T : Tw} {Z : List (Md × Af)} (h : Sim sz ca n T Z) : cnt (wordsC T.C) = needN T.N := by
  rw [h.rep.count]
  unfold needN Tw.N
  rw [h.M, List.map_map, List.map_map]
  congr 1
  refine List.map_congr_left fun z hz => ?_
  have hm := h.ma z hz
  have := z.2.words_len
  have e1 : z.2.slots.length = z.1.slots.length := by rw [hm.slots, List.length_map]
  have e2 : z.2.ops.length = z.1.ops.length := by rw [hm.ops, List.length_map]
  simp only [Function.comp]
  omega
end Go.Proofs.YtpfnnmcokbolhaaGreat
/- The iterator of a chain's words. -/
namespace Go.Proofs.YtpfnnmcokbolhaaGreat
open Go.RowKit Go.Shelf
attribute [local go_sem] Oper.semAt_some
set_option pp.deepTerms true
/-- a segment's words with their addresses -/
def wel (S : Sp) (r : Int × Int) : List (Int × (Int × Int)) := (List.range r.2.toNat).map fun (j : Nat) => (r.1 + (j : Int), (S.get (r.1 + (j : Int))).1)
def welL (S : Sp) (l : List (Int × Int)) : List (Int × (Int × Int)) := l.flatMap (wel S)
def wenc (x : Int × (Int × Int)) : Array Value := #[.int .i64 x.1, .agg #[.int .i64 x.2.1, .int .i64 x.2.2]]
theorem wel_len (S : Sp) (r : Int × Int) : (wel S r).length = r.2.toNat := by simp [wel]
theorem wel_take (S : Sp) (r : Int × Int) {j : Nat} (h : j < r.2.toNat) : (wel S r).take (j + 1) = (wel S r).take j ++ [(r.1 + (j : Int), (S.get (r.1 + (j : Int))).1)] := by
  rw [List.take_succ_eq_append_getElem (by rw [wel_len]; exact h)]
  simp [wel]
theorem welL_words (C : Ch) : (welL C.S C.L.live).map (·.2) = wordsC C := by
  unfold welL wordsC
  rw [List.map_flatMap]
  congr 1
  funext r
  simp [wel, wordsR]
theorem welL_snoc (S : Sp) {l : List (Int × Int)} {q : Nat} (h : q < l.length) : welL S (l.take (q + 1)) = welL S (l.take q) ++ wel S l[q] := by
  unfold welL
  rw [List.take_succ_eq_append_getElem h, List.flatMap_append]
  simp only [List.flatMap_cons, List.flatMap_nil, List.append_nil]
theorem welL_prefix (S : Sp) {l : List (Int × Int)} {q j : Nat} (h : q < l.length) : welL S (l.take q) ++ (wel S l[q]).take j <+: welL S l := by
  have e : welL S l = welL S (l.take q) ++ (wel S l[q] ++ welL S (l.drop (q + 1))) := by
    unfold welL
    conv => lhs; rw [← List.take_append_drop q l, List.drop_eq_getElem_cons h]
    rw [List.flatMap_append, List.flatMap_cons]
  rw [e]
  exact List.prefix_append_right_inj _ |>.2 ((List.take_prefix _ _).trans (List.prefix_append _ _))
/-- what a round may change: no block that was, no block but of values and slices of values -/
def KpR (n₀ : Nat) (W W' : World) : Prop := Below n₀ W W' ∧ ∀ (k : Nat) cs T z, T ≠ 34 → T ≠ 32 → W.heap[k]? = some (Obj.cells cs T z) → W'.heap[k]? = W.heap[k]?
theorem KpR.t {n₀ : Nat} {A B C : World} (h : KpR n₀ A B) (k : KpR n₀ B C) : KpR n₀ A C :=
  ⟨h.1.trans k.1, fun i cs T z e1 e2 e => by have h1 := h.2 i cs T z e1 e2 e; exact (k.2 i cs T z e1 e2 (h1.trans e)).trans h1⟩
theorem KpR.b {n₀ : Nat} {w : World} (hn : n₀ ≤ w.heap.size) (W : World) (l : Nat) (o o' : Obj) (hl : w.heap.size ≤ l) (h : W.heap[l]? = some o) (hc : o.isCells = false) (hw : o.isWalk = false) : KpR n₀ W (W.putObj l o') :=
  ⟨belowK_b hn W l o o' hl h hc hw, fun k cs T z _ _ e => (grownBy_putObj' W l o').block k (lt_of_heap e) (fun q => by cases q; rw [h] at e; cases e; simp [Obj.isCells] at hc)⟩
theorem grown_of_below {W W' : World} (h : Below W.heap.size W W') : W.grownBy W' none := ⟨h.os, h.tape, h.output, h.size, fun k hk _ => h.block k hk⟩
theorem KpR.below {n₀ : Nat} {W W' : World} (h : Below W.heap.size W W') (hn : n₀ ≤ W.heap.size) : KpR n₀ W W' := ⟨h.mono hn, fun k cs T z _ _ e => h.block k (lt_of_heap e)⟩
theorem KpR.box {n₀ : Nat} {W W' : World} {k : Nat} {cs : Array Value} {T : TypeId} {z : Nat × Nat} (h : KpR n₀ W W') (e : W.heap[k]? = some (.cells cs T z)) (e1 : T ≠ 34) (e2 : T ≠ 32) : W'.heap[k]? = some (.cells cs T z) := (h.2 k cs T z e1 e2 e).trans e
set_option maxRecDepth 100000 in
set_option maxHeartbeats 1000000 in
theorem clive_in (n : Nat) (p : Option Addr) (w : World) :
    CallsIn Fence.wide n Tryz.prog 40 #[.pointer p] w fun e w' => e = .returned (.func (.func 68) #[] #[.pointer (some ⟨w.heap.size, 0, none⟩)]) ∧ w' = w.alloc (.cells #[.pointer p] 40) := by
  refine callsIn_of_wp Tryz.func40 rfl trivial ?_ rfl
  simp only [Tryz.ntmps40, List.size_toArray, List.length_cons, List.length_nil, Nat.reduceAdd, Nat.reduceSub, Array.replicate_succ, Array.replicate_zero, List.push_toArray, List.append_toArray, List.nil_append, List.cons_append]
  gi_wp2
  go_ret
  exact ⟨rfl, rfl⟩
theorem KpR.row {n₀ : Nat} {W W' : World} {base : Nat} {v : Value} {n : Nat} {xs : List Value} (h : KpR n₀ W W') (hr : W.ownsRow base 101 2 v n xs) : W'.ownsRow base 101 2 v n xs :=
  ⟨hr.1, hr.2.imp id (fun ⟨g, cap, cur, e, hge, hg, r⟩ => ⟨g, cap, cur, e, hge, h.box hg (by decide) (by decide), r⟩)⟩
section
variable {w wS : World} {F : List Asr} {b p k : Nat} {sz ca : Int} {C : Ch}
set_option maxRecDepth 100000 in
set_option maxHeartbeats 4000000 in
theorem clive1_in (n : Nat) (hn : 1 ≤ n) (l Bn : Nat) (hS : Sep w (chP b p k sz ca C F) wS) (ok : ChOk C) (hr : ∀ r ∈ C.L.live, 0 ≤ r.1 ∧ r.1 ≤ 1000000000000 ∧ 0 ≤ r.2 ∧ r.2 ≤ 1000000000000) (J Jx : List (Int × (Int × Int)) → World → Prop) (B0 : Nat) (hJ : AbidesFrom B0 J)
    (hY : ∀ pre x W, J pre W → pre.length < (welL C.S C.L.live).length → YieldAt Fence.wide (n - 1) Tryz.prog l (wenc x) W fun e W' =>
      (e = .returned (.bool true) ∧ J (pre ++ [x]) W' ∧ KpR wS.heap.size W W') ∨ (e = .returned (.bool false) ∧ Jx (pre ++ [x]) W'))
    (W : World) (hW : Below wS.heap.size wS W) (hBn : W.heap[Bn]? = some (.cells #[.pointer (some ⟨b, 0, none⟩)] 40 (0, 0))) (h0 : J [] W) :
    CallsIn Fence.wide n Tryz.prog 68 #[.func (.yield l) #[] #[], .pointer (some ⟨Bn, 0, none⟩)] W fun e W' => (∃ v, e = .returned v) ∧
      ((∃ ys, ys = welL C.S C.L.live ∧ J ys W') ∨ (∃ pre, pre <+: welL C.S C.L.live ∧ Jx pre W')) := by
  have cBn : W.cell? ⟨Bn, 0, none⟩ = some (.pointer (some ⟨b, 0, none⟩)) := by rw [cell_of_row W Bn 0 _ _ _ hBn]; rfl
  have hS1 := hS.keep hW
  obtain ⟨-, k1, -⟩ := ch_k0 (show Sep w (chA b p k C.F :: spA p C.S :: lkA k p sz ca C.L :: F) W from hS1)
  have HL : Hid (Calls Tryz.prog 38 #[.pointer (some ⟨k, 0, none⟩)] W fun e w' => Below W.heap.size W w' ∧ OwnR W C.L.live e w') := (live24_seg (Sep.rot [_] [_, _] hS1).seg0 ok.live).mono (fun e w' q => ⟨q.2.1, q.2.2⟩)
  obtain ⟨m, hm⟩ : ∃ m, C.L.live.length = m := ⟨_, rfl⟩
  have HM := Hid.mk hm
  have hm6 : m ≤ 1000000 := by rw [← hm]; exact ok.live
  have HR := Hid.mk hr
  have HS := Hid.mk hS
  have HW := Hid.mk hW
  have HB := Hid.mk hBn
  have HJ := Hid.mk hJ
  have H0 := Hid.mk h0
  clear hS1 hr hm
  refine callsIn_of_wp Tryz.func68 rfl trivial ?_ rfl
  simp only [Tryz.ntmps68, List.size_toArray, List.length_cons, List.length_nil, Nat.reduceAdd, Nat.reduceSub, Array.replicate_succ, Array.replicate_zero, List.push_toArray, List.append_toArray, List.nil_append, List.cons_append]
  gi_wp2
  refine ⟨trivial, (callsIn_wide.2 HL.out).mono ?_⟩
  rintro e w2 ⟨hb2, v, rfl, hrow⟩
  obtain ⟨ao, cc, rfl⟩ := own_shape hrow
  have hn2 : wS.heap.size ≤ W.heap.size := hW.size
  have HROW := Hid.mk hrow
  have HB2 := Hid.mk hb2
  have HK0 : Hid (KpR wS.heap.size W w2) := KpR.below hb2 hn2
  have HN2 : Hid (wS.heap.size ≤ w2.heap.size) := Nat.le_trans hn2 hb2.size
  have HJ2 : Hid (J [] w2) := HJ.out _ _ _ none H0.out (grown_of_below hb2) (fun r e => by cases e)
  clear hrow hb2 hn2 k1 cBn HL hW hBn hJ h0 H0
  rw [HM.out]
  gi_wp2
  gi_loopw [14] (fun i wr => ∃ q : Nat, i = .int .i64 (q : Int) ∧ q ≤ m ∧ Hid (J (welL C.S (C.L.live.take q)) wr) ∧ Hid (KpR wS.heap.size w2 wr)) (fun i _ => m - (intOf i).toNat)
  case atStart => exact ⟨0, rfl, Nat.zero_le _, HJ2.out, KpR.below (Below.refl _ _) HN2.out⟩
  case round =>
    obtain ⟨q, rfl, hq, HJq, HKq⟩ := hrel
    clear HJ2
    by_cases hlt : q < m
    · have hq1 : q < C.L.live.length := by rw [HM.out]; exact hlt
      obtain ⟨hr0, hr1, hr2, hr3⟩ := HR.out _ (List.getElem_mem hq1)
      have hRd := Rd.of_row (xs := C.L.live) (HKq.out.row HROW.out) rfl
      obtain ⟨rb, ro, rc, er, hrb, hrc⟩ := hRd.some (by omega)
      obtain ⟨x0, x1⟩ := hrc q hq1
      simp only [Value.slice.injEq] at er
      obtain ⟨rfl, -, -⟩ := er
      obtain ⟨rg, hrg⟩ : ∃ r, C.L.live[q] = r := ⟨_, rfl⟩
      rw [hrg] at hr0 hr1 hr2 hr3 x0 x1
      obtain ⟨ba, bw⟩ := rg
      obtain ⟨nw, rfl⟩ := Int.eq_ofNat_of_zero_le hr2
      simp only at hr0 hr1 hr2 hr3 x0 x1
      have HRG := Hid.mk hrg
      clear hRd hrc hrb hrg
      have hbA : Below wr.heap.size wr (wr.alloc (.cells #[.int .i64 ba, .int .i64 (nw : Int)] 101)) := (Below.refl _ _).alloc (Nat.le_refl _) _
      have HJ4 : Hid (J (welL C.S (C.L.live.take q)) (wr.alloc (.cells #[.int .i64 ba, .int .i64 (nw : Int)] 101))) := HJ.out _ _ _ none HJq.out (grown_of_below hbA) (fun r e => by cases e)
      have HK4 : Hid (KpR wS.heap.size w2 (wr.alloc (.cells #[.int .i64 ba, .int .i64 (nw : Int)] 101))) := HKq.out.t (KpR.below hbA (Nat.le_trans HN2.out HKq.out.1.size))
      have HX4 : Hid ((wr.alloc (.cells #[.int .i64 ba, .int .i64 (nw : Int)] 101)).heap[wr.heap.size]? = some (.cells #[.int .i64 ba, .int .i64 (nw : Int)] 101 (0, 0))) := heap_alloc_new _ _
      clear hbA
      gi_wp2
      clear HJq HKq x0 x1
      obtain ⟨w4, hw4⟩ : ∃ w4, w4 = wr.alloc (.cells #[.int .i64 ba, .int .i64 (nw : Int)] 101) := ⟨_, rfl⟩
      obtain ⟨Br, hBr⟩ : ∃ B, B = wr.heap.size := ⟨_, rfl⟩
      rw [← hw4] at HJ4 HK4 HX4 ⊢
      rw [← hBr] at HX4 ⊢
      clear hw4 hBr
      gi_loopw [5] (fun i wz => ∃ j : Nat, i = .int .i64 (ba + (j : Int)) ∧ j ≤ nw ∧ Hid (J (welL C.S (C.L.live.take q) ++ (wel C.S (ba, (nw : Int))).take j) wz) ∧ Hid (KpR wS.heap.size w4 wz)) (fun i _ => (ba + (nw : Int) - intOf i).toNat)
      case atStart => exact ⟨0, by simp, Nat.zero_le _, by have := HJ4.out; unfold Hid; simpa using this, KpR.below (Below.refl _ _) (Nat.le_trans HN2.out HK4.out.1.size)⟩
      case round =>
        obtain ⟨j, rfl, hj, HJj, HKj⟩ := hrel
        clear HJ4
        have hbox := HKj.out.box HX4.out (by decide) (by decide)
        have r0 : wr.cell? ⟨Br, 0, none⟩ = some (.int .i64 ba) := by rw [cell_of_row wr Br 0 _ _ _ hbox]; rfl
        have r1 : wr.cell? ⟨Br, 1, none⟩ = some (.int .i64 (nw : Int)) := by rw [cell_of_row wr Br 1 _ _ _ hbox]; rfl
        have e1 : IntKind.i64.wrap (ba + (nw : Int)) = ba + (nw : Int) := by rw [IntKind.wrap_i64]; omega
        have HK2 : Hid (KpR wS.heap.size w2 wr) := HK4.out.t HKj.out
        clear hbox
        by_cases hlt2 : j < nw
        · have e2 : decide (ba + (j : Int) < ba + (nw : Int)) = true := by simp; omega
          have hBnr := HK2.out.box (HK0.out.box HB.out (by decide) (by decide)) (by decide) (by decide)
          have cBn : wr.cell? ⟨Bn, 0, none⟩ = some (.pointer (some ⟨b, 0, none⟩)) := by rw [cell_of_row wr Bn 0 _ _ _ hBnr]; rfl
          have hbS : Below wS.heap.size wS wr := (HW.out.trans HK0.out.1).trans HK2.out.1
          have hSr := HS.out.keep hbS
          obtain ⟨k0, -, -⟩ := ch_k0 (show Sep w (chA b p k C.F :: spA p C.S :: lkA k p sz ca C.L :: F) wr from hSr)
          obtain ⟨⟨⟨gt, gn⟩, ge⟩, hg⟩ : ∃ y, C.S.get (ba + (j : Int)) = y := ⟨_, rfl⟩
          have HG : Hid (Calls Tryz.prog 34 #[.pointer (some ⟨p, 0, none⟩), .int .i64 (ba + (j : Int))] wr fun e w' => Below wr.heap.size wr w' ∧ e = .returned (.tuple #[.agg #[.int .i64 gt, .int .i64 gn], .int .i64 ge])) := (get_sep (Sep.rot [_] [_] hSr) (ba + (j : Int))).mono (fun e w' q => ⟨q.2.1, by rw [q.2.2, hg]⟩)
          have HGE := Hid.mk hg
          have HBR := Hid.mk hbS
          clear hBnr hSr hbS hg
          gi_wp2
          refine ⟨trivial, (callsIn_wide.2 HG.out).mono ?_⟩
          rintro e wg ⟨hbg, rfl⟩
          have hx : (C.S.get (ba + (j : Int))).1 = (gt, gn) := by rw [HGE.out]
          have htk := wel_take C.S (ba, (nw : Int)) (j := j) (by simpa using hlt2)
          simp only [hx] at htk
          have hpre := welL_prefix C.S (j := j + 1) hq1
          rw [HRG.out, htk] at hpre
          have hlen : (welL C.S (C.L.live.take q) ++ (wel C.S (ba, (nw : Int))).take j).length < (welL C.S C.L.live).length := by
            have := hpre.length_le
            simp only [List.length_append, List.length_cons, List.length_nil] at this ⊢
            omega
          have hbv : Below wr.heap.size wr (wg.alloc (.cells #[.int .i64 gt, .int .i64 gn] 34)) := hbg.alloc hbg.size _
          have hJv := HJ.out _ _ _ none HJj.out (grown_of_below hbv) (fun r e => by cases e)
          have HY := Hid.mk (hY _ (ba + (j : Int), (gt, gn)) _ hJv hlen)
          have HKv : Hid (KpR wS.heap.size w4 (wg.alloc (.cells #[.int .i64 gt, .int .i64 gn] 34))) := HKj.out.t (KpR.below hbv HBR.out.size)
          have HPRE := Hid.mk hpre
          have HTK := Hid.mk htk
          clear hbg hx htk hpre hlen hbv hJv HG HGE HBR k0 cBn HKj HJj
          obtain ⟨fn, tmps, assign, body, hyy, hR⟩ := HY.out
          unfold wenc at hyy
          gi_wp2
          refine hR.mono ?_
          rintro e W3 (⟨rfl, hJ3, hk3⟩ | ⟨rfl, hJx3⟩)
          · gi_wp2
            have HJ5 : Hid (J (welL C.S (C.L.live.take q) ++ (wel C.S (ba, (nw : Int))).take (j + 1)) W3) := by unfold Hid; rw [HTK.out, ← List.append_assoc]; exact hJ3
            have HK5 : Hid (KpR wS.heap.size w4 W3) := HKv.out.t hk3
            have e5 : ba + (j : Int) + 1 = ba + ((j + 1 : Nat) : Int) := by omega
            have e6 : (ba + (nw : Int) - (ba + (j : Int) + 1)).toNat < (ba + (nw : Int) - (ba + (j : Int))).toNat := by omega
            exact ⟨⟨j + 1, by rw [e5], hlt2, HJ5, HK5⟩, e6⟩
          · gi_wp2
            refine bodyPost_ret (results_none rfl _ _ _) rfl ?_
            exact ⟨⟨_, rfl⟩, .inr ⟨_, by rw [List.append_assoc]; exact HPRE.out, hJx3⟩⟩
        · obtain rfl : j = nw := by omega
          have e2 : decide (ba + (j : Int) < ba + (j : Int)) = false := by simp
          have HE : Hid (J (welL C.S (C.L.live.take (q + 1))) wr) := by
            have h1 := HJj.out
            have h2 := welL_snoc C.S hq1
            rw [HRG.out] at h2
            rw [List.take_of_length_le (l := wel C.S (ba, (j : Int))) (by rw [wel_len]; simp)] at h1
            unfold Hid
            rw [h2]
            exact h1
          clear HJj HKj HK4
          gi_wp2
          exact ⟨⟨q + 1, by go_num, by omega, HE, HK2⟩, by simp only [intOf]; omega⟩
    · obtain rfl : q = m := by omega
      have HE : Hid (J (welL C.S C.L.live) wr) := by
        have := HJq.out
        rw [← HM.out, List.take_length] at this
        exact this
      clear HJq HKq HROW
      gi_wp2
      go_end0
      exact ⟨⟨_, rfl⟩, .inl ⟨_, rfl, HE.out⟩⟩
end
end Go.Proofs.YtpfnnmcokbolhaaGreat
