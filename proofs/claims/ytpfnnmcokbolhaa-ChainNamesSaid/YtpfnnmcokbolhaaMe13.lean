/- Parts Xt Xu Xv, put together. -/
import Derived.Test.YtpfnnmcokbolhaaMe12
/- A chain's begin: a frame is laid. -/
namespace Go.Proofs.Ytpfnnmcokbolhaa
open Go.RowKit
set_option pp.deepTerms true
/-- a chain's parts, opened, its row's slice told -/
def chO (b p k : Nat) (lv : Value) (FV : List (Value × Fr)) (G : List Asr) : List Asr :=
  bx b (.cells #[.pointer (some ⟨p, 0, none⟩), .pointer (some ⟨k, 0, none⟩), lv] 78 (0, 0)) :: rw_ 0 99 7 lv FV.length (fcells FV) :: rowsA FV :: G
theorem chO_close {w W : World} {b p k : Nat} {lv : Value} {FV : List (Value × Fr)} {G : List Asr} (h : Sep w (chO b p k lv FV G) W) : Sep w (chA b p k (FV.map Prod.snd) :: G) W := ch_close h rfl
theorem chO_k {w W : World} {b p k : Nat} {lv : Value} {FV : List (Value × Fr)} {G : List Asr} (h : Sep w (chO b p k lv FV G) W) : W.cell? ⟨b, 0, none⟩ = some (.pointer (some ⟨p, 0, none⟩)) ∧ W.cell? ⟨b, 1, none⟩ = some (.pointer (some ⟨k, 0, none⟩)) ∧ W.cell? ⟨b, 2, none⟩ = some lv ∧ W.frozen? ⟨b, 2, none⟩ = false := ⟨Sep.cell h (List.Mem.head _) rfl, Sep.cell h (List.Mem.head _) rfl, Sep.cell h (List.Mem.head _) rfl, Sep.free h (List.Mem.head _) 2⟩
/-- the frame's box -/
def frO (v : Value) (f : Fr) : Obj := .cells #[v, .int .i64 f.lay.args, .int .i64 f.lay.res, .int .i64 f.lay.height, .int .i64 f.base, .int .i64 f.ops, .bool f.own] 99 (0, 0)
def layO (v : Value) (l : Lay) : Obj := .cells #[v, .int .i64 l.args, .int .i64 l.res, .int .i64 l.height] 31 (0, 0)
theorem topOf_wide {l : List (Int × Int)} (h : ∀ r ∈ l, 0 ≤ r.1 ∧ r.1 ≤ 1152921504606846976 ∧ 0 ≤ r.2 ∧ r.2 ≤ 1048576) : 0 ≤ (topOf l).1.1 ∧ (topOf l).1.1 ≤ 1152921504606846976 ∧ 0 ≤ (topOf l).1.2 ∧ (topOf l).1.2 ≤ 1048576 := by
  unfold topOf
  split
  · rename_i r hr
    exact h r (List.mem_of_getLast? hr)
  · simp
section
variable {w W : World} {F : List Asr} {b p k : Nat} {sz ca : Int} {C : Ch} {lv : Value} {FV FV2 : List (Value × Fr)} {A B : Asr}
theorem chO_top (h : Sep w (chO b p k lv FV (spA p C.S :: lkA k p sz ca C.L :: F)) W) (hl : C.L.live.length ≤ 1000000) : Calls Try.prog 40 #[.pointer (some ⟨k, 0, none⟩)] W fun e w' => Below W.heap.size W w' ∧ e = .returned (.tuple #[.agg #[.int .i64 (topOf C.L.live).1.1, .int .i64 (topOf C.L.live).1.2], .bool (topOf C.L.live).2]) := by
  refine (top_sep (F := bx b _ :: rw_ 0 99 7 lv FV.length (fcells FV) :: rowsA FV :: F) (Sep.rot [_, _, _] [_, _] h) hl).mono ?_
  rintro e w' ⟨-, h2, h3⟩
  exact ⟨h2, h3⟩
theorem chO_push (h : Sep w (chO b p k lv FV (spA p C.S :: lkA k p sz ca C.L :: F)) W) (ok : ChOk C) (m : Int) : Calls Try.prog 37 #[.pointer (some ⟨k, 0, none⟩), .int .i64 m] W fun e w' => Sep w (chO b p k lv FV (spA p (pushL C.S C.L sz m).2.1 :: lkA k p sz ca (pushL C.S C.L sz m).2.2 :: F)) w' ∧ e = .returned (.tuple #[.agg #[.int .i64 (pushL C.S C.L sz m).1.1.1, .int .i64 (pushL C.S C.L sz m).1.1.2], .int .i64 (pushL C.S C.L sz m).1.2]) := by
  refine (push_sep (F := bx b _ :: rw_ 0 99 7 lv FV.length (fcells FV) :: rowsA FV :: F) (Sep.rot [_, _, _] [_, _] h) m ok.live ok.kept ok.last).mono ?_
  rintro e w' ⟨h2, h3⟩
  exact ⟨Sep.rot [_, _] [_, _, _] h2, h3⟩
theorem chO_put {S : Sp} (h : Sep w (chO b p k lv FV (spA p S :: F)) W) (a t n : Int) : Calls Try.prog 47 #[.pointer (some ⟨p, 0, none⟩), .int .i64 a, .agg #[.int .i64 t, .int .i64 n]] W fun e w' => Sep w (chO b p k lv FV (spA p (S.put a (t, n)).2 :: F)) w' ∧ e = .returned (.int .i64 (S.put a (t, n)).1) := by
  refine (put_sep (F := bx b _ :: rw_ 0 99 7 lv FV.length (fcells FV) :: rowsA FV :: F) (Sep.rot [_, _, _] [_] h) a t n).mono ?_
  rintro e w' ⟨h2, h3⟩
  exact ⟨Sep.rot [_] [_, _, _] h2, h3⟩
/-- a part that is new stands behind the link -/
theorem chO_more (h : Sep w (chO b p k lv FV (A :: B :: F)) W) (o : Obj) : Sep w (chO b p k lv FV (A :: B :: bx W.heap.size o :: F)) (W.alloc o) := Sep.rot [_] [_, _, _, _, _] (Sep.alloc h o)
theorem chO_lose {D : Asr} (h : Sep w (chO b p k lv FV (A :: B :: D :: F)) W) : Sep w (chO b p k lv FV (A :: B :: F)) W := Sep.lose 5 h
theorem chO_storeV {q : Nat} {cs : Array Value} {T : TypeId} (h : Sep w (chO b p k lv FV (A :: B :: bx q (.cells cs T) :: F)) W) (j : Nat) (u : Value) : Sep w (chO b p k lv FV (A :: B :: bx q (.cells (cs.setIfInBounds j u) T) :: F)) (W.setCell ⟨q, j, none⟩ u) :=
  Sep.rot [_] [_, _, _, _, _] (Sep.store (Sep.pick (l := _ :: _ :: _ :: _ :: _ :: _ :: F) 5 h rfl) j u)
theorem frO_cells {q : Nat} {v : Value} {f : Fr} {l : List Asr} (h : Sep w l W) (hm : bx q (frO v f) ∈ l) : (∀ i u, (fcell v f)[i]? = some u → W.cell? ⟨q, i, none⟩ = some u) ∧ ∀ j, W.frozen? ⟨q, j, none⟩ = false := by
  have B := Sep.at h hm
  refine ⟨fun i u hi => ?_, fun j => frozen_of_row _ _ j _ _ B⟩
  rw [cell_of_row _ _ i _ _ _ B, ← hi]
  simp [fcell]
theorem layO_cells {q : Nat} {v : Value} {f : Lay} {l : List Asr} (h : Sep w l W) (hm : bx q (layO v f) ∈ l) : W.cell? ⟨q, 0, none⟩ = some v ∧ W.cell? ⟨q, 1, none⟩ = some (.int .i64 f.args) ∧ W.cell? ⟨q, 2, none⟩ = some (.int .i64 f.res) ∧ W.cell? ⟨q, 3, none⟩ = some (.int .i64 f.height) := by
  have B := Sep.at h hm
  exact ⟨by rw [cell_of_row _ _ 0 _ _ _ B]; rfl, by rw [cell_of_row _ _ 1 _ _ _ B]; rfl, by rw [cell_of_row _ _ 2 _ _ _ B]; rfl, by rw [cell_of_row _ _ 3 _ _ _ B]; rfl⟩
theorem infoI : (Try.prog.info? 3).map (fun i => (i.zero, i.size, i.bytes)) = some (some (.int .i64 0), 1, 8) := by kernel_rfl
theorem chO_grow {S : Sp} {L : Lk} {v' sv : Value} {f : Fr} {B0 B1 : Nat} {o0 o1 : Obj} (h : Sep w (rw_ 0 99 7 v' (FV.length + 1) (fcells FV ++ fcell sv f) :: bx b (.cells #[.pointer (some ⟨p, 0, none⟩), .pointer (some ⟨k, 0, none⟩), lv] 78 (0, 0)) :: rowsA FV :: spA p S :: lkA k p sz ca L :: bx B1 o1 :: rw_ 0 3 1 sv f.lay.slots.length (icells f.lay.slots) :: bx B0 o0 :: F) W) :
    Sep w (chA b p k (f :: FV.map Prod.snd) :: spA p S :: lkA k p sz ca L :: F) (W.setCell ⟨b, 2, none⟩ v') := by
  have h1 := Sep.store (h.perm (List.Perm.swap _ _ _)) 2 v'
  have h2 := Sep.lose 5 (Sep.lose 7 h1)
  have h3 := Sep.pick 3 (Sep.pick 5 h2 rfl) rfl
  have h4 := Sep.sepI (h3.perm (List.Perm.swap _ _ _))
  have h5 := Sep.rot [_] [_, _] h4
  exact ch_close (l := (sv, f) :: FV) (by rw [fcells_cons]; exact h5) rfl
theorem infoFr : (Try.prog.info? 99).map (fun i => (i.zero, i.size, i.bytes)) = some (some (.agg #[.slice none 0 0, .int .i64 0, .int .i64 0, .int .i64 0, .int .i64 0, .int .i64 0, .bool false]), 7, 72) := by kernel_rfl
theorem seven_new (X : World) (a0 a1 a2 a3 a4 a5 a6 : Value) (T : TypeId) : ∀ j u, [a0, a1, a2, a3, a4, a5, a6][j]? = some u → ((X.alloc (.cells #[a0, a1, a2, a3, a4, a5, a6] T)).drew).cell? ((⟨X.heap.size, 0, none⟩ : Addr).add j) = some u := by
  intro j u hu
  have hj := (List.getElem?_eq_some_iff.1 hu).1
  have hadd : (⟨X.heap.size, 0, none⟩ : Addr).add j = ⟨X.heap.size, j, none⟩ := by cases j <;> simp [Addr.add]
  rw [hadd]
  show (X.alloc _).cell? _ = _
  rw [cell_of_row _ X.heap.size j _ _ _ (heap_alloc_new X _)]
  simpa using hu
theorem fillV_len : ∀ (ts : List Int) (xs : List (Int × Int)), (fillV ts xs).length = ts.length
  | [], _ => rfl
  | _ :: ts, [] => by simp [fillV, fillV_len ts []]
  | _ :: ts, _ :: xs => by simp [fillV, fillV_len ts xs]
theorem fillV_get : ∀ (ts : List Int) (xs : List (Int × Int)) (j : Nat), (fillV ts xs)[j]? = (ts[j]?).map (fun t => (xs[j]?).getD (t, 0))
  | [], _, j => by simp [fillV]
  | t :: ts, [], 0 => by simp [fillV]
  | t :: ts, [], j + 1 => by simp [fillV, fillV_get ts [] j]
  | t :: ts, a :: xs, 0 => by simp [fillV]
  | t :: ts, a :: xs, j + 1 => by simp [fillV, fillV_get ts xs j]
theorem putAll_snoc (S : Sp) (b : Int) (vs : List (Int × Int)) (v : Int × Int) : putAll S b (vs ++ [v]) = ((putAll S b vs).put (b + vs.length) v).2 := by
  induction vs generalizing S b with
  | nil => simp [putAll]
  | cons u vs ih =>
    show putAll (S.put b u).2 (b + 1) (vs ++ [v]) = _
    rw [ih]
    have : b + 1 + (vs.length : Int) = b + ((u :: vs).length : Int) := by simp; omega
    rw [this]
    rfl
theorem fill_step {S : Sp} {b : Int} {ts : List Int} {xs : List (Int × Int)} {j : Nat} {v : Int × Int} (hj : (fillV ts xs)[j]? = some v) : putAll S b ((fillV ts xs).take (j + 1)) = ((putAll S b ((fillV ts xs).take j)).put (b + j) v).2 := by
  have hl := (List.getElem?_eq_some_iff.1 hj).1
  rw [List.take_add_one, hj]
  show putAll S b (_ ++ [v]) = _
  rw [putAll_snoc, List.length_take, Nat.min_eq_left (by omega)]
set_option maxRecDepth 100000 in
set_option maxHeartbeats 4000000 in
theorem cbegin_O {sv av : Value} {l : Lay} {at_ link : Int} {args : List (Int × Int)} {fid : FuncId} {caps : Array Value} {σ : Sp → Sp} {first : Ch → Ch}
    (h : Sep w (chO b p k lv FV (spA p C.S :: lkA k p sz ca C.L :: F)) W) (hF : C.F = FV.map Prod.snd) (ok : ChOk C) (hk : layOk l = true)
    (hsl : ∀ W', Sep w F W' → Rdi W' sv l.slots) (hav : ∀ W', Sep w F W' → Rd W' av args) (hargs : args.length ≤ 1000000)
    (hat : 0 ≤ at_ ∧ at_ ≤ 1152921504606850000) (hlk : 0 ≤ link ∧ link ≤ 1048576)
    (hpb : (pushL C.S C.L sz l.words).1.2 = 0 → 0 ≤ (pushL C.S C.L sz l.words).1.1.1 ∧ (pushL C.S C.L sz l.words).1.1.1 ≤ 1152921504606850000)
    (hfirst : ∀ S L, first ⟨S, L, FV.map Prod.snd⟩ = ⟨σ S, L, FV2.map Prod.snd⟩) (hlen : FV2.length = FV.length)
    (hcaps : (fid = 44 ∧ caps = #[]) ∨ (fid = 49 ∧ ∃ u0 u1 u2 u3, caps = #[u0, u1, u2, u3]))
    (HC : ∀ (A B : Asr) (S' : Sp) (L' : Lk) (W' : World), Sep w (chO b p k lv FV (spA p S' :: lkA k p sz ca L' :: A :: B :: F)) W' → Calls Try.prog fid caps W' fun e w' => (∃ u, e = .returned u) ∧ Sep w (chO b p k lv FV2 (spA p (σ S') :: lkA k p sz ca L' :: A :: B :: F)) w') :
    Calls Try.prog 43 #[.pointer (some ⟨b, 0, none⟩), layV sv l, .int .i64 at_, .int .i64 link, av, .func (.func fid) #[] caps] W fun e w' => Sep w (chP b p k sz ca (beginC sz C l at_ link args first).2 F) w' ∧ e = .returned (.int .i64 (beginC sz C l at_ link args first).1) := by
  obtain ⟨-, hn, a0, a1, r0, r1, h5, h6⟩ := (layOk_iff l).1 hk
  obtain ⟨n, hn'⟩ : ∃ n, l.slots.length = n := ⟨_, rfl⟩
  have hn64 : n ≤ 64 := hn' ▸ hn
  have hw0 : l.words = (n : Int) + l.height + 1 := by unfold Lay.words; rw [hn']
  have h1 := chO_more (chO_more h (layO sv l)) (frO sv ⟨l, at_, 0, false⟩)
  obtain ⟨ao, c, hsv⟩ := (hsl _ (Sep.sub h (List.sublist_append_right [_, _, _, _, _] F))).shape
  subst hsv
  rw [hn'] at h1 hsl ⊢
  obtain ⟨aa, cc, hav'⟩ := (hav _ (Sep.sub h (List.sublist_append_right [_, _, _, _, _] F))).shape
  subst hav'
  obtain ⟨m, hm⟩ : ∃ m, args.length = m := ⟨_, rfl⟩
  rw [hm] at hav hargs ⊢
  have htw := topOf_wide (fun r hr => ok.wide r (List.mem_append.2 (.inl hr)))
  have HSL := Hid.mk hsl
  have HAV := Hid.mk hav
  have HCC := Hid.mk HC
  have HFI := Hid.mk hfirst
  have HOK := Hid.mk ok
  have HLK := Hid.mk hk
  have HFF := Hid.mk hF
  have HN := Hid.mk hn'
  have HM := Hid.mk hm
  simp only [World.size_alloc] at h1
  have HSUB : Hid (∀ {FV : List (Value × Fr)} {A B D E : Asr} {W'}, Sep w (chO b p k lv FV (A :: B :: D :: E :: F)) W' → Sep w F W') := fun {FV A B D E W'} q => Sep.sub q (List.sublist_append_right [_, _, _, _, _, _, _] F)
  have hWd := Hid.mk (lWords_any (sv := .slice ao n c) (l := l) (hsl _ (Sep.sub h1 (List.sublist_append_right [_, _, _, _, _, _, _] F))) hk)
  unfold layV at hWd ⊢
  have H1 := Hid.mk h1
  clear hsl hav HC hfirst h h1 hF hk hn' hm
  go_enter Try.func43, Try.ntmps43
  go_wp2_with fail
  refine hWd.out.mono ?_
  rintro e w2 ⟨hb2, rfl⟩
  have h2 := H1.out.keep hb2
  obtain ⟨k0, k1, -, -⟩ := chO_k h2
  have HT := Hid.mk (chO_top h2 HOK.out.live)
  have H2 := Hid.mk h2
  rw [hw0]
  clear hWd H1 hb2 h2
  go_wp2_with fail
  refine HT.out.mono ?_
  rintro e w3 ⟨hb3, rfl⟩
  have h3 := H2.out.keep hb3
  have H3 := Hid.mk (chO_lose (chO_more h3 (.cells #[.int .i64 (topOf C.L.live).1.1, .int .i64 (topOf C.L.live).1.2] 88)))
  obtain ⟨⟨t1, t2⟩, ht⟩ : ∃ t, (topOf C.L.live).1 = t := ⟨_, rfl⟩
  rw [ht] at htw H3
  simp only at htw H3
  have d0 : (w3.alloc (.cells #[.int .i64 t1, .int .i64 t2] 88)).cell? ⟨w3.heap.size, 0, none⟩ = some (.int .i64 t1) := by simp
  have k1 := keep_be hb3 k1
  have k1 := alloc_cell (o := .cells #[.int .i64 t1, .int .i64 t2] 88) k1
  rw [ht]
  have HBE : Hid (beginC sz C l at_ link args first = if t1 + t2 < at_ + l.words then
    if (pushL C.S C.L sz l.words).1.2 = 0 then
      (0, layIn (first ⟨(pushL C.S C.L sz l.words).2.1, (pushL C.S C.L sz l.words).2.2, C.F⟩) l (pushL C.S C.L sz l.words).1.1.1 true link args)
    else ((pushL C.S C.L sz l.words).1.2, ⟨(pushL C.S C.L sz l.words).2.1, (pushL C.S C.L sz l.words).2.2, C.F⟩)
    else (0, layIn (first C) l at_ false link args)) := by unfold Hid beginC; rw [ht]
  have HPU := Hid.mk (chO_push H3.out HOK.out l.words)
  have HPB := Hid.mk hpb
  obtain ⟨⟨⟨⟨y1, y2⟩, ey⟩, S1, L1⟩, hp⟩ : ∃ P, pushL C.S C.L sz l.words = P := ⟨_, rfl⟩
  rw [hp] at HPU HPB HBE
  simp only at HPU HPB HBE
  clear hp
  have s1 : IntKind.i64.wrap (at_ + ((n : Int) + l.height + 1)) = at_ + ((n : Int) + l.height + 1) := by rw [IntKind.wrap_i64]; omega
  have s2 : IntKind.i64.wrap (t1 + t2) = t1 + t2 := by rw [IntKind.wrap_i64]; omega
  rw [hw0] at HPU
  clear HT H2 hb3 h3 k0 ht hpb d0
  obtain ⟨X3, hX3⟩ : ∃ X3, X3 = w3.alloc (.cells #[.int .i64 t1, .int .i64 t2] 88) := ⟨_, rfl⟩
  rw [← hX3] at k1 H3 HPU
  have e0 : X3.cell? ⟨w3.heap.size, 0, none⟩ = some (.int .i64 t1) := by rw [hX3]; simp
  have e1 : X3.cell? ⟨w3.heap.size, 1, none⟩ = some (.int .i64 t2) := by rw [hX3]; simp
  go_upto_region 4 with (fail)
  rw [← hX3]
  clear hX3
  go_upto_if 45 with (fail)
  go_cut [] (fun X => Hid (∃ b1 own S1 L1, Sep w (chO b p k lv FV (spA p S1 :: lkA k p sz ca L1 :: bx (W.heap.size + 1) (frO (.slice ao n c) ⟨l, b1, 0, own⟩) :: bx W.heap.size (layO (.slice ao n c) l) :: F)) X ∧ 0 ≤ b1 ∧ b1 ≤ 1152921504606850000 ∧ beginC sz C l at_ link args first = (0, layIn (first ⟨S1, L1, C.F⟩) l b1 own link args)))
  case first =>
    by_cases q : t1 + t2 < at_ + ((n : Int) + l.height + 1)
    · have z1 : decide (at_ + ((n : Int) + l.height + 1) > t1 + t2) = true := by simpa using q
      have z1' : decide (t1 + t2 < at_ + ((n : Int) + l.height + 1)) = true := by simpa using q
      have hbe := HBE.out
      rw [hw0, if_pos q] at hbe
      clear q HBE
      rw [z1']
      go_wp2_with fail
      refine HPU.out.mono ?_
      rintro e w4 ⟨h4, rfl⟩
      have h5 := chO_lose (chO_more h4 (.cells #[.int .i64 y1, .int .i64 y2] 88))
      obtain ⟨fc, fz⟩ := frO_cells (q := W.heap.size + 1) (v := .slice ao n c) (f := ⟨l, at_, 0, false⟩) h5 (by simp [chO])
      have c4 := fc 4 _ rfl
      have c6 := fc 6 _ rfl
      have z4 := fz 4
      have z6 := fz 6
      clear fc fz
      by_cases q2 : ey = 0
      · subst q2
        have hb1 := HPB.out rfl
        rw [if_pos rfl] at hbe
        have h6 := chO_storeV (chO_storeV h5 4 (.int .i64 y1)) 6 (.bool true)
        have HE := Hid.mk h6
        clear HPU h4 h5 h6
        go_wp2_with fail
        go_meet
        case rel => exact ⟨y1, true, S1, L1, HE.out, hb1.1, hb1.2, hbe⟩
      · have z9 : (ey != 0) = true := by simpa using q2
        rw [if_neg q2] at hbe
        have HE : Hid (Sep w (chP b p k sz ca ⟨S1, L1, C.F⟩ F) (w4.alloc (.cells #[.int .i64 y1, .int .i64 y2] 88))) := by
          have := Sep.lose 3 (Sep.lose 3 (chO_close h5))
          unfold Hid chP
          rw [HFF.out]
          exact this
        clear HPU h4 h5 q2 HPB
        go_wp2_with fail
        go_ret
        rw [hbe]
        exact ⟨HE.out, rfl⟩
    · have z1 : decide (at_ + ((n : Int) + l.height + 1) > t1 + t2) = false := by simpa using q
      have z1' : decide (t1 + t2 < at_ + ((n : Int) + l.height + 1)) = false := by simpa using q
      have hbe := HBE.out
      rw [hw0, if_neg q] at hbe
      clear q HBE HPU
      rw [z1']
      go_wp2_with fail
      go_meet
      case rel => exact ⟨at_, false, C.S, C.L, H3.out, hat.1, hat.2, hbe⟩
  case rest =>
    obtain ⟨b1, own, S1, L1, h4, hb0, hb1, hbe⟩ := hcut.out
    have HBE := Hid.mk hbe
    have HCW := Hid.mk (HCC.out _ _ _ _ _ h4)
    clear hcut hbe h4 HCC k1 H3 HPU HPB e0 e1
    apply_assumption
    go_upto_region 9 with (fail)
    go_cut [] (fun X => Hid (Sep w (chO b p k lv FV2 (spA p (σ S1) :: lkA k p sz ca L1 :: bx (W.heap.size + 1) (frO (.slice ao n c) ⟨l, b1, 0, own⟩) :: bx W.heap.size (layO (.slice ao n c) l) :: F)) X))
    case first =>
      rcases hcaps with ⟨rfl, rfl⟩ | ⟨rfl, u0, u1, u2, u3, rfl⟩
      all_goals
        go_wp2_with fail
        refine HCW.out.mono ?_
        rintro e w5 ⟨⟨u, rfl⟩, h5⟩
        have H5 := Hid.mk h5
        clear HCW h5
        go_wp2_with fail
        go_meet
        case rel => exact H5.out
    case rest =>
    have H5 := hcut
    clear hcut HCW
    apply_assumption
    go_upto_region 10 with (fail)
    go_cut [] (fun X => Hid (∃ sv', Sep w (chO b p k lv FV2 (spA p (σ S1) :: lkA k p sz ca L1 :: bx (W.heap.size + 1) (frO sv' ⟨l, b1, 0, own⟩) :: rw_ 0 3 1 sv' n (icells l.slots) :: bx W.heap.size (layO (.slice ao n c) l) :: F)) X))
    case first =>
      obtain ⟨i0, hi, hz0, hz1, hz2⟩ := info_parts infoI
      have h5 := H5.out
      obtain ⟨d0, -⟩ := layO_cells (q := W.heap.size) (v := .slice ao n c) (f := l) h5 (by simp [chO])
      obtain ⟨fc, fz⟩ := frO_cells (q := W.heap.size + 1) (v := .slice ao n c) (f := ⟨l, b1, 0, own⟩) h5 (by simp [chO])
      have c0 := fc 0 _ rfl
      have z0 := fz 0
      have hrd := HSL.out _ (HSUB.out h5)
      have hrow : ∀ X v', Below wc.heap.size wc X → X.ownsRow wc.heap.size 3 1 v' n (icells l.slots) → Sep w (chO b p k lv FV2 (spA p (σ S1) :: lkA k p sz ca L1 :: bx (W.heap.size + 1) (frO v' ⟨l, b1, 0, own⟩) :: rw_ 0 3 1 v' n (icells l.slots) :: bx W.heap.size (layO (.slice ao n c) l) :: F)) (X.setCell ⟨W.heap.size + 1, 0, none⟩ v') := fun X v' hb hr =>
        chO_storeV (Sep.rot [_] [_, _, _, _, _, _] (h5.row hb hr)) 0 v'
      have HROW := Hid.mk hrow
      have hlt : W.heap.size + 1 < wc.heap.size := cell_lt c0
      have hlt2 : W.heap.size < wc.heap.size := cell_lt d0
      have q0 := alloc_cell (o := .cells #[] 3) d0
      have q1 := alloc_cell (o := .cells #[] 3) c0
      have q2 := frozen_al (o := .cells #[] 3) z0 hlt
      have HO : Hid ((wc.alloc (.cells #[] 3)).ownsRow wc.heap.size 3 1 (.slice (some ⟨wc.heap.size, 0, none⟩) 0 0) 0 []) := World.ownsRow_lit wc (base := wc.heap.size) (e := 3) (size := 1) #[] 0 (Nat.le_refl _) (by decide) rfl
      rcases hrd.ad with ⟨e, e2⟩ | ⟨ad, c2, e, hcs⟩
      · simp only [Value.slice.injEq] at e
        obtain ⟨rfl, rfl, rfl⟩ := e
        have HR2 := Hid.mk (HROW.out (wc.alloc (.cells #[] 3)) (.slice (some ⟨wc.heap.size, 0, none⟩) 0 0) ((Below.refl _ _).alloc (Nat.le_refl _) _) (by rw [e2]; exact HO.out))
        rw [World.setCell_alloc_past _ _ _ _ hlt] at HR2
        clear HROW hrow h5 H5 fc fz HSL HAV e2
        go_wp2_with fail
        go_meet
        case rel => exact ⟨_, HR2.out⟩
      · rw [HN.out] at e
        simp only [Value.slice.injEq, true_and] at e
        obtain ⟨rfl, rfl⟩ := e
        have HNW : Hid (∀ j u, (icells l.slots)[j]? = some u → (wc.alloc (.cells #[] 3)).cell? (ad.add j) = some u) := fun j u hu => alloc_cell (hcs j u hu)
        have HLN : Hid ((icells l.slots).length = n * 1) := by unfold Hid; simp [icells, HN.out]
        clear hrow h5 H5 fc fz HSL HAV hcs
        go_wp2_with (at_builtin; refine wpList_append_own _ rfl (.tmp 64) (.tmp 66) 29 rfl wc.heap.size 3 i0 (.int .i64 0) 1 8 Try.underlying29 hi hz0 hz1 hz2 rfl (by decide) _ 0 [] rfl HO.out ad n c (icells l.slots) rfl ?c1 ?c2 ?c3 ?c4 ?c5 ?c6 ?_)
        case c1 => exact HLN.out
        case c2 => exact HNW.out
        case c3 => intro u hu; obtain ⟨x, -, rfl⟩ := List.mem_map.1 hu; rfl
        case c4 => unfold maxLen; omega
        case c5 => omega
        case c6 => simp
        intro v' w' hown hgrow hnn
        have HB6 : Below wc.heap.size wc w' := ((Below.refl _ _).alloc (Nat.le_refl _) _).grown hgrow (by simp) (by intro k hk; simp [Value.ownBlock] at hk; omega)
        have hk6 : Kp [wc.heap.size] (wc.alloc (.cells #[] 3)) w' := (Kp.refl _ _).grown hgrow (by intro q hq; simp [Value.ownBlock] at hq; exact .inl (by simp [hq]))
        have HR2 := Hid.mk (HROW.out w' v' HB6 (by simpa using hown))
        have q3 := keep_be HB6 c0
        have q4 := (HB6.frozen (p := ⟨W.heap.size + 1, 0, none⟩) hlt).trans z0
        obtain ⟨ao2, c2, rfl⟩ := own_shape hown
        clear HROW hown hgrow hnn HB6 hk6 HNW HLN HO
        go_wp2_with fail
        go_meet
        case rel => exact ⟨_, HR2.out⟩
    case rest =>
    obtain ⟨sv', h6⟩ := hcut.out
    obtain ⟨av, cv, rfl⟩ := own_shape (h6.owns (base := 0) (T := 3) (n := 1) (v := sv') (m := n) (xs := icells l.slots) (by simp [chO]))
    have k0 := (chO_k h6).1
    obtain ⟨fc, fz⟩ := frO_cells (q := W.heap.size + 1) (v := .slice av n cv) (f := ⟨l, b1, 0, own⟩) h6 (by simp [chO])
    have c0 := fc 0 _ rfl
    have H6 := Hid.mk h6
    clear hcut H5 h6 fc fz
    apply_assumption
    go_upto_block 0 with (fail)
    go_cut [] (fun X => Hid (Sep w (chO b p k lv FV2 (spA p (putAll (σ S1) b1 (fillV l.slots args)) :: lkA k p sz ca L1 :: bx (W.heap.size + 1) (frO (.slice av n cv) ⟨l, b1, 0, own⟩) :: rw_ 0 3 1 (.slice av n cv) n (icells l.slots) :: bx W.heap.size (layO (.slice ao n c) l) :: F)) X))
    case first =>
      clear c0 k0
      rcases Nat.eq_zero_or_pos n with h0 | h0
      · subst h0
        have e0 : l.slots = [] := List.eq_nil_of_length_eq_zero HN.out
        have HE : Hid (Sep w (chO b p k lv FV2 (spA p (putAll (σ S1) b1 (fillV l.slots args)) :: lkA k p sz ca L1 :: bx (W.heap.size + 1) (frO (.slice av 0 cv) ⟨l, b1, 0, own⟩) :: rw_ 0 3 1 (.slice av 0 cv) 0 (icells l.slots) :: bx W.heap.size (layO (.slice ao 0 c) l) :: F)) wc) := by rw [e0]; rw [e0] at H6; exact H6
        clear H6 e0
        go_wp2_with fail
        refine wp_loop_rounds 1 ?_; rw [rounds_succ]
        go_wp2_with fail
        go_meet
        case rel => exact HE.out
      · obtain ⟨gb, cc9, e9⟩ := row_shape (H6.out.owns (base := 0) (T := 3) (n := 1) (v := .slice av n cv) (m := n) (xs := icells l.slots) (by simp [chO])) h0
        simp only [Value.slice.injEq, true_and] at e9
        obtain ⟨rfl, rfl⟩ := e9
        go_wp2_with fail
        go_loopw [79] (fun i wr => ∃ j : Nat, i = .int .i64 j ∧ j ≤ n ∧ Hid (Sep w (chO b p k lv FV2 (spA p (putAll (σ S1) b1 ((fillV l.slots args).take j)) :: lkA k p sz ca L1 :: bx (W.heap.size + 1) (frO (.slice (some ⟨gb, 0, none⟩) n cv) ⟨l, b1, 0, own⟩) :: rw_ 0 3 1 (.slice (some ⟨gb, 0, none⟩) n cv) n (icells l.slots) :: bx W.heap.size (layO (.slice ao n c) l) :: F)) wr)) (fun i _ => n - (intOf i).toNat)
        case atStart => exact ⟨0, rfl, by omega, H6.out⟩
        case round =>
          obtain ⟨j, rfl, hj, hs⟩ := hrel
          by_cases hlt : j < n
          · have hj' : j < l.slots.length := by have := HN.out; omega
            obtain ⟨t, ht⟩ : ∃ t, l.slots[j] = t := ⟨_, rfl⟩
            have hkt : knownB t = true := by
              have := ((layOk_iff l).1 HLK.out).1
              rw [List.all_eq_true] at this
              exact this t (by rw [← ht]; exact List.getElem_mem hj')
            have ho := hs.out.owns (base := 0) (T := 3) (n := 1) (v := .slice (some ⟨gb, 0, none⟩) n cv) (m := n) (xs := icells l.slots) (by simp [chO])
            have c1 := row_cell ho (j := j) (show (icells l.slots)[j]? = some (.int .i64 t) by simp [icells, hj', ht])
            have HZ := Hid.mk (vZero_any t hkt wr)
            have hfj : (fillV l.slots args)[j]? = some ((args[j]?).getD (t, 0)) := by rw [fillV_get, List.getElem?_eq_getElem hj', ht]; rfl
            have HFJ := Hid.mk hfj
            have sw : IntKind.i64.wrap (b1 + (j : Int)) = b1 + (j : Int) := by rw [IntKind.wrap_i64]; omega
            clear ho ht hkt hfj
            go_wp2_with fail
            refine HZ.out.mono ?_
            rintro e w7 ⟨hb7, rfl⟩
            have h7 := hs.out.keep hb7
            by_cases hjm : j < m
            · have hja : j < args.length := by have := HM.out; omega
              obtain ⟨ab, ab2, ac, e8, hab, hac⟩ := (HAV.out _ (Sep.sub h7 (List.sublist_append_right [_, _, _, _, _, _, _, _] F))).some (by omega)
              rw [HM.out] at e8
              simp only [Value.slice.injEq, true_and] at e8
              obtain ⟨rfl, rfl⟩ := e8
              obtain ⟨v1, hv1⟩ : ∃ v1, args[j].1 = v1 := ⟨_, rfl⟩
              obtain ⟨v2, hv2⟩ : ∃ v2, args[j].2 = v2 := ⟨_, rfl⟩
              have x0 := fun o => alloc_cell (o := o) (hac j hja).1
              have x1 := fun o => alloc_cell (o := o) (hac j hja).2
              rw [hv1] at x0
              rw [hv2] at x1
              have zz : decide ((j : Int) < (m : Int)) = true := by simpa using hjm
              have HFJ : Hid ((fillV l.slots args)[j]? = some (v1, v2)) := by
                have := HFJ.out
                rw [List.getElem?_eq_getElem hja] at this
                rw [← hv1, ← hv2]
                exact this
              clear hac hab hv1 hv2 HAV
              have h8 := h7.keep ((Below.refl w7.heap.size w7).alloc (Nat.le_refl _) (.cells #[.int .i64 v1, .int .i64 v2] 34))
              obtain ⟨fc, -⟩ := frO_cells (q := W.heap.size + 1) (v := .slice (some ⟨gb, 0, none⟩) n cv) (f := ⟨l, b1, 0, own⟩) h8 (by simp [chO])
              have c4 := fc 4 _ rfl
              have HP := chO_put h8 (b1 + j) (v1) (v2)
              rw [← fill_step HFJ.out] at HP
              have HP := Hid.mk HP
              clear HZ h7 h8 fc hb7 hs H6 HFJ
              go_wp2_with fail
              refine HP.out.mono ?_
              rintro e w8 ⟨h9, rfl⟩
              have H9 := Hid.mk h9
              clear HP h9
              go_wp2_with fail
              exact ⟨⟨j + 1, by go_num, by omega, H9.out⟩, by simp [intOf]; omega⟩
            · have zz : decide ((j : Int) < (m : Int)) = false := by simpa using hjm
              have HFJ : Hid ((fillV l.slots args)[j]? = some (t, 0)) := by
                have := HFJ.out
                have e9 : args[j]? = none := List.getElem?_eq_none (by have := HM.out; omega)
                rw [e9] at this
                exact this
              have h8 := h7.keep ((Below.refl w7.heap.size w7).alloc (Nat.le_refl _) (.cells #[.int .i64 t, .int .i64 0] 34))
              obtain ⟨fc, -⟩ := frO_cells (q := W.heap.size + 1) (v := .slice (some ⟨gb, 0, none⟩) n cv) (f := ⟨l, b1, 0, own⟩) h8 (by simp [chO])
              have c4 := fc 4 _ rfl
              have HP := chO_put h8 (b1 + j) (t) (0)
              rw [← fill_step HFJ.out] at HP
              have HP := Hid.mk HP
              clear HZ h7 h8 fc hb7 hs H6 HFJ
              go_wp2_with fail
              refine HP.out.mono ?_
              rintro e w8 ⟨h9, rfl⟩
              have H9 := Hid.mk h9
              clear HP h9
              go_wp2_with fail
              exact ⟨⟨j + 1, by go_num, by omega, H9.out⟩, by simp [intOf]; omega⟩
          · obtain rfl : j = n := by omega
            have HE : Hid (Sep w (chO b p k lv FV2 (spA p (putAll (σ S1) b1 (fillV l.slots args)) :: lkA k p sz ca L1 :: bx (W.heap.size + 1) (frO (.slice (some ⟨gb, 0, none⟩) j cv) ⟨l, b1, 0, own⟩) :: rw_ 0 3 1 (.slice (some ⟨gb, 0, none⟩) j cv) j (icells l.slots) :: bx W.heap.size (layO (.slice ao j c) l) :: F)) wr) := by
              have := hs.out
              rwa [List.take_of_length_le (by rw [fillV_len, HN.out]; exact Nat.le_refl _)] at this
            clear hs H6
            go_wp2_with fail
            go_meet
            case rel => exact HE.out
    case rest =>
    have H7 := hcut
    have h7 := hcut.out
    obtain ⟨fc, -⟩ := frO_cells (q := W.heap.size + 1) (v := .slice av n cv) (f := ⟨l, b1, 0, own⟩) h7 (by simp [chO])
    have hfr : FrAt wc (W.heap.size + 1) 0 (.slice av n cv) ⟨l, b1, 0, own⟩ := by
      refine ⟨fun i u hi => by rw [Nat.zero_add]; exact fc i u hi, ?_⟩
      exact Rdi.of_row (h7.owns (base := 0) (T := 3) (n := 1) (v := .slice av n cv) (m := n) (xs := icells l.slots) (by simp [chO])) HN.out.symm
    have hfo : FrOk ⟨l, b1, 0, own⟩ := ⟨HLK.out, Int.le_refl _, h5, hb0, by show b1 ≤ _; omega⟩
    have HLN := Hid.mk (flink_any hfr hfo)
    obtain ⟨S2, hS2⟩ : ∃ S2, putAll (σ S1) b1 (fillV l.slots args) = S2 := ⟨_, rfl⟩
    rw [hS2] at H7
    have HS2 := Hid.mk hS2
    clear hcut h7 fc hfr hfo H6 c0 k0 hS2 HSL HAV
    apply_assumption
    go_wp2_with fail
    refine HLN.out.mono ?_
    rintro e w9 ⟨hb9, rfl⟩
    have H9 := Hid.mk (H7.out.keep hb9)
    clear HLN H7 hb9
    go_wp2_with fail
    refine (vInt_any _ _).mono ?_
    rintro e w10 ⟨hb10, rfl⟩
    have HP := Hid.mk (chO_put (H9.out.keep hb10) (Fr.link ⟨l, b1, 0, own⟩) 1 link)
    clear H9 hb10
    go_wp2_with fail
    refine HP.out.mono ?_
    rintro e w11 ⟨h11, rfl⟩
    obtain ⟨S3, hS3⟩ : ∃ S3, (S2.put (Fr.link ⟨l, b1, 0, own⟩) (1, link)).2 = S3 := ⟨_, rfl⟩
    obtain ⟨B1, hB1⟩ : ∃ B1, W.heap.size + 1 = B1 := ⟨_, rfl⟩
    rw [hS3, hB1] at h11
    have HS3 := Hid.mk hS3
    have hfew : FV2.length ≤ 1000 := by have := HOK.out.few; rw [HFF.out] at this; simp at this; omega
    obtain ⟨n2, hn2⟩ : ∃ n2, FV2.length = n2 := ⟨_, rfl⟩
    have HN2 := Hid.mk hn2
    obtain ⟨-, -, s0, -⟩ := chO_k h11
    obtain ⟨fc, -⟩ := frO_cells (q := B1) (v := .slice av n cv) (f := ⟨l, b1, 0, own⟩) h11 (by simp [chO])
    have f0 := fc 0 _ rfl
    have f1 := fc 1 _ rfl
    have f2 := fc 2 _ rfl
    have f3 := fc 3 _ rfl
    have f4 := fc 4 _ rfl
    have f5 := fc 5 _ rfl
    have f6 := fc 6 _ rfl
    simp only at f1 f2 f3 f4 f5 f6
    have HRW := Hid.mk (h11.owns (base := 0) (T := 99) (n := 7) (v := lv) (m := FV2.length) (xs := fcells FV2) (by simp [chO]))
    have H11 := Hid.mk h11
    have hnf : n2 ≤ 1000 := by omega
    obtain ⟨i0, hi, hz0, hz1, hz2⟩ := info_parts infoFr
    rw [hn2] at HRW
    clear h11 fc hn2 hfew HP hS3
    go_upto_region 21 with (fail)
    try simp only [hB1]
    refine wp_region_L 10 (fun X => X.cell? ⟨b, 2, none⟩ = some lv ∧ X.cell? ⟨B1, 0, none⟩ = some (.slice av n cv) ∧ X.cell? ⟨B1, 1, none⟩ = some (.int .i64 l.args) ∧ X.cell? ⟨B1, 2, none⟩ = some (.int .i64 l.res) ∧ X.cell? ⟨B1, 3, none⟩ = some (.int .i64 l.height) ∧ X.cell? ⟨B1, 4, none⟩ = some (.int .i64 b1) ∧ X.cell? ⟨B1, 5, none⟩ = some (.int .i64 0) ∧ X.cell? ⟨B1, 6, none⟩ = some (.bool own)) (by kernel_rfl) ⟨s0, f0, f1, f2, f3, f4, f5, f6⟩ (fun hHeld => ?_)
    refine wpAnyL_take (i := 0) (v := ?_) rfl (by kernel_rfl) (by kernel_rfl) (by kernel_rfl) (by kernel_rfl) (fun _ _ _ h => h) (Or.inl ⟨by rfl, ?_⟩) (by assumption) ?_
    rotate_left
    · (intro w hSw; (try dsimp only at hSw); go_simp <;> with_reducible rfl)
    (try simp only [Act.put, List.getElem_toArray, List.getElem_cons_zero, List.getElem_cons_succ, List.setIfInBounds_toArray, List.set_cons_zero, List.set_cons_succ])
    refine wpAnyL_take (i := 1) (v := ?_) rfl (by kernel_rfl) (by kernel_rfl) (by kernel_rfl) (by kernel_rfl) (fun _ _ _ h => h) (Or.inl ⟨by rfl, ?_⟩) (by assumption) ?_
    rotate_left
    · (intro w hSw; (try dsimp only at hSw); go_simp <;> with_reducible rfl)
    (try simp only [Act.put, List.getElem_toArray, List.getElem_cons_zero, List.getElem_cons_succ, List.setIfInBounds_toArray, List.set_cons_zero, List.set_cons_succ])
    refine wpAnyL_take (i := 2) (v := ?_) rfl (by kernel_rfl) (by kernel_rfl) (by kernel_rfl) (by kernel_rfl) (fun _ _ _ h => h) (Or.inl ⟨by rfl, ?_⟩) (by assumption) ?_
    rotate_left
    · (intro w hSw; (try dsimp only at hSw); go_simp <;> with_reducible rfl)
    (try simp only [Act.put, List.getElem_toArray, List.getElem_cons_zero, List.getElem_cons_succ, List.setIfInBounds_toArray, List.set_cons_zero, List.set_cons_succ])
    refine wpAnyL_take (i := 3) (v := ?_) rfl (by kernel_rfl) (by kernel_rfl) (by kernel_rfl) (by kernel_rfl) (fun _ _ _ h => h) (Or.inl ⟨by rfl, ?_⟩) (by assumption) ?_
    rotate_left
    · (intro w hSw; (try dsimp only at hSw); go_simp <;> with_reducible rfl)
    (try simp only [Act.put, List.getElem_toArray, List.getElem_cons_zero, List.getElem_cons_succ, List.setIfInBounds_toArray, List.set_cons_zero, List.set_cons_succ])
    refine wpAnyL_take (i := 4) (v := ?_) rfl (by kernel_rfl) (by kernel_rfl) (by kernel_rfl) (by kernel_rfl) (fun _ _ _ h => h) (Or.inl ⟨by rfl, ?_⟩) (by assumption) ?_
    rotate_left
    · (intro w hSw; (try dsimp only at hSw); go_simp <;> with_reducible rfl)
    (try simp only [Act.put, List.getElem_toArray, List.getElem_cons_zero, List.getElem_cons_succ, List.setIfInBounds_toArray, List.set_cons_zero, List.set_cons_succ])
    refine wpAnyL_take (i := 5) (v := ?_) rfl (by kernel_rfl) (by kernel_rfl) (by kernel_rfl) (by kernel_rfl) (fun _ _ _ h => h) (Or.inl ⟨by rfl, ?_⟩) (by assumption) ?_
    rotate_left
    · (intro w hSw; (try dsimp only at hSw); go_simp <;> with_reducible rfl)
    (try simp only [Act.put, List.getElem_toArray, List.getElem_cons_zero, List.getElem_cons_succ, List.setIfInBounds_toArray, List.set_cons_zero, List.set_cons_succ])
    refine wpAnyL_only (i := 6) (by kernel_rfl) rfl (fun K hK => ?_)
    go_simp
    refine hK _ _ (fun _ => ⟨alloc_cell s0, alloc_cell f0, alloc_cell f1, alloc_cell f2, alloc_cell f3, alloc_cell f4, alloc_cell f5, alloc_cell f6⟩) (fun hHeld0 => ?_)
    have hHeld := hHeld0 rfl
    clear hK K hHeld0
    (try simp only [Act.put, List.getElem_toArray, List.getElem_cons_zero, List.getElem_cons_succ, List.setIfInBounds_toArray, List.set_cons_zero, List.set_cons_succ])
    refine wpAnyL_only (i := 7) (by kernel_rfl) rfl (fun K hK => ?_)
    refine step_append_lies _ (by rfl) _ _ _ (by rfl) 0 99 i0 (.agg #[.slice none 0 0, .int .i64 0, .int .i64 0, .int .i64 0, .int .i64 0, .int .i64 0, .bool false]) 7 72 Try.underlying76 hi hz0 hz1 hz2 rfl (by omega) lv n2 (fcells FV2) (by rfl) ((HRW.out.alloc _).drew) ⟨w11.heap.size, 0, none⟩ 1 1 [.slice av n cv, .int .i64 l.args, .int .i64 l.res, .int .i64 l.height, .int .i64 b1, .int .i64 0, .bool own] (by rfl) (by rfl) (seven_new _ _ _ _ _ _ _ _ _) (by simp [Value.oneCell']) (by omega) (by unfold maxLen; omega) (by omega) (Nat.zero_le _) (w11.heap.size + 1) (by simp) ?_
    intro g2 cap2 w12 hown2 hg2 hat2 hlt2
    have h12 := Sep.grown (ob := (.cells #[.slice av n cv, .int .i64 l.args, .int .i64 l.res, .int .i64 l.height, .int .i64 b1, .int .i64 0, .bool own] 99)) (Sep.pick 1 H11.out rfl) (v' := .slice (some ⟨g2, 0, none⟩) (n2 + 1) cap2) (m' := n2 + 1) (xs' := fcells FV2 ++ [.slice av n cv, .int .i64 l.args, .int .i64 l.res, .int .i64 l.height, .int .i64 b1, .int .i64 0, .bool own]) hown2 ⟨hg2.os, hg2.tape, hg2.output, hg2.size, hg2.block⟩ (hat2.elim (fun q => .inl (by rw [q]; rfl)) (fun q => .inr (by rw [q]; rfl)))
    have HEND : Hid (Sep w (chP b p k sz ca (layIn (first ⟨S1, L1, C.F⟩) l b1 own link args) F) (w12.setCell ⟨b, 2, none⟩ (.slice (some ⟨g2, 0, none⟩) (n2 + 1) cap2))) := by
      have e1 : layIn (first ⟨S1, L1, C.F⟩) l b1 own link args = ⟨S3, L1, ⟨l, b1, 0, own⟩ :: FV2.map Prod.snd⟩ := by
        rw [HFF.out, HFI.out]
        unfold layIn
        rw [HS2.out]
        exact congrArg (fun q => (⟨q, L1, ⟨l, b1, 0, own⟩ :: FV2.map Prod.snd⟩ : Ch)) HS3.out
      rw [e1]
      refine chO_grow (FV := FV2) (sv := .slice av n cv) (lv := lv) (B1 := B1) (B0 := W.heap.size) (o1 := frO (.slice av n cv) ⟨l, b1, 0, own⟩) (o0 := layO (.slice ao n c) l) ?_
      rw [HN2.out, show (⟨l, b1, 0, own⟩ : Fr).lay.slots.length = n from HN.out]
      exact h12
    have s0' := Sep.cell h12 (b := b) (j := 2) (List.Mem.tail _ (List.Mem.head _)) rfl
    have z0' := Sep.free h12 (b := b) (List.Mem.tail _ (List.Mem.head _)) 2
    obtain ⟨fc, -⟩ := frO_cells (q := B1) (v := .slice av n cv) (f := ⟨l, b1, 0, own⟩) h12 (List.Mem.tail _ (List.Mem.tail _ (List.Mem.tail _ (List.Mem.tail _ (List.Mem.tail _ (List.Mem.head _))))))
    have t0 := fc 0 _ rfl
    have t1 := fc 1 _ rfl
    have t2 := fc 2 _ rfl
    have t3 := fc 3 _ rfl
    have t4 := fc 4 _ rfl
    have t5 := fc 5 _ rfl
    have t6 := fc 6 _ rfl
    simp only at t1 t2 t3 t4 t5 t6
    clear fc h12 hown2 hg2 hat2 hlt2 HRW H11
    refine hK _ _ (fun _ => ⟨s0', t0, t1, t2, t3, t4, t5, t6⟩) (fun hHeld0 => ?_)
    have hHeld := hHeld0 rfl
    clear hK K hHeld0
    (try simp only [Act.put, List.getElem_toArray, List.getElem_cons_zero, List.getElem_cons_succ, List.setIfInBounds_toArray, List.set_cons_zero, List.set_cons_succ])
    refine wpAnyL_only (i := 8) (by kernel_rfl) rfl (fun K hK => ?_)
    go_simp
    refine hK _ _ (fun _ => ⟨s0', t0, t1, t2, t3, t4, t5, t6⟩) (fun hHeld0 => ?_)
    have hHeld := hHeld0 rfl
    clear hK K hHeld0
    (try simp only [Act.put, List.getElem_toArray, List.getElem_cons_zero, List.getElem_cons_succ, List.setIfInBounds_toArray, List.set_cons_zero, List.set_cons_succ])
    refine wpAnyL_only (i := 9) (by kernel_rfl) rfl (fun K hK => ?_)
    go_simp
    refine hK _ _ (fun _ => ⟨s0', t0, t1, t2, t3, t4, t5, t6⟩) (fun hHeld0 => ?_)
    have hHeld := hHeld0 rfl
    clear hK K hHeld0
    (try simp only [Act.put, List.getElem_toArray, List.getElem_cons_zero, List.getElem_cons_succ, List.setIfInBounds_toArray, List.set_cons_zero, List.set_cons_succ])
    refine wpAnyL_only (i := 10) (by kernel_rfl) rfl (fun K hK => ?_)
    go_simp
    refine hK _ _ (fun q => by cases q) (fun hHeld0 => ?_)
    clear hK K hHeld0
    refine wpAnyL_done (by kernel_rfl) ?_
    go_wp2_with fail
    go_ret
    rw [HBE.out]
    exact ⟨HEND.out, rfl⟩
end
end Go.Proofs.Ytpfnnmcokbolhaa
/- A chain's Run and Call: what they stand on. -/
namespace Go.Proofs.Ytpfnnmcokbolhaa
open Go.RowKit
set_option pp.deepTerms true
/-- a slice's capacity -/
def SlOk (v : Value) : Prop := ∀ ao n c, v = .slice ao n c → n ≤ c
theorem Rdi.take {w : World} {ao : Option Addr} {n c k : Nat} {xs : List Int} (h : Rdi w (.slice ao n c) xs) (hk : k ≤ xs.length) : Rdi w (.slice ao k c) (xs.take k) := by
  rcases h with ⟨e, rfl⟩ | ⟨b, o, c', e, hb, hc⟩ | ⟨ad, c', e, rfl⟩
  · simp only [Value.slice.injEq] at e
    obtain ⟨rfl, rfl, rfl⟩ := e
    obtain rfl : k = 0 := by simpa using hk
    exact .inl ⟨rfl, by simp⟩
  · simp only [Value.slice.injEq] at e
    obtain ⟨rfl, rfl, rfl⟩ := e
    refine .inr (.inl ⟨b, o, c, by rw [List.length_take, Nat.min_eq_left hk], hb, fun i hi => ?_⟩)
    have hi' : i < xs.length := by simp at hi; omega
    rw [List.getElem_take]
    exact hc i hi'
  · simp only [Value.slice.injEq] at e
    obtain ⟨rfl, rfl, rfl⟩ := e
    obtain rfl : k = 0 := by simpa using hk
    exact .inr (.inr ⟨ad, c, rfl, by simp⟩)
theorem pushL_base {C : Ch} {sz m : Int} (ok : ChOk C) (h0 : 0 ≤ C.S.last) (he : (pushL C.S C.L sz m).1.2 = 0) : 0 ≤ (pushL C.S C.L sz m).1.1.1 ∧ (pushL C.S C.L sz m).1.1.1 ≤ 1152921504606850000 := by
  have hl := ok.last
  unfold pushL at he ⊢
  split
  · rename_i q
    rw [if_pos q] at he
    cases he
  · rename_i q
    rw [if_neg q] at he
    split
    · rename_i i hf
      obtain ⟨hi, -⟩ := fit_spec hf
      have := ok.wide _ (List.mem_append.2 (.inr (List.getElem_mem hi)))
      simp only [List.getElem?_eq_getElem hi, Option.getD_some]
      omega
    · rename_i hf
      simp only [hf] at he
      by_cases ht : (C.S.take (max sz m)).1.2 = 0
      · rw [if_pos ht]
        rcases take_cases C.S (max sz m) with e | ⟨n1, n2, e, el⟩
        · rw [e] at ht; cases ht
        · show 0 ≤ (C.S.take (max sz m)).1.1 ∧ (C.S.take (max sz m)).1.1 ≤ _
          rw [e]
          show 0 ≤ nextBase C.S.last ∧ nextBase C.S.last ≤ _
          unfold nextBase
          split <;> omega
      · rw [if_neg ht] at he
        exact absurd he ht
section
variable {w W : World} {F : List Asr} {b p k g c : Nat} {sz ca : Int} {C : Ch} {x : Value × Fr} {l : List (Value × Fr)} {S : Sp}
theorem crun1_any (W : World) : Calls Try.prog 44 #[] W fun e w' => (∃ u, e = .returned u) ∧ w' = W := by
  go_enter Try.func44, Try.ntmps44
  go_wp2
  go_end0
  exact ⟨⟨_, rfl⟩, rfl⟩
theorem chP_last (h : Sep w (chP b p k sz ca C F) W) : 0 ≤ C.S.last := by
  obtain ⟨fs, hf⟩ := Sep.sp (Sep.rot [_] [_] h)
  exact hf.ok.last0
theorem top_P (h : Sep w (chP b p k sz ca C F) W) (hl : C.L.live.length ≤ 1000000) : Calls Try.prog 40 #[.pointer (some ⟨k, 0, none⟩)] W fun e w' => Below W.heap.size W w' ∧ e = .returned (.tuple #[.agg #[.int .i64 (topOf C.L.live).1.1, .int .i64 (topOf C.L.live).1.2], .bool (topOf C.L.live).2]) := by
  refine (top_sep (F := chA b p k C.F :: F) (Sep.rot [_] [_, _] h) hl).mono ?_
  rintro e w' ⟨-, h2, h3⟩
  exact ⟨h2, h3⟩
end
end Go.Proofs.Ytpfnnmcokbolhaa
/- A chain's Run. -/
namespace Go.Proofs.Ytpfnnmcokbolhaa
open Go.RowKit
set_option pp.deepTerms true
theorem can_iff {l : Lay} {place : Int} (h : l.can place = true) : layOk l = true ∧ 0 ≤ place ∧ place < 512 := by
  simpa [Lay.can] using h
section
variable {w W : World} {F : List Asr} {b p k : Nat} {sz ca : Int} {C : Ch}
theorem chP_none (h : Sep w (chP b p k sz ca C F) W) : ∀ W' : World, Below W.heap.size W W' → Calls Try.prog 35 #[.pointer (some ⟨b, 0, none⟩)] W' fun e w' => e = .returned (.bool false) ∧ w' = W' := fun W' q => cnone_any (ch_k0 (show Sep w (chA b p k C.F :: spA p C.S :: lkA k p sz ca C.L :: F) W' from h.keep q)).1
theorem chP_F (h : Sep w (chP b p k sz ca C F) W) : Sep w F W := Sep.sub h (List.sublist_append_right [_, _, _] F)
set_option maxRecDepth 100000 in
set_option maxHeartbeats 2000000 in
theorem crun_any {sv av : Value} {l : Lay} {args : List (Int × Int)} {place : Int} (h : Sep w (chP b p k sz ca C F) W) (ok : ChOk C)
    (hsl : ∀ W', Sep w F W' → Rdi W' sv l.slots) (hln : l.slots.length ≤ 4194304) (hcap : SlOk sv) (hav : ∀ W', Sep w F W' → Rd W' av args) (hargs : args.length ≤ 1000000) :
    Calls Try.prog 12 #[.pointer (some ⟨b, 0, none⟩), layV sv l, av, .int .i64 place] W fun e w' => Sep w (chP b p k sz ca (runC sz C l args place).2 F) w' ∧ e = .returned (.int .i64 (runC sz C l args place).1) := by
  have HB0 : Hid (Below W.heap.size W (W.alloc (.cells #[sv, .int .i64 l.args, .int .i64 l.res, .int .i64 l.height] 31))) := (Below.refl _ _).alloc (Nat.le_refl _) _
  have hlay : ∀ W', Below (W.alloc (.cells #[sv, .int .i64 l.args, .int .i64 l.res, .int .i64 l.height] 31)).heap.size (W.alloc (.cells #[sv, .int .i64 l.args, .int .i64 l.res, .int .i64 l.height] 31)) W' → W'.cell? ⟨W.heap.size, 0, none⟩ = some sv ∧ W'.cell? ⟨W.heap.size, 1, none⟩ = some (.int .i64 l.args) ∧ W'.cell? ⟨W.heap.size, 2, none⟩ = some (.int .i64 l.res) ∧ W'.cell? ⟨W.heap.size, 3, none⟩ = some (.int .i64 l.height) := fun W' q => by
    have B1 := below_at q (heap_alloc_new W _) (by simp)
    exact ⟨by rw [cell_of_row _ _ 0 _ _ _ B1]; rfl, by rw [cell_of_row _ _ 1 _ _ _ B1]; rfl, by rw [cell_of_row _ _ 2 _ _ _ B1]; rfl, by rw [cell_of_row _ _ 3 _ _ _ B1]; rfl⟩
  have HLAY := Hid.mk hlay
  have HM := Hid.mk (cmay_any (fun W' q => chP_none h W' (HB0.out.trans (q.mono HB0.out.size))) (hsl _ (chP_F (h.keep HB0.out))) hln place)
  have HK := Hid.mk (fun W' (q : Below W.heap.size W W') => h.keep q)
  have HSL := Hid.mk hsl
  have HAV := Hid.mk hav
  obtain ⟨d0, d1, d2, d3⟩ := hlay _ (Below.refl _ _)
  obtain ⟨ao, c, hsv⟩ := (hsl _ (chP_F h)).shape
  subst hsv
  obtain ⟨av0, ac, hav0⟩ := (hav _ (chP_F h)).shape
  subst hav0
  have hcc := hcap _ _ _ rfl
  obtain ⟨⟨r, C'⟩, hr⟩ : ∃ r, runC sz C l args place = r := ⟨_, rfl⟩
  rw [hr]
  unfold runC at hr
  unfold layV at HM ⊢
  cases hcan : l.can place
  · rw [hcan] at hr HM
    simp only [Bool.false_eq_true, ↓reduceIte, Prod.mk.injEq] at hr HM
    obtain ⟨rfl, rfl⟩ := hr
    clear h hsl hav hlay hcan hcap
    go_enter Try.func12, Try.ntmps12
    go_wp2_with fail
    refine HM.out.mono ?_
    rintro e w1 ⟨hb1, rfl⟩
    have HE := Hid.mk (HK.out _ (HB0.out.trans (hb1.mono HB0.out.size)))
    clear HM hb1
    go_wp2_with fail
    go_ret
    exact ⟨HE.out, rfl⟩
  · obtain ⟨hk, p0, p1⟩ := can_iff hcan
    obtain ⟨-, hn, a0, a1, r0, r1, h5, h6⟩ := (layOk_iff l).1 hk
    rw [hcan] at hr HM
    simp only [↓reduceIte] at hr HM
    obtain ⟨a, ha⟩ := Int.eq_ofNat_of_zero_le a0
    have han : a ≤ l.slots.length := by omega
    have hca : a ≤ c := by omega
    have hta : l.args.toNat = a := by rw [ha]; simp
    have HA := Hid.mk ha
    clear d0 d1 d2 d3 ha
    have HF9 : Hid (∀ W', Below W.heap.size W W' → Calls Try.prog 39 #[.slice ao a c, .slice av0 args.length ac] W' fun e w' => Below W'.heap.size W' w' ∧ e = .returned (.bool (fitsB (l.slots.take l.args.toNat) args))) := fun W' q => by
      rw [hta]
      exact fits_any ((hsl _ (chP_F (h.keep q))).take han) (hav _ (chP_F (h.keep q))) (by omega)
    cases hfit : fitsB (l.slots.take l.args.toNat) args
    · rw [if_neg (by rw [hfit]; simp)] at hr
      rw [hfit] at HF9
      simp only [Prod.mk.injEq] at hr
      obtain ⟨rfl, rfl⟩ := hr
      clear h hsl hav hlay hcan hcap hfit
      go_enter Try.func12, Try.ntmps12
      go_wp2_with fail
      refine HM.out.mono ?_
      rintro e w1 ⟨hb1, rfl⟩
      obtain ⟨e0, e1, e2, e3⟩ := HLAY.out _ hb1
      rw [HA.out] at e1
      have HB1 := Hid.mk (HB0.out.trans (hb1.mono HB0.out.size))
      clear HM hb1
      go_wp2_with fail
      refine (HF9.out _ HB1.out).mono ?_
      rintro e w2 ⟨hb2, rfl⟩
      have HE := Hid.mk (HK.out _ (HB1.out.trans (hb2.mono HB1.out.size)))
      clear HF9 hb2
      go_wp2_with fail
      go_ret
      exact ⟨HE.out, rfl⟩
    · rw [if_pos hfit] at hr
      rw [hfit] at HF9
      clear hlay hcan hcap hfit
      have HT : Hid (∀ W', Below W.heap.size W W' → Calls Try.prog 40 #[.pointer (some ⟨k, 0, none⟩)] W' fun e w' => Below W'.heap.size W' w' ∧ e = .returned (.tuple #[.agg #[.int .i64 (topOf C.L.live).1.1, .int .i64 (topOf C.L.live).1.2], .bool (topOf C.L.live).2])) := fun W' q => top_P (h.keep q) ok.live
      have hK1 : ∀ W', Below W.heap.size W W' → W'.cell? ⟨b, 1, none⟩ = some (.pointer (some ⟨k, 0, none⟩)) := fun W' q => (ch_k0 (show Sep w (chA b p k C.F :: spA p C.S :: lkA k p sz ca C.L :: F) W' from h.keep q)).2.1
      have HK1 := Hid.mk hK1
      have htw := topOf_wide (fun r hr => ok.wide r (List.mem_append.2 (.inl hr)))
      have hl0 := chP_last h
      have HPB : Hid ((pushL C.S C.L sz l.words).1.2 = 0 → 0 ≤ (pushL C.S C.L sz l.words).1.1.1 ∧ (pushL C.S C.L sz l.words).1.1.1 ≤ 1152921504606850000) := fun q => pushL_base ok hl0 q
      have HOK := Hid.mk ok
      have HLK := Hid.mk hk
      obtain ⟨lv, FV, hFV, hO⟩ := ch_open (show Sep w (chA b p k C.F :: spA p C.S :: lkA k p sz ca C.L :: F) W from h)
      have HKO := Hid.mk (fun W' (q : Below W.heap.size W W') => show Sep w (chO b p k lv FV (spA p C.S :: lkA k p sz ca C.L :: F)) W' from hO.keep q)
      have HFV := Hid.mk hFV
      have hbeg : ∀ (at_ link : Int) (W' : World), 0 ≤ at_ ∧ at_ ≤ 1152921504606850000 → 0 ≤ link ∧ link ≤ 1048576 → Below W.heap.size W W' → Calls Try.prog 43 #[.pointer (some ⟨b, 0, none⟩), .agg #[.slice ao l.slots.length c, .int .i64 l.args, .int .i64 l.res, .int .i64 l.height], .int .i64 at_, .int .i64 link, .slice av0 args.length ac, .func (.func 44) #[] #[]] W' fun e w' => Sep w (chP b p k sz ca (beginC sz C l at_ link args id).2 F) w' ∧ e = .returned (.int .i64 (beginC sz C l at_ link args id).1) := fun at_ link W' q1 q2 q3 =>
        cbegin_O (σ := id) (first := id) (FV2 := FV) (HKO.out W' q3) HFV.out.symm HOK.out HLK.out HSL.out HAV.out hargs q1 q2 HPB.out (fun _ _ => rfl) rfl (.inl ⟨rfl, rfl⟩) (fun A B S' L' W'' q4 => (crun1_any W'').mono (fun e w' r => ⟨r.1, by rw [r.2]; exact q4⟩))
      have HBG := Hid.mk hbeg
      cases hF : C.F with
      | nil =>
        have HTN : Hid (∀ W', Below W.heap.size W W' → Calls Try.prog 41 #[.pointer (some ⟨b, 0, none⟩)] W' fun e w' => w' = W' ∧ e = .returned (.tuple #[.pointer none, .int .i64 250])) := fun W' q => ctop_none (chP_top (h.keep q) hF)
        rw [hF] at hr
        simp only at hr
        have HR := Hid.mk hr
        clear h hsl hav hbeg hK1 hO hFV hr
        go_enter Try.func12, Try.ntmps12
        go_wp2_with fail
        refine HM.out.mono ?_
        rintro e w1 ⟨hb1, rfl⟩
        obtain ⟨e0, e1, e2, e3⟩ := HLAY.out _ hb1
        rw [HA.out] at e1
        have HB1 := Hid.mk (HB0.out.trans (hb1.mono HB0.out.size))
        have HBA := Hid.mk hb1
        clear HM hb1
        go_wp2_with fail
        refine (HF9.out _ HB1.out).mono ?_
        rintro e w2 ⟨hb2, rfl⟩
        have HB2 := Hid.mk (HB1.out.trans (hb2.mono HB1.out.size))
        have HBA := Hid.mk (HBA.out.trans (hb2.mono HBA.out.size))
        have k1 := HK1.out _ HB2.out
        clear HF9 hb2 HB1
        go_wp2_with fail
        refine (HT.out _ HB2.out).mono ?_
        rintro e w3 ⟨hb3, rfl⟩
        obtain ⟨⟨⟨t1, t2⟩, tb⟩, ht⟩ : ∃ t, topOf C.L.live = t := ⟨_, rfl⟩
        rw [ht]
        have hr3 := HR.out
        rw [ht] at hr3 htw
        simp only at htw hr3
        have hb4 := hb3.alloc hb3.size (.cells #[.int .i64 t1, .int .i64 t2] 88)
        have HB4 := Hid.mk (HB2.out.trans (hb4.mono HB2.out.size))
        have HBA4 := Hid.mk (HBA.out.trans (hb4.mono HBA.out.size))
        clear HT hb3 hb4 HB2 k1
        go_wp2_with fail
        refine (HTN.out _ HB4.out).mono ?_
        rintro e w5 ⟨rfl, rfl⟩
        obtain ⟨e0, e1, e2, e3⟩ := HLAY.out _ HBA4.out
        have hlk : 0 ≤ place * 128 + 0 ∧ place * 128 + 0 ≤ 1048576 := by omega
        have HG := Hid.mk (HBG.out t1 (place * 128 + 0) _ ⟨htw.1, by omega⟩ hlk HB4.out)
        rw [hr3] at HG
        have s1 : IntKind.i64.wrap (place * 128) = place * 128 := by rw [IntKind.wrap_i64]; omega
        have s2 : IntKind.i64.wrap (place * 128 + 0) = place * 128 + 0 := by rw [IntKind.wrap_i64]; omega
        clear HTN HBG
        go_wp2_with fail
        simp only [Int.add_zero] at HG
        refine HG.out.mono ?_
        rintro e w6 ⟨h6, rfl⟩
        have H6 := Hid.mk h6
        clear HG h6
        go_wp2_with fail
        go_ret
        exact ⟨H6.out, rfl⟩
      | cons f fs =>
        obtain ⟨g, c2, x, ll, h1, h2, -, h4⟩ := chP_cons h hF
        have hx := ok.fr x.2 (by rw [h1]; simp)
        have hxl := ok.low x.2 (by rw [h1]; simp)
        have hll : ll.length ≤ 1000 := by have := ok.few; rw [h1] at this; simp at this; omega
        obtain ⟨-, hxn, -, -, -, -, hx5, hx6⟩ := (layOk_iff x.2.lay).1 hx.lay
        have hxb := hx.b0
        have hxo0 := hx.n0
        have hxo1 := hx.n1
        have HTS : Hid (∀ W', Below W.heap.size W W' → Calls Try.prog 41 #[.pointer (some ⟨b, 0, none⟩)] W' fun e w' => Below W'.heap.size W' w' ∧ e = .returned (.tuple #[.pointer (some ⟨g, ll.length * 7, none⟩), .int .i64 0])) := fun W' q => (ctop_some (h4.keep q) hll).mono (fun e w' r => ⟨r.2.1, r.2.2⟩)
        have HFR : Hid (∀ W', Below W.heap.size W W' → FrAt W' g (ll.length * 7) x.1 x.2) := fun W' q => (h4.keep q).fr
        rw [hF] at hr
        simp only at hr
        rw [← h2] at hr
        have hfree : 0 ≤ x.2.free 0 ∧ x.2.free 0 ≤ 1152921504606850000 := by unfold Fr.free; omega
        have HXO := Hid.mk hx
        have HR := Hid.mk hr
        clear h hsl hav hbeg hK1 hO hFV hr h1 h2 h4 hx
        go_enter Try.func12, Try.ntmps12
        go_wp2_with fail
        refine HM.out.mono ?_
        rintro e w1 ⟨hb1, rfl⟩
        obtain ⟨e0, e1, e2, e3⟩ := HLAY.out _ hb1
        rw [HA.out] at e1
        have HB1 := Hid.mk (HB0.out.trans (hb1.mono HB0.out.size))
        have HBA := Hid.mk hb1
        clear HM hb1
        go_wp2_with fail
        refine (HF9.out _ HB1.out).mono ?_
        rintro e w2 ⟨hb2, rfl⟩
        have HB2 := Hid.mk (HB1.out.trans (hb2.mono HB1.out.size))
        have HBA := Hid.mk (HBA.out.trans (hb2.mono HBA.out.size))
        have k1 := HK1.out _ HB2.out
        clear HF9 hb2 HB1
        go_wp2_with fail
        refine (HT.out _ HB2.out).mono ?_
        rintro e w3 ⟨hb3, rfl⟩
        obtain ⟨⟨⟨t1, t2⟩, tb⟩, ht⟩ : ∃ t, topOf C.L.live = t := ⟨_, rfl⟩
        rw [ht]
        have hr3 := HR.out
        rw [ht] at htw
        simp only at htw
        have hb4 := hb3.alloc hb3.size (.cells #[.int .i64 t1, .int .i64 t2] 88)
        have HB4 := Hid.mk (HB2.out.trans (hb4.mono HB2.out.size))
        have HBA4 := Hid.mk (HBA.out.trans (hb4.mono HBA.out.size))
        clear HT hb3 hb4 HB2 k1
        go_wp2_with fail
        refine (HTS.out _ HB4.out).mono ?_
        rintro e w5 ⟨hb5, rfl⟩
        have HB5 := Hid.mk (HB4.out.trans (hb5.mono HB4.out.size))
        have HBA5 := Hid.mk (HBA4.out.trans (hb5.mono HBA4.out.size))
        have e5 := (HFR.out _ HB5.out).c5
        have HFE := Hid.mk (ffree_any (HFR.out _ HB5.out).drew HXO.out (Int.le_refl 0) hxo0)
        clear HTS hb5 HB4 HBA4
        go_wp2_with fail
        go_region_held3 (fun X => X.cell? ⟨g, ll.length * 7 + 5, none⟩ = some (.int .i64 x.2.ops)) (first | exact s9 | exact e5) (first | (go_at_call 42; refine HFE.out.mono ?_; rintro e w6 ⟨hb6, rfl⟩; have s9 := keep_dr hb6 e5))
        have HB6 := Hid.mk (HB5.out.trans ((undrew hb6).mono HB5.out.size))
        have HBA6 := Hid.mk (HBA5.out.trans ((undrew hb6).mono HBA5.out.size))
        obtain ⟨e0, e1, e2, e3⟩ := HLAY.out _ HBA6.out
        have hlk : 0 ≤ place * 128 + x.2.ops ∧ place * 128 + x.2.ops ≤ 1048576 := by omega
        have HG := HBG.out (x.2.free 0) (place * 128 + x.2.ops) _ hfree hlk HB6.out
        rw [hr3] at HG
        have HG := Hid.mk HG
        have s1 : IntKind.i64.wrap (place * 128) = place * 128 := by rw [IntKind.wrap_i64]; omega
        have s2 : IntKind.i64.wrap (place * 128 + x.2.ops) = place * 128 + x.2.ops := by rw [IntKind.wrap_i64]; omega
        clear HBG HFE hb6 s9
        go_wp2_with fail
        refine HG.out.mono ?_
        rintro e w7 ⟨h7, rfl⟩
        have H7 := Hid.mk h7
        clear HG h7
        go_wp2_with fail
        go_ret
        exact ⟨H7.out, rfl⟩
end
end Go.Proofs.Ytpfnnmcokbolhaa
