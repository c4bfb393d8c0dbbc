/- Parts Zg Zh Zi Xu Xv, put together. -/
import Derived.Test.YtpfnnmcokbolhaaGreatMd14
/- A chain's calls on frames with what they hold: Call, Run, Return. -/
namespace Go.Proofs.YtpfnnmcokbolhaaGreat
open Go.RowKit
theorem can_iff' {l : Lay} {place : Int} (h : l.can place = true) : layOk l = true ∧ 0 ≤ place ∧ place < 512 := by
  simpa [Lay.can] using h
theorem put_few {n : Nat} {S : Sp} {L : Lk} (h : Few n S L) (a : Int) (v : Int × Int) : Few n (S.put a v).2 L := ⟨h.cnt, h.wd, by rw [put_last]; exact h.last⟩
theorem drop_few {n : Nat} {S : Sp} {L : Lk} (h : Few n S L) (a m : Int) : Few n (S.drop a m).2 L := ⟨h.cnt, h.wd, by rw [drop_last]; exact h.last⟩
theorem Few.mono {n m : Nat} {S : Sp} {L : Lk} (h : Few n S L) (hm : n ≤ m) : Few m S L := ⟨by have := h.cnt; omega, h.wd, by have := h.last; omega⟩
theorem push_few {n : Nat} {C : Ch} (h : Few n C.S C.L) (v : Int × Int) : Few n (pushC C v).2.S (pushC C v).2.L := by
  unfold pushC
  split
  · exact h
  · split
    · exact put_few h _ _
    · exact h
theorem pop_few {n : Nat} {C : Ch} (h : Few n C.S C.L) : Few n (popC C).2.S (popC C).2.L := by
  unfold popC
  split
  · exact h
  · split
    · exact h
    · exact drop_few h _ _
theorem store_few {n : Nat} {C : Ch} (h : Few n C.S C.L) (i : Int) (v : Int × Int) : Few n (storeC C i v).2.S (storeC C i v).2.L := by
  unfold storeC
  split
  · split
    · exact put_few h _ _
    · exact h
  · exact h
theorem putP_few {n : Nat} {C : Ch} (h : Few n C.S C.L) (p v : Int × Int) : Few n (putC C p v).2.S (putC C p v).2.L := by
  unfold putC
  split
  · split
    · exact put_few h _ _
    · exact h
  · exact h
theorem pushAll_few {n : Nat} : ∀ {vs : List (Int × Int)} {C : Ch}, Few n C.S C.L → Few n (pushAll C vs).S (pushAll C vs).L
  | [], _, h => h
  | v :: vs, _, h => pushAll_few (vs := vs) (push_few h v)
section
variable {sz ca : Int} {C : Ch} {A rs9 : List Af} {a g : Af} {n : Nat}
theorem Core.one {S : Sp} {L : Lk} (h : Core sz ca S L (a :: rs9)) {k : Nat} (hk : k ≤ a.ops.length) :
    (S.run (a.top - k) k).2 = 0 ∧ (S.run (a.top - k) k).1.getD [] = a.ops.drop (a.ops.length - k) := by
  have ha := h.each a List.mem_cons_self
  have htl := ha.top_le
  have hwl := a.words_len
  have htop : a.top = a.f.base + a.words.length := rfl
  have hlo := ha.lo
  have hhi := ha.hi
  have hl : (a.ops.drop (a.ops.length - k)).length = k := by simp; omega
  have := run_ok h.inv h.ok (h.live a List.mem_cons_self) (x := a.top - k) (vs := a.ops.drop (a.ops.length - k)) (by omega) (by omega) (fun j v hv => by
    have hj := (List.getElem?_eq_some_iff.1 hv).1
    have e : a.words = (a.dropOps k).words ++ a.ops.drop (a.ops.length - k) := by
      unfold Af.words Af.dropOps
      simp
    have hdw := a.dropOps_words hk
    have := h.wd a List.mem_cons_self ((a.dropOps k).words.length + j) v (by rw [e, List.getElem?_append_right (by omega), Nat.add_sub_cancel_left]; exact hv)
    rw [← this]
    congr 1
    push_cast
    omega)
  rw [hl] at this
  exact this
theorem Rep.free (h : Rep sz ca C (a :: rs9)) (k : Int) : a.f.free k = a.top - k := (h.core.each a List.mem_cons_self).free k
theorem Rep.call (h : Rep sz ca C (a :: rs9)) (hs : Few n C.S C.L) (hn : n ≤ 300) (hsz0 : 129 ≤ sz) (hsz : sz ≤ 2000) {l : Lay} {place : Int} {k : Nat} (hk : l.args = k) (hc : l.can place = true) (hko : k ≤ a.ops.length) (hf : fitsB (l.slots.take k) (a.ops.drop (a.ops.length - k)) = true) :
    (callC sz C l place).1 = 0 ∧ Few (n + 1) (callC sz C l place).2.S (callC sz C l place).2.L ∧
    ∃ f, f.f.lay = l ∧ f.slots = fillV l.slots (a.ops.drop (a.ops.length - k)) ∧ f.ops = [] ∧ f.link = place * 128 + a.ops.length ∧ Rep sz ca (callC sz C l place).2 (f :: a.dropOps k :: rs9) := by
  obtain ⟨hl, p0, p1⟩ := can_iff' hc
  have ha := h.core.each a List.mem_cons_self
  have hhi := ha.high
  obtain ⟨-, -, -, -, -, -, -, b8⟩ := (layOk_iff a.f.lay).1 ha.lay
  have hfr : a.f.free l.args = a.top - k := by rw [h.free, hk]
  obtain ⟨r1, r2⟩ := h.core.one hko
  have e : callC sz C l place = beginC sz C l (a.top - k) (place * 128 + a.f.ops) (a.ops.drop (a.ops.length - k)) (callF l (a.top - k)) := by
    unfold callC
    rw [if_pos hc, h.top]
    simp only
    rw [if_neg (by rw [ha.n, hk]; omega), hfr, hk]
    simp only [Int.toNat_natCast]
    rw [r2, if_pos ⟨r1, hf⟩]
  rw [e, ha.n]
  refine h.begin (A' := a.dropOps k :: rs9) hs hn hsz0 hsz hl (by rw [hk]; exact hf) (by omega) (fun S L hcore => ?_) ?_ (fun a' ha' => ?_) (fun q => by cases q) (fun b bs q => ?_)
  · obtain ⟨d1, d2⟩ := hcore.dropOps hko
    unfold callF
    rw [h.top]
    simp only
    rw [hk]
    exact ⟨d2, trivial, rfl, drop_last _ _ _⟩
  · exact h.geo.own rfl _ rfl rfl rfl
  · rcases List.mem_cons.1 ha' with rfl | q
    · exact ⟨a, List.mem_cons_self, rfl⟩
    · exact ⟨a', List.mem_cons_of_mem _ q, rfl⟩
  · simp only [List.cons.injEq] at q
    rw [← q.1, a.dropOps_top hko]
theorem Rep.call_no (h : Rep sz ca C (a :: rs9)) {l : Lay} {place : Int} (hno : ¬ (l.can place = true ∧ l.args ≤ a.ops.length ∧ fitsB (l.slots.take l.args.toNat) (a.ops.drop (a.ops.length - l.args.toNat)) = true)) : callC sz C l place = (250, C) := by
  have ha := h.core.each a List.mem_cons_self
  unfold callC
  by_cases hc : l.can place = true
  · rw [if_pos hc, h.top]
    simp only
    by_cases hko : l.args ≤ a.ops.length
    · obtain ⟨hl, p0, p1⟩ := can_iff' hc
      obtain ⟨-, -, a0, -⟩ := (layOk_iff l).1 hl
      obtain ⟨k, hk⟩ := Int.eq_ofNat_of_zero_le a0
      rw [if_neg (by rw [ha.n]; omega), h.free, hk]
      obtain ⟨r1, r2⟩ := h.core.one (k := k) (by omega)
      rw [r2, if_neg]
      rintro ⟨-, q⟩
      refine hno ⟨hc, hko, ?_⟩
      rw [hk]
      exact q
    · rw [if_pos (by rw [ha.n]; omega)]
  · rw [if_neg hc]
theorem Rep.run (h : Rep sz ca C A) (hs : Few n C.S C.L) (hn : n ≤ 300) (hsz0 : 129 ≤ sz) (hsz : sz ≤ 2000) {l : Lay} {place : Int} {args : List (Int × Int)} (hc : l.can place = true) (hf : fitsB (l.slots.take l.args.toNat) args = true) :
    (runC sz C l args place).1 = 0 ∧ Few (n + 1) (runC sz C l args place).2.S (runC sz C l args place).2.L ∧
    ∃ f, f.f.lay = l ∧ f.slots = fillV l.slots args ∧ f.ops = [] ∧ f.link = place * 128 + (match A with | [] => 0 | a :: _ => (a.ops.length : Int)) ∧ Rep sz ca (runC sz C l args place).2 (f :: A) := by
  obtain ⟨hl, p0, p1⟩ := can_iff' hc
  unfold runC
  rw [if_pos hc, if_pos hf]
  cases A with
  | nil =>
    have hF : C.F = [] := h.fs
    rw [hF]
    simp only
    exact h.begin (A' := []) hs hn hsz0 hsz hl hf (by omega) (fun S L hcore => ⟨hcore, rfl, hF, rfl⟩) h.geo (fun a' ha' => by cases ha') (fun _ => rfl) (fun b bs q => by cases q)
  | cons a rs9 =>
    have ha := h.core.each a List.mem_cons_self
    have hhi := ha.high
    obtain ⟨-, -, -, -, -, -, -, b8⟩ := (layOk_iff a.f.lay).1 ha.lay
    rw [h.top]
    simp only
    rw [ha.n]
    refine h.begin (A' := a :: rs9) hs hn hsz0 hsz hl hf (by omega) (fun S L hcore => ⟨hcore, rfl, h.fs, rfl⟩) h.geo (fun a' ha' => ⟨a', ha', rfl⟩) (fun q => by cases q) (fun b bs q => ?_)
    simp only [List.cons.injEq] at q
    rw [← q.1, h.free]
    omega
theorem Rep.run_no {l : Lay} {place : Int} {args : List (Int × Int)} (hno : l.can place = false) : runC sz C l args place = (250, C) := by
  unfold runC
  rw [if_neg (by rw [hno]; decide)]
/-- operands pushed one after the other -/
def Af.pushes (a : Af) (vs : List (Int × Int)) : Af := { a with f := { a.f with ops := a.f.ops + vs.length }, ops := a.ops ++ vs }
theorem Rep.pushAll : ∀ {vs : List (Int × Int)} {C : Ch} {a : Af}, Rep sz ca C (a :: rs9) → (∀ v ∈ vs, okV v.1 v.2 = true) → (a.ops.length + vs.length : Int) ≤ a.f.lay.height → Rep sz ca (Go.Proofs.YtpfnnmcokbolhaaGreat.pushAll C vs) (a.pushes vs :: rs9)
  | [], C, a, h, _, _ => by
    have : a.pushes [] = a := by simp [Af.pushes]
    rw [this]
    exact h
  | v :: vs, C, a, h, hv, hh => by
    simp only [List.length_cons] at hh
    obtain ⟨-, -, h1⟩ := h.push (hv v List.mem_cons_self) (by omega)
    have := Rep.pushAll (vs := vs) h1 (fun u hu => hv u (List.mem_cons_of_mem _ hu)) (by
      show ((a.ops ++ [v]).length + vs.length : Int) ≤ a.f.lay.height
      simp
      omega)
    have e : (a.push v).pushes vs = a.pushes (v :: vs) := by
      simp [Af.pushes, Af.push]
      omega
    rw [e] at this
    exact this
def Af.res (a : Af) : List (Int × Int) := (a.slots.drop a.f.lay.args.toNat).take a.f.lay.res.toNat
theorem Rep.ret (h : Rep sz ca C (a :: g :: rs9)) (hs : Few n C.S C.L) (hh : (g.ops.length + a.res.length : Int) ≤ g.f.lay.height) :
    (retC ca C).1 = 0 ∧ Few n (retC ca C).2.S (retC ca C).2.L ∧ Rep sz ca (retC ca C).2 (g.pushes a.res :: rs9) := by
  obtain ⟨r1, r2⟩ := h.res
  have hg := h.core.each g (by simp)
  have ha := h.core.each a (by simp)
  have e : retC ca C = (0, Go.Proofs.YtpfnnmcokbolhaaGreat.pushAll (goesC ca C) a.res) := by
    unfold retC
    rw [if_pos r1, h.top]
    simp only [List.map_cons]
    rw [r2, if_neg (by rw [hg.n]; unfold Af.res at hh; omega)]
    rfl
  rw [e]
  refine ⟨rfl, pushAll_few (goes_small hs), h.goes.pushAll (fun v hv => ?_) hh⟩
  exact ha.word (List.mem_append.2 (.inl (List.mem_of_mem_drop (List.mem_of_mem_take hv))))
theorem Rep.ret_no (h : Rep sz ca C (a :: g :: rs9)) (hh : ¬ (g.ops.length + a.res.length : Int) ≤ g.f.lay.height) : retC ca C = (250, C) := by
  obtain ⟨r1, r2⟩ := h.res
  have hg := h.core.each g (by simp)
  unfold retC
  rw [if_pos r1, h.top]
  simp only [List.map_cons]
  rw [r2, if_pos (by rw [hg.n]; unfold Af.res at hh; omega)]
theorem Rep.ret_last (h : Rep sz ca C [a]) : retC ca C = (250, C) := by
  obtain ⟨r1, r2⟩ := h.res
  unfold retC
  rw [if_pos r1, h.top]
  rfl
theorem Rep.drop (h : Rep sz ca C (a :: rs9)) (hs : Few n C.S C.L) : (dropC ca C).1 = 0 ∧ Few n (dropC ca C).2.S (dropC ca C).2.L ∧ Rep sz ca (dropC ca C).2 rs9 := by
  have e : dropC ca C = (0, goesC ca C) := by unfold dropC; rw [h.top]
  rw [e]
  exact ⟨rfl, goes_small hs, h.goes⟩
end
end Go.Proofs.YtpfnnmcokbolhaaGreat
/- Frames as lists (the twin), beside a chain. -/
namespace Go.Proofs.YtpfnnmcokbolhaaGreat
open Go.RowKit
/-- a frame as a list; link: what the chain's link says -/
structure Md where
  lay : Lay
  slots : List (Int × Int)
  ops : List (Int × Int)
  which : Int
  link : Int
/-- a pointer, but for its address -/
structure Pf where
  depth : Int
  slot : Int
  which : Int
/-- lists without addresses -/
structure Nt where
  M : List Md
  P : List Pf
  many : Int
structure Tw where
  C : Ch
  M : List Md
  Q : List (Int × Pf)
  many : Int
def Tw.N (T : Tw) : Nt := ⟨T.M, T.Q.map (·.2), T.many⟩
def here (Q : List (Int × Pf)) (v : Int × Int) : Int × Int := if v.1 = 4 ∧ 0 < v.2 then (4, ((Q[(v.2 - 1).toNat]?).map (·.1)).getD 0) else v
def zargs (l : Lay) : List (Int × Int) := (l.slots.take l.args.toNat).map fun t => (t, 0)
def Md.set (m : Md) (i : Nat) (v : Int × Int) : Md := { m with slots := m.slots.set i v }
def Md.withOps (m : Md) (ops : List (Int × Int)) : Md := { m with ops := ops }
def Md.res (m : Md) : List (Int × Int) := (m.slots.drop m.lay.args.toNat).take m.lay.res.toNat
/-- the frame at a depth -/
def getAt (d : Nat) : List Md → Option Md
  | [] => none
  | m :: post => if post.length = d then some m else getAt d post
def modAt (d : Nat) (g : Md → Md) : List Md → List Md
  | [] => []
  | m :: post => if post.length = d then g m :: post else m :: modAt d g post
/-- the topmost pointer, of operands the topmost last -/
def topPtr (ops : List (Int × Int)) : Option (Int × Int) := ops.reverse.find? fun v => decide (v.1 = 4) && decide (v.2 ≠ 0)
/-- a call, as far as the lists know of it -/
structure Op25 where
  kind : Int
  n : Int
  l : Lay
  v : Int × Int
def Op25.val (o : Op25) : Int × Int := if o.v.1 = 4 then (4, 0) else o.v
def Nt.begun (N : Nt) (l : Lay) (args : List (Int × Int)) (link : Int) (M : List Md) : Nt := ⟨⟨l, fillV l.slots args, [], N.many + 1, link⟩ :: M, N.P, N.many + 1⟩
def callOk (l : Lay) (place : Int) (f : Md) : Bool := l.can place && decide (l.args ≤ f.ops.length) && fitsB (l.slots.take l.args.toNat) (f.ops.drop (f.ops.length - l.args.toNat))
def putN (N : Nt) (n : Int) : Nt := match N.M with
  | [] => N
  | f :: _ => match topPtr f.ops with
    | none => N
    | some v => match N.P[(v.2 - 1).toNat]? with
      | none => N
      | some p => match getAt p.depth.toNat N.M with
        | none => N
        | some m => if m.which = p.which then { N with M := modAt p.depth.toNat (fun m => m.set p.slot.toNat (1, n)) N.M } else N
def slotIs (l : Lay) (i t : Int) : Bool := rangeB i 0 (l.slots.length - 1) && decide (l.slots[i.toNat]?.getD 0 = t)
def stepN (N : Nt) (o : Op25) : Nt := match N.M with
  | [] => if o.l.can 0 then N.begun o.l (zargs o.l) 0 [] else N
  | f :: M =>
    if o.kind = 0 then
      if callOk o.l 1 f then N.begun o.l (f.ops.drop (f.ops.length - o.l.args.toNat)) (128 + f.ops.length) (f.withOps (f.ops.take (f.ops.length - o.l.args.toNat)) :: M) else N
    else if o.kind = 1 then
      if o.l.can 1 then N.begun o.l (zargs o.l) (128 + f.ops.length) (f :: M) else N
    else if o.kind = 2 then match M with
      | [] => N
      | g :: M' => if (g.ops.length + f.res.length : Int) ≤ g.lay.height then { N with M := g.withOps (g.ops ++ f.res) :: M' } else N
    else if o.kind = 3 then { N with M := M }
    else if o.kind = 5 then
      if okV o.val.1 o.val.2 = true ∧ (f.ops.length : Int) ≠ f.lay.height then { N with M := f.withOps (f.ops ++ [o.val]) :: M } else N
    else if o.kind = 6 then { N with M := f.withOps f.ops.dropLast :: M }
    else if o.kind = 8 then
      if slotIs f.lay o.n o.val.1 = true ∧ okV o.val.1 o.val.2 = true then { N with M := f.set o.n.toNat o.val :: M } else N
    else if o.kind = 9 then
      if slotIs f.lay o.n 1 then ⟨(if (f.ops.length : Int) ≠ f.lay.height then f.withOps (f.ops ++ [(4, (N.P.length : Int) + 1)]) else f) :: M, N.P ++ [⟨(M.length : Int), o.n, f.which⟩], N.many⟩ else N
    else if o.kind = 11 then putN N o.v.2
    else N
def VOk (k : Nat) (v : Int × Int) : Prop := okV v.1 v.2 = true ∧ (v.1 = 4 → v.2 ≤ k)
structure MA (Q : List (Int × Pf)) (m : Md) (a : Af) : Prop where
  lay : m.lay = a.f.lay
  slots : a.slots = m.slots.map (here Q)
  ops : a.ops = m.ops.map (here Q)
  link : m.link = a.link
  vs : ∀ v ∈ m.slots, VOk Q.length v
  vo : ∀ v ∈ m.ops, VOk Q.length v
def shape (z : Md × Af) : Int × List Int × Int := (z.1.which, z.1.lay.slots, z.2.f.base)
structure PtOk (many : Int) (sh : List (Int × List Int × Int)) (q : Int × Pf) : Prop where
  w : q.2.which ≤ many
  d : 0 ≤ q.2.depth
  a : 0 ≤ q.1
  at_ : ∀ pre x post, sh = pre ++ x :: post → (post.length : Int) = q.2.depth → x.1 = q.2.which → ∃ (i : Nat) (hi : i < x.2.1.length), q.2.slot = i ∧ x.2.1[i] = 1 ∧ q.1 = x.2.2 + i
structure Sim (sz ca : Int) (n : Nat) (T : Tw) (Z : List (Md × Af)) : Prop where
  M : T.M = Z.map (·.1)
  rep : Rep sz ca T.C (Z.map (·.2))
  few : Few n T.C.S T.C.L
  ma : ∀ z ∈ Z, MA T.Q z.1 z.2
  pts : ∀ q ∈ T.Q, PtOk T.many (Z.map shape) q
  top : ∀ z ∈ Z, z.1.which ≤ T.many
  n1 : 0 ≤ T.many ∧ T.many ≤ n
  n2 : T.Q.length ≤ n
  n3 : Z.length ≤ n
  b0 : 129 ≤ sz ∧ sz ≤ 2000
section
variable {Q : List (Int × Pf)} {k : Nat} {v : Int × Int}
theorem here_0 (t : Int) : here Q (t, 0) = (t, 0) := by simp [here]
theorem here_no (h : v.1 ≠ 4) : here Q v = v := by unfold here; rw [if_neg (fun q => h q.1)]
theorem here_ty (v : Int × Int) : (here Q v).1 = v.1 := by
  unfold here
  split
  · rename_i h; exact h.1.symm
  · rfl
theorem here_ok (hq : ∀ q ∈ Q, 0 ≤ q.1) (h : VOk Q.length v) : okV (here Q v).1 (here Q v).2 = true := by
  unfold here
  split
  · rename_i q
    obtain ⟨q1, q2⟩ := q
    have := h.2 q1
    have hi : (v.2 - 1).toNat < Q.length := by omega
    rw [List.getElem?_eq_getElem hi]
    have h0 := hq _ (List.getElem_mem hi)
    simp only [Option.map_some, Option.getD_some]
    generalize Q[(v.2 - 1).toNat].1 = x at h0
    simp [okV, knownB, h0]
  · exact h.1
theorem here_more {x : Int × Pf} (h : VOk Q.length v) : here (Q ++ [x]) v = here Q v := by
  unfold here
  split
  · rename_i q
    have := h.2 q.1
    rw [List.getElem?_append_left (by omega)]
  · rfl
theorem VOk.mono {m : Nat} (h : VOk k v) (hm : k ≤ m) : VOk m v := ⟨h.1, fun q => by have := h.2 q; omega⟩
theorem fits_here (hq : ∀ q ∈ Q, 0 ≤ q.1) : ∀ {ts : List Int} {vs : List (Int × Int)}, (∀ v ∈ vs, VOk Q.length v) → fitsB ts (vs.map (here Q)) = fitsB ts vs
  | [], [], _ => rfl
  | [], _ :: _, _ => rfl
  | _ :: _, [], _ => rfl
  | t :: ts, v :: vs, h => by
    have h1 := h v List.mem_cons_self
    simp only [List.map_cons, fitsB]
    rw [here_ok hq h1, h1.1, here_ty, fits_here hq (fun u hu => h u (List.mem_cons_of_mem _ hu))]
theorem fillV_map : ∀ (ts : List Int) (vs : List (Int × Int)), (fillV ts vs).map (here Q) = fillV ts (vs.map (here Q))
  | [], _ => rfl
  | t :: ts, [] => by simp only [fillV, List.map_cons, List.map_nil, here_0]; rw [fillV_map ts []]; rfl
  | _ :: ts, v :: vs => by simp only [fillV, List.map_cons]; rw [fillV_map ts vs]
theorem fillV_vok : ∀ {ts : List Int} {vs : List (Int × Int)}, ts.all knownB = true → (∀ v ∈ vs, VOk k v) → ∀ v ∈ fillV ts vs, VOk k v
  | [], _, _, _, v, hv => by simp [fillV] at hv
  | t :: ts, [], h, h1, v, hv => by
    simp only [List.all_cons, Bool.and_eq_true] at h
    rcases List.mem_cons.1 hv with rfl | hv
    · exact ⟨knownB_okV h.1, fun _ => by show (0 : Int) ≤ k; omega⟩
    · exact fillV_vok (vs := []) h.2 h1 v hv
  | t :: ts, u :: vs, h, h1, v, hv => by
    simp only [List.all_cons, Bool.and_eq_true] at h
    rcases List.mem_cons.1 hv with rfl | hv
    · exact h1 _ List.mem_cons_self
    · exact fillV_vok h.2 (fun x hx => h1 x (List.mem_cons_of_mem _ hx)) v hv
theorem zargs_fits {l : Lay} (h : l.slots.all knownB = true) : fitsB (l.slots.take l.args.toNat) (zargs l) = true := by
  unfold zargs
  have : ∀ ts : List Int, ts.all knownB = true → fitsB ts (ts.map fun t => (t, 0)) = true := by
    intro ts
    induction ts with
    | nil => intro; rfl
    | cons t ts ih =>
      intro h
      simp only [List.all_cons, Bool.and_eq_true] at h
      simp only [List.map_cons, fitsB, Bool.and_eq_true, decide_eq_true_eq]
      exact ⟨⟨trivial, knownB_okV h.1⟩, ih h.2⟩
  refine this _ ?_
  rw [List.all_eq_true] at h ⊢
  exact fun x hx => h x (List.mem_of_mem_take hx)
theorem zargs_map (l : Lay) : (zargs l).map (here Q) = zargs l := by
  unfold zargs
  rw [List.map_map]
  refine List.map_congr_left (fun t _ => ?_)
  exact here_0 t
theorem zargs_vok {l : Lay} (h : l.slots.all knownB = true) : ∀ v ∈ zargs l, VOk k v := by
  intro v hv
  obtain ⟨t, ht, rfl⟩ := List.mem_map.1 hv
  rw [List.all_eq_true] at h
  exact ⟨knownB_okV (h t (List.mem_of_mem_take ht)), fun _ => by show (0 : Int) ≤ k; omega⟩
end
end Go.Proofs.YtpfnnmcokbolhaaGreat
/- The twin's calls: a chain and lists stay alike. -/
namespace Go.Proofs.YtpfnnmcokbolhaaGreat
open Go.RowKit
section
variable {sz ca : Int} {n : Nat} {T : Tw} {Z : List (Md × Af)} {f g m : Md} {M : List Md} {l : Lay} {place : Int}
theorem PtOk.new {many many' : Int} {sh : List (Int × List Int × Int)} {q : Int × Pf} (h : PtOk many sh q) {x : Int × List Int × Int} (hx : many < x.1) (hm : many ≤ many') : PtOk many' (x :: sh) q := by
  refine ⟨Int.le_trans h.w hm, h.d, h.a, fun pre y post e hd hw => ?_⟩
  cases pre with
  | nil =>
    simp only [List.nil_append, List.cons.injEq] at e
    have := h.w
    rw [← e.1] at hw
    omega
  | cons c pre =>
    simp only [List.cons_append, List.cons.injEq] at e
    exact h.at_ pre y post e.2 hd hw
theorem PtOk.old {many : Int} {sh : List (Int × List Int × Int)} {q : Int × Pf} {x : Int × List Int × Int} (h : PtOk many (x :: sh) q) : PtOk many sh q :=
  ⟨h.w, h.d, h.a, fun pre y post e hd hw => h.at_ (x :: pre) y post (by rw [e]; rfl) hd hw⟩
theorem Sim.cons (h : Sim sz ca n T Z) (hM : T.M = f :: M) : ∃ a Z0, Z = (f, a) :: Z0 ∧ M = Z0.map (·.1) := by
  have e := h.M
  rw [hM] at e
  cases Z with
  | nil => cases e
  | cons z Z0 =>
    simp only [List.map_cons, List.cons.injEq] at e
    exact ⟨z.2, Z0, by rw [e.1], e.2⟩
theorem Sim.nil (h : Sim sz ca n T Z) (hM : T.M = []) : Z = [] := by
  have e := h.M
  rw [hM] at e
  cases Z with
  | nil => rfl
  | cons z Z0 => cases e
theorem Sim.q0 (h : Sim sz ca n T Z) : ∀ q ∈ T.Q, 0 ≤ q.1 := fun q hq => (h.pts q hq).a
theorem Sim.mono (h : Sim sz ca n T Z) {k : Nat} (hk : n ≤ k) : Sim sz ca k T Z := ⟨h.M, h.rep, h.few.mono hk, h.ma, h.pts, h.top, ⟨h.n1.1, by have := h.n1.2; omega⟩, Nat.le_trans h.n2 hk, Nat.le_trans h.n3 hk, h.b0⟩
theorem Sim.run (h : Sim sz ca n T Z) (hn : n ≤ 300) (hc : l.can place = true) :
    (runC sz T.C l (zargs l) place).1 = 0 ∧ ∃ Z', Sim sz ca (n + 1) ⟨(runC sz T.C l (zargs l) place).2, ⟨l, fillV l.slots (zargs l), [], T.many + 1, place * 128 + (match T.M with | [] => 0 | f :: _ => (f.ops.length : Int))⟩ :: T.M, T.Q, T.many + 1⟩ Z' := by
  obtain ⟨hl, p0, p1⟩ := can_iff' hc
  have hkn := ((layOk_iff l).1 hl).1
  obtain ⟨r1, r2, fr, f1, f2, f3, f4, r3⟩ := h.rep.run h.few hn h.b0.1 h.b0.2 (l := l) (place := place) (args := zargs l) hc (zargs_fits hkn)
  refine ⟨r1, (⟨l, fillV l.slots (zargs l), [], T.many + 1, place * 128 + (match T.M with | [] => 0 | f :: _ => (f.ops.length : Int))⟩, fr) :: Z, ?_, r3, r2, fun z hz => ?_, fun q hq => ?_, fun z hz => ?_, ?_, Nat.le_succ_of_le h.n2, by have := h.n3; simp only [List.length_cons]; omega, h.b0⟩
  · show _ :: T.M = _ :: Z.map (·.1)
    rw [h.M]
  · rcases List.mem_cons.1 hz with rfl | hz
    · refine ⟨f1.symm, ?_, f3, ?_, fun v hv => ?_, fun v hv => by cases hv⟩
      · show fr.slots = (fillV l.slots (zargs l)).map (here T.Q)
        rw [f2, fillV_map, zargs_map]
      · show place * 128 + _ = fr.link
        rw [f4, h.M]
        cases Z with
        | nil => rfl
        | cons z Z0 =>
          have := (h.ma z List.mem_cons_self).ops
          simp only [List.map_cons]
          rw [this, List.length_map]
      · exact fillV_vok hkn (zargs_vok hkn) v hv
    · exact h.ma z hz
  · exact (h.pts q hq).new (by show T.many < T.many + 1; omega) (by show T.many ≤ T.many + 1; omega)
  · rcases List.mem_cons.1 hz with rfl | hz
    · exact Int.le_refl _
    · have := h.top z hz
      show z.1.which ≤ T.many + 1
      omega
  · have := h.n1
    show 0 ≤ T.many + 1 ∧ T.many + 1 ≤ ((n + 1 : Nat) : Int)
    omega
theorem Sim.call (h : Sim sz ca n T Z) (hn : n ≤ 300) (hM : T.M = f :: M) (hc : callOk l place f = true) :
    (callC sz T.C l place).1 = 0 ∧ 0 ≤ l.args ∧ l.args ≤ f.ops.length ∧ ∃ Z', Sim sz ca (n + 1) ⟨(callC sz T.C l place).2, ⟨l, fillV l.slots (f.ops.drop (f.ops.length - l.args.toNat)), [], T.many + 1, place * 128 + f.ops.length⟩ :: f.withOps (f.ops.take (f.ops.length - l.args.toNat)) :: M, T.Q, T.many + 1⟩ Z' := by
  obtain ⟨a, Z0, rfl, rfl⟩ := h.cons hM
  simp only [callOk, Bool.and_eq_true, decide_eq_true_eq] at hc
  obtain ⟨⟨hc, hlo⟩, hf⟩ := hc
  obtain ⟨hl, p0, p1⟩ := can_iff' hc
  obtain ⟨hkn, -, a0, -⟩ := (layOk_iff l).1 hl
  obtain ⟨k, hk⟩ := Int.eq_ofNat_of_zero_le a0
  have hma := h.ma (f, a) List.mem_cons_self
  have hlen : a.ops.length = f.ops.length := by rw [hma.ops, List.length_map]
  have hkl : k ≤ f.ops.length := by omega
  rw [hk] at hf
  simp only [Int.toNat_natCast] at hf
  have hvd : ∀ v ∈ f.ops.drop (f.ops.length - k), VOk T.Q.length v := fun v hv => hma.vo v (List.mem_of_mem_drop hv)
  have hdr : a.ops.drop (a.ops.length - k) = (f.ops.drop (f.ops.length - k)).map (here T.Q) := by rw [hlen, hma.ops, List.map_drop]
  obtain ⟨r1, r2, fr, f1, f2, f3, f4, r3⟩ := Rep.call h.rep h.few hn h.b0.1 h.b0.2 (l := l) (place := place) (k := k) hk hc (by rw [hlen]; exact hkl) (by rw [hdr, fits_here h.q0 hvd]; exact hf)
  refine ⟨r1, by omega, hlo, (⟨l, fillV l.slots (f.ops.drop (f.ops.length - l.args.toNat)), [], T.many + 1, place * 128 + f.ops.length⟩, fr) :: (f.withOps (f.ops.take (f.ops.length - l.args.toNat)), a.dropOps k) :: Z0, ?_, r3, r2, fun z hz => ?_, fun q hq => ?_, fun z hz => ?_, ?_, Nat.le_succ_of_le h.n2, by have := h.n3; simp only [List.length_cons] at this ⊢; omega, h.b0⟩
  · rfl
  · rcases List.mem_cons.1 hz with rfl | hz
    · refine ⟨f1.symm, ?_, f3, ?_, fun v hv => ?_, fun v hv => by cases hv⟩
      · show fr.slots = (fillV l.slots (f.ops.drop (f.ops.length - l.args.toNat))).map (here T.Q)
        rw [f2, fillV_map, hdr, hk, Int.toNat_natCast]
      · show place * 128 + _ = fr.link
        rw [f4, hlen]
      · have hv : v ∈ fillV l.slots (f.ops.drop (f.ops.length - l.args.toNat)) := hv
        rw [hk, Int.toNat_natCast] at hv
        exact fillV_vok hkn hvd v hv
    · rcases List.mem_cons.1 hz with rfl | hz
      · refine ⟨hma.lay, hma.slots, ?_, hma.link, hma.vs, fun v hv => hma.vo v (List.mem_of_mem_take hv)⟩
        show a.ops.take (a.ops.length - k) = (f.ops.take (f.ops.length - l.args.toNat)).map (here T.Q)
        rw [hlen, hma.ops, hk, Int.toNat_natCast, List.map_take]
      · exact h.ma z (List.mem_cons_of_mem _ hz)
  · exact (h.pts q hq).new (by show T.many < T.many + 1; omega) (by show T.many ≤ T.many + 1; omega)
  · rcases List.mem_cons.1 hz with rfl | hz
    · exact Int.le_refl _
    · rcases List.mem_cons.1 hz with rfl | hz
      · have := h.top _ List.mem_cons_self
        show f.which ≤ T.many + 1
        exact Int.le_trans this (by omega)
      · have := h.top z (List.mem_cons_of_mem _ hz)
        show z.1.which ≤ T.many + 1
        omega
  · have := h.n1
    show 0 ≤ T.many + 1 ∧ T.many + 1 ≤ ((n + 1 : Nat) : Int)
    omega
theorem Sim.call_no (h : Sim sz ca n T Z) (hM : T.M = f :: M) (hc : callOk l place f = false) : callC sz T.C l place = (250, T.C) := by
  obtain ⟨a, Z0, rfl, rfl⟩ := h.cons hM
  have hma := h.ma (f, a) List.mem_cons_self
  have hlen : a.ops.length = f.ops.length := by rw [hma.ops, List.length_map]
  refine Rep.call_no h.rep ?_
  rintro ⟨q1, q2, q3⟩
  have hvd : ∀ v ∈ f.ops.drop (f.ops.length - l.args.toNat), VOk T.Q.length v := fun v hv => hma.vo v (List.mem_of_mem_drop hv)
  have hdr : a.ops.drop (a.ops.length - l.args.toNat) = (f.ops.drop (f.ops.length - l.args.toNat)).map (here T.Q) := by rw [hlen, hma.ops, List.map_drop]
  rw [hdr, fits_here h.q0 hvd] at q3
  unfold callOk at hc
  rw [q1, q3, decide_eq_true (by rw [← hlen]; exact q2)] at hc
  cases hc
theorem MA.res {Q : List (Int × Pf)} {a : Af} (h : MA Q f a) : a.res = f.res.map (here Q) := by
  unfold Af.res Md.res
  rw [h.slots, h.lay, List.map_take, List.map_drop]
theorem Sim.ret (h : Sim sz ca n T Z) (hM : T.M = f :: g :: M) (hh : (g.ops.length + f.res.length : Int) ≤ g.lay.height) :
    (retC ca T.C).1 = 0 ∧ ∃ Z', Sim sz ca n ⟨(retC ca T.C).2, g.withOps (g.ops ++ f.res) :: M, T.Q, T.many⟩ Z' := by
  obtain ⟨a, Z1, rfl, e⟩ := h.cons hM
  cases Z1 with
  | nil => cases e
  | cons z Z0 =>
    obtain ⟨g', b⟩ := z
    simp only [List.map_cons, List.cons.injEq] at e
    obtain ⟨rfl, rfl⟩ := e
    have hma := h.ma (f, a) List.mem_cons_self
    have hmb := h.ma (g, b) (by simp)
    have hlen : b.ops.length = g.ops.length := by rw [hmb.ops, List.length_map]
    obtain ⟨r1, r2, r3⟩ := Rep.ret h.rep h.few (by rw [hma.res, List.length_map, hlen, ← hmb.lay]; exact hh)
    refine ⟨r1, (g.withOps (g.ops ++ f.res), b.pushes a.res) :: Z0, rfl, r3, r2, fun z hz => ?_, fun q hq => ?_, fun z hz => ?_, h.n1, h.n2, by have := h.n3; simp only [List.length_cons] at this ⊢; omega, h.b0⟩
    · rcases List.mem_cons.1 hz with rfl | hz
      · refine ⟨hmb.lay, hmb.slots, ?_, hmb.link, hmb.vs, fun v hv => ?_⟩
        · show b.ops ++ a.res = (g.ops ++ f.res).map (here T.Q)
          rw [hmb.ops, hma.res, List.map_append]
        · rcases List.mem_append.1 hv with q | q
          · exact hmb.vo v q
          · exact hma.vs v (List.mem_of_mem_drop (List.mem_of_mem_take q))
      · exact h.ma z (List.mem_cons_of_mem _ (List.mem_cons_of_mem _ hz))
    · exact (h.pts q hq).old
    · rcases List.mem_cons.1 hz with rfl | hz
      · exact h.top (g, b) (by simp)
      · exact h.top z (List.mem_cons_of_mem _ (List.mem_cons_of_mem _ hz))
theorem Sim.ret_no (h : Sim sz ca n T Z) (hM : T.M = f :: g :: M) (hh : ¬ (g.ops.length + f.res.length : Int) ≤ g.lay.height) : retC ca T.C = (250, T.C) := by
  obtain ⟨a, Z1, rfl, e⟩ := h.cons hM
  cases Z1 with
  | nil => cases e
  | cons z Z0 =>
    obtain ⟨g', b⟩ := z
    simp only [List.map_cons, List.cons.injEq] at e
    obtain ⟨rfl, rfl⟩ := e
    have hma := h.ma (f, a) List.mem_cons_self
    have hmb := h.ma (g, b) (by simp)
    have hlen : b.ops.length = g.ops.length := by rw [hmb.ops, List.length_map]
    exact Rep.ret_no h.rep (by rw [hma.res, List.length_map, hlen, ← hmb.lay]; exact hh)
theorem Sim.ret_last (h : Sim sz ca n T Z) (hM : T.M = [f]) : retC ca T.C = (250, T.C) := by
  obtain ⟨a, Z1, rfl, e⟩ := h.cons hM
  have : Z1 = [] := by simpa using e.symm
  subst this
  exact Rep.ret_last h.rep
theorem Sim.drop (h : Sim sz ca n T Z) (hM : T.M = f :: M) : (dropC ca T.C).1 = 0 ∧ ∃ Z', Sim sz ca n ⟨(dropC ca T.C).2, M, T.Q, T.many⟩ Z' := by
  obtain ⟨a, Z0, rfl, rfl⟩ := h.cons hM
  obtain ⟨r1, r2, r3⟩ := Rep.drop h.rep h.few
  exact ⟨r1, Z0, rfl, r3, r2, fun z hz => h.ma z (List.mem_cons_of_mem _ hz), fun q hq => (h.pts q hq).old, fun z hz => h.top z (List.mem_cons_of_mem _ hz), h.n1, h.n2, by have := h.n3; simp only [List.length_cons] at this; omega, h.b0⟩
/-- the top frame turns, its place and slots' types do not -/
theorem Sim.turn {a a' : Af} {Z0 : List (Md × Af)} {f' : Md} {C' : Ch} (h : Sim sz ca n T ((f, a) :: Z0)) (hr : Rep sz ca C' (a' :: Z0.map (·.2))) (hf : Few n C'.S C'.L) (hma : MA T.Q f' a') (h1 : f'.which = f.which) (h2 : f'.lay = f.lay) (h3 : a'.f.base = a.f.base) : Sim sz ca n ⟨C', f' :: Z0.map (·.1), T.Q, T.many⟩ ((f', a') :: Z0) := by
  refine ⟨rfl, hr, hf, fun z hz => ?_, fun q hq => ?_, fun z hz => ?_, h.n1, h.n2, h.n3, h.b0⟩
  · rcases List.mem_cons.1 hz with rfl | hz
    · exact hma
    · exact h.ma z (List.mem_cons_of_mem _ hz)
  · have := h.pts q hq
    simp only [List.map_cons] at this ⊢
    have e : shape (f', a') = shape (f, a) := by simp [shape, h1, h2, h3]
    rw [e]
    exact this
  · rcases List.mem_cons.1 hz with rfl | hz
    · have := h.top _ List.mem_cons_self
      show f'.which ≤ T.many
      rw [h1]
      exact this
    · exact h.top z (List.mem_cons_of_mem _ hz)
theorem Sim.push (h : Sim sz ca n T Z) (hM : T.M = f :: M) {v : Int × Int} (hv : VOk T.Q.length v) (hh : (f.ops.length : Int) ≠ f.lay.height) :
    (pushC T.C (here T.Q v)).1 = 0 ∧ ∃ Z', Sim sz ca n ⟨(pushC T.C (here T.Q v)).2, f.withOps (f.ops ++ [v]) :: M, T.Q, T.many⟩ Z' := by
  obtain ⟨a, Z0, rfl, rfl⟩ := h.cons hM
  have hma := h.ma (f, a) List.mem_cons_self
  have hlen : a.ops.length = f.ops.length := by rw [hma.ops, List.length_map]
  obtain ⟨r1, r2, r3⟩ := Rep.push h.rep (here_ok h.q0 hv) (by rw [hlen, ← hma.lay]; exact hh)
  refine ⟨r1, _, h.turn r3 (push_few h.few _) ⟨hma.lay, hma.slots, ?_, hma.link, hma.vs, fun u hu => ?_⟩ rfl rfl rfl⟩
  · show a.ops ++ [here T.Q v] = (f.ops ++ [v]).map (here T.Q)
    rw [hma.ops]; simp
  · rcases List.mem_append.1 hu with q | q
    · exact hma.vo u q
    · obtain rfl : u = v := by simpa using q
      exact hv
theorem Sim.push_no (h : Sim sz ca n T Z) (hM : T.M = f :: M) {v : Int × Int} (hno : okV v.1 v.2 = false ∨ (f.ops.length : Int) = f.lay.height) : pushC T.C v = (250, T.C) := by
  obtain ⟨a, Z0, rfl, rfl⟩ := h.cons hM
  have hma := h.ma (f, a) List.mem_cons_self
  have hlen : a.ops.length = f.ops.length := by rw [hma.ops, List.length_map]
  exact Rep.push_no h.rep (by rw [hlen, ← hma.lay]; exact hno)
theorem Sim.pop (h : Sim sz ca n T Z) (hM : T.M = f :: M) {o : List (Int × Int)} {v : Int × Int} (ho : f.ops = o ++ [v]) :
    (popC T.C).1 = (here T.Q v, 0) ∧ ∃ Z', Sim sz ca n ⟨(popC T.C).2, f.withOps o :: M, T.Q, T.many⟩ Z' := by
  obtain ⟨a, Z0, rfl, rfl⟩ := h.cons hM
  have hma := h.ma (f, a) List.mem_cons_self
  have hao : a.ops = o.map (here T.Q) ++ [here T.Q v] := by rw [hma.ops, ho]; simp
  obtain ⟨r1, r2, r3⟩ := Rep.pop h.rep hao
  refine ⟨r1, _, h.turn r3 (pop_few h.few) ⟨hma.lay, hma.slots, ?_, hma.link, hma.vs, fun u hu => ?_⟩ rfl rfl rfl⟩
  · show a.ops.dropLast = o.map (here T.Q)
    rw [hao]; simp
  · exact hma.vo u (by rw [ho]; exact List.mem_append.2 (.inl hu))
theorem Sim.pop_no (h : Sim sz ca n T Z) (hM : T.M = f :: M) (ho : f.ops = []) : popC T.C = (((0, 0), 250), T.C) := by
  obtain ⟨a, Z0, rfl, rfl⟩ := h.cons hM
  exact Rep.pop_no h.rep (by rw [(h.ma (f, a) List.mem_cons_self).ops, ho]; rfl)
theorem slotIs_iff {l : Lay} {i t : Int} : slotIs l i t = true ↔ ∃ (j : Nat) (hj : j < l.slots.length), i = j ∧ t = l.slots[j] := by
  simp only [slotIs, rangeB, Bool.and_eq_true, decide_eq_true_eq]
  constructor
  · rintro ⟨⟨q1, q2⟩, q3⟩
    obtain ⟨j, rfl⟩ := Int.eq_ofNat_of_zero_le q1
    have hj : j < l.slots.length := by omega
    refine ⟨j, hj, rfl, ?_⟩
    simp only [Int.toNat_natCast, List.getElem?_eq_getElem hj, Option.getD_some] at q3
    exact q3.symm
  · rintro ⟨j, hj, rfl, rfl⟩
    refine ⟨⟨by omega, by omega⟩, ?_⟩
    simp [List.getElem?_eq_getElem hj]
theorem MA.set {Q : List (Int × Pf)} {a : Af} (h : MA Q f a) {i : Nat} {v : Int × Int} (hv : VOk Q.length v) : MA Q (f.set i v) (a.setSlot i (here Q v)) := by
  refine ⟨h.lay, ?_, h.ops, h.link, fun u hu => ?_, h.vo⟩
  · show a.slots.set i (here Q v) = (f.slots.set i v).map (here Q)
    rw [h.slots, List.map_set]
  · rcases List.mem_or_eq_of_mem_set hu with q | rfl
    · exact h.vs u q
    · exact hv
theorem Sim.store (h : Sim sz ca n T Z) (hM : T.M = f :: M) {i : Int} {v : Int × Int} (hv : okV v.1 v.2 = true) (hp : v.1 = 4 → v.2 = 0) (hs : slotIs f.lay i v.1 = true) :
    (storeC T.C i v).1 = 0 ∧ 0 ≤ i ∧ i < f.slots.length ∧ ∃ Z', Sim sz ca n ⟨(storeC T.C i v).2, f.set i.toNat v :: M, T.Q, T.many⟩ Z' := by
  obtain ⟨a, Z0, rfl, rfl⟩ := h.cons hM
  have hma := h.ma (f, a) List.mem_cons_self
  obtain ⟨j, hj, rfl, ht⟩ := slotIs_iff.1 hs
  have hla : f.lay = a.f.lay := hma.lay
  have hj' : j < a.f.lay.slots.length := by rw [← hla]; exact hj
  obtain ⟨r1, r2, r3⟩ := Rep.store h.rep hj' (v := v) (by simp only [← hla]; exact ht) hv
  have hsl := ((h.rep.core.each a List.mem_cons_self)).len
  have hfl : f.slots.length = a.slots.length := by rw [hma.slots, List.length_map]
  have hvk : VOk T.Q.length v := ⟨hv, fun q => by rw [hp q]; omega⟩
  have hh : here T.Q v = v := by
    unfold here
    rw [if_neg (fun q => by have := hp q.1; omega)]
  have hm2 := hma.set (i := j) hvk
  rw [hh] at hm2
  exact ⟨r1, by omega, by omega, _, h.turn r3 (store_few h.few _ _) (by rw [Int.toNat_natCast]; exact hm2) rfl rfl rfl⟩
theorem Sim.store_no (h : Sim sz ca n T Z) (hM : T.M = f :: M) {i : Int} {v : Int × Int} (hno : okV v.1 v.2 = false ∨ slotIs f.lay i v.1 = false) : storeC T.C i v = (250, T.C) := by
  obtain ⟨a, Z0, rfl, rfl⟩ := h.cons hM
  have hla : f.lay = a.f.lay := (h.ma (f, a) List.mem_cons_self).lay
  refine Rep.store_no h.rep ?_
  rintro ⟨j, hj, e, ht, hv⟩
  rcases hno with q | q
  · rw [hv] at q; cases q
  · have : slotIs f.lay i v.1 = true := slotIs_iff.2 ⟨j, by rw [hla]; exact hj, e, by simp only [hla]; exact ht⟩
    rw [this] at q; cases q
theorem MA.more {Q : List (Int × Pf)} {a : Af} (h : MA Q m a) (x : Int × Pf) : MA (Q ++ [x]) m a := by
  have e : ∀ vs : List (Int × Int), (∀ v ∈ vs, VOk Q.length v) → vs.map (here (Q ++ [x])) = vs.map (here Q) := fun vs hv => List.map_congr_left (fun v q => here_more (hv v q))
  exact ⟨h.lay, by rw [h.slots, e _ h.vs], by rw [h.ops, e _ h.vo], h.link, fun v hv => (h.vs v hv).mono (by simp), fun v hv => (h.vo v hv).mono (by simp)⟩
/-- a slot is pointed to -/
theorem Sim.addr (h : Sim sz ca n T Z) (hM : T.M = f :: M) {i : Int} (hs : slotIs f.lay i 1 = true) : ∃ a, (addrC T.C i) = ((4, a), 0) ∧ 0 ≤ a ∧ Sim sz ca (n + 1) ⟨T.C, T.M, T.Q ++ [(a, ⟨(M.length : Int), i, f.which⟩)], T.many⟩ Z := by
  obtain ⟨a, Z0, rfl, rfl⟩ := h.cons hM
  have hma := h.ma (f, a) List.mem_cons_self
  obtain ⟨j, hj, rfl, ht⟩ := slotIs_iff.1 hs
  have hla : f.lay = a.f.lay := hma.lay
  have hj' : j < a.f.lay.slots.length := by rw [← hla]; exact hj
  have hok := h.rep.core.each a List.mem_cons_self
  have hb := h.rep.core.inv.of h.rep.core.ok (x := a.seg) (List.mem_append.2 (.inl (h.rep.core.live a List.mem_cons_self)))
  have hlo := hok.lo
  refine ⟨a.f.base + j, Rep.addr h.rep hj' (by simp only [← hla]; exact ht.symm), by omega, h.M, h.rep, h.few.mono (by omega), fun z hz => (h.ma z hz).more _, fun q hq => ?_, h.top, ⟨h.n1.1, by have := h.n1.2; show T.many ≤ ((n + 1 : Nat) : Int); omega⟩, by have := h.n2; simp; omega, by have := h.n3; omega, h.b0⟩
  rcases List.mem_append.1 hq with q1 | q1
  · exact h.pts q q1
  · obtain rfl : q = _ := by simpa using q1
    refine ⟨h.top _ List.mem_cons_self, Int.natCast_nonneg _, by show 0 ≤ a.f.base + (j : Int); omega, fun pre x post e hd hw => ?_⟩
    cases pre with
    | nil =>
      simp only [List.nil_append, List.map_cons, List.cons.injEq] at e
      obtain ⟨rfl, -⟩ := e
      exact ⟨j, hj, rfl, ht.symm, rfl⟩
    | cons c pre =>
      have := congrArg List.length e
      simp at this hd
      omega
theorem Sim.addr_no (h : Sim sz ca n T Z) (hM : T.M = f :: M) {i : Int} (hs : slotIs f.lay i 1 = false) : (addrC T.C i).2 = 250 := by
  obtain ⟨a, Z0, rfl, rfl⟩ := h.cons hM
  have hla : f.lay = a.f.lay := (h.ma (f, a) List.mem_cons_self).lay
  refine Rep.addr_no h.rep ?_
  rintro ⟨j, hj, e, ht⟩
  have : slotIs f.lay i 1 = true := slotIs_iff.2 ⟨j, by rw [hla]; exact hj, e, by simp only [hla]; exact ht.symm⟩
  rw [this] at hs
  cases hs
theorem getAt_some : ∀ {M : List Md} {d : Nat} {m : Md}, getAt d M = some m → ∃ pre post, M = pre ++ m :: post ∧ post.length = d ∧ ∀ g, modAt d g M = pre ++ g m :: post
  | [], _, _, h => by cases h
  | x :: M, d, m, h => by
    unfold getAt at h
    split at h
    · rename_i e
      simp only [Option.some.injEq] at h
      subst h
      exact ⟨[], M, rfl, e, fun g => by unfold modAt; rw [if_pos e]; rfl⟩
    · rename_i e
      obtain ⟨pre, post, e1, e2, e3⟩ := getAt_some h
      exact ⟨x :: pre, post, by rw [e1]; rfl, e2, fun g => by unfold modAt; rw [if_neg e, e3]; rfl⟩
theorem split_map {α β : Type} {F : α → β} : ∀ {pre : List β} {x : β} {post : List β} {Z : List α}, Z.map F = pre ++ x :: post → ∃ Zp z Zq, Z = Zp ++ z :: Zq ∧ Zp.map F = pre ∧ F z = x ∧ Zq.map F = post
  | [], x, post, [], h => by simp at h
  | [], x, post, z :: Z, h => by
    simp only [List.map_cons, List.nil_append, List.cons.injEq] at h
    exact ⟨[], z, Z, rfl, rfl, h.1, h.2⟩
  | y :: pre, x, post, [], h => by simp at h
  | y :: pre, x, post, z :: Z, h => by
    simp only [List.map_cons, List.cons_append, List.cons.injEq] at h
    obtain ⟨Zp, u, Zq, e1, e2, e3, e4⟩ := split_map h.2
    exact ⟨z :: Zp, u, Zq, by rw [e1]; rfl, by rw [List.map_cons, e2, h.1], e3, e4⟩
/-- a number is put where is pointed to -/
theorem Sim.put (h : Sim sz ca n T Z) {q : Int × Pf} (hq : q ∈ T.Q) (hg : getAt q.2.depth.toNat T.M = some m) (hw : m.which = q.2.which) (x : Int) :
    (putC T.C (4, q.1) (1, x)).1 = 0 ∧ 0 ≤ q.2.slot ∧ q.2.slot < m.slots.length ∧ getC (putC T.C (4, q.1) (1, x)).2 (4, q.1) = ((1, x), 0) ∧
    ∃ Z', Sim sz ca n ⟨(putC T.C (4, q.1) (1, x)).2, modAt q.2.depth.toNat (fun m => m.set q.2.slot.toNat (1, x)) T.M, T.Q, T.many⟩ Z' := by
  obtain ⟨pre, post, e1, e2, e3⟩ := getAt_some hg
  rw [e3]
  have e := h.M
  rw [e1] at e
  obtain ⟨Zp, ⟨m', a⟩, Zq, rfl, rfl, rfl, rfl⟩ := split_map e.symm
  simp only at hw ⊢
  have hma := h.ma (m', a) (by simp)
  have hpt := h.pts q hq
  have hd := hpt.d
  obtain ⟨i, hi, hs, ht, ha⟩ := hpt.at_ (Zp.map shape) (shape (m', a)) (Zq.map shape) (by simp) (by simp at e2 ⊢; omega) hw
  simp only [shape] at hi ht ha
  have hla : m'.lay = a.f.lay := hma.lay
  have hi' : i < a.f.lay.slots.length := by rw [← hla]; exact hi
  have ht' : a.f.lay.slots[i] = 1 := by simp only [← hla]; exact ht
  have hrep : Rep sz ca T.C (Zp.map (·.2) ++ a :: Zq.map (·.2)) := by have := h.rep; simpa using this
  obtain ⟨r1, r2, r3⟩ := hrep.putP hi' ht' x
  rw [← ha] at r1 r2 r3
  have hsl := (hrep.core.each a (by simp)).len
  have hfl : m'.slots.length = a.slots.length := by rw [hma.slots, List.length_map]
  obtain ⟨hs2, hg2⟩ := r3.getP (a := a.setSlot i (1, x)) (i := i) (by simp) hi' ht'
  have hvk : VOk T.Q.length (1, x) := ⟨by simp [okV, knownB], fun q => by cases q⟩
  have hm2 := hma.set (i := i) hvk
  have hh : here T.Q (1, x) = (1, x) := here_no (fun q => by cases q)
  rw [hh] at hm2
  refine ⟨r1, by omega, by omega, ?_, Zp ++ (m'.set i (1, x), a.setSlot i (1, x)) :: Zq, ?_, ?_, putP_few h.few _ _, fun z hz => ?_, fun u hu => ?_, fun z hz => ?_, h.n1, h.n2, by have := h.n3; simp at this ⊢; omega, h.b0⟩
  · rw [ha]
    have e5 : (a.setSlot i (1, x)).slots[i] = (1, x) := by simp [Af.setSlot]
    have e6 : (a.setSlot i (1, x)).f.base = a.f.base := rfl
    rw [e5, e6] at hg2
    rw [ha] at hg2
    exact hg2
  · rw [hs]; simp
  · simpa using r3
  · rcases List.mem_append.1 hz with q1 | q1
    · exact h.ma z (by simp [q1])
    · rcases List.mem_cons.1 q1 with rfl | q1
      · exact hm2
      · exact h.ma z (by simp [q1])
  · have := h.pts u hu
    simpa [shape, Md.set, Af.setSlot] using this
  · rcases List.mem_append.1 hz with q1 | q1
    · exact h.top z (by simp [q1])
    · rcases List.mem_cons.1 q1 with rfl | q1
      · exact h.top (m', a) (by simp)
      · exact h.top z (by simp [q1])
end
end Go.Proofs.YtpfnnmcokbolhaaGreat
/- A chain's Run and Call: what they stand on. -/
namespace Go.Proofs.YtpfnnmcokbolhaaGreat
open Go.RowKit
set_option pp.deepTerms true
/-- a slice's capacity -/
def SlOk (v : Value) : Prop := ∀ ao n c, v = .slice ao n c → n ≤ c
theorem Rdi.take {w : World} {ao : Option Addr} {n c k : Nat} {xs : List Int} (h : Rdi w (.slice ao n c) xs) (hk : k ≤ xs.length) : Rdi w (.slice ao k c) (xs.take k) := by
  rcases h with ⟨e, rfl⟩ | ⟨b, o, c', e, hb, hc⟩ | ⟨ad, c', e, rfl⟩
  · simp only [Value.slice.injEq] at e
    obtain ⟨rfl, rfl, rfl⟩ := e
    obtain rfl : k = 0 := by simpa using hk
    exact .inl ⟨rfl, by simp⟩
  · simp only [Value.slice.injEq] at e
    obtain ⟨rfl, rfl, rfl⟩ := e
    refine .inr (.inl ⟨b, o, c, by rw [List.length_take, Nat.min_eq_left hk], hb, fun i hi => ?_⟩)
    have hi' : i < xs.length := by simp at hi; omega
    rw [List.getElem_take]
    exact hc i hi'
  · simp only [Value.slice.injEq] at e
    obtain ⟨rfl, rfl, rfl⟩ := e
    obtain rfl : k = 0 := by simpa using hk
    exact .inr (.inr ⟨ad, c, rfl, by simp⟩)
theorem pushL_base {C : Ch} {sz m : Int} (ok : ChOk C) (h0 : 0 ≤ C.S.last) (he : (pushL C.S C.L sz m).1.2 = 0) : 0 ≤ (pushL C.S C.L sz m).1.1.1 ∧ (pushL C.S C.L sz m).1.1.1 ≤ 1152921504606850000 := by
  have hl := ok.last
  unfold pushL at he ⊢
  split
  · rename_i q
    rw [if_pos q] at he
    cases he
  · rename_i q
    rw [if_neg q] at he
    split
    · rename_i i hf
      obtain ⟨hi, -⟩ := fit_spec hf
      have := ok.wide _ (List.mem_append.2 (.inr (List.getElem_mem hi)))
      simp only [List.getElem?_eq_getElem hi, Option.getD_some]
      omega
    · rename_i hf
      simp only [hf] at he
      by_cases ht : (C.S.take (max sz m)).1.2 = 0
      · rw [if_pos ht]
        rcases take_cases C.S (max sz m) with e | ⟨n1, n2, e, el⟩
        · rw [e] at ht; cases ht
        · show 0 ≤ (C.S.take (max sz m)).1.1 ∧ (C.S.take (max sz m)).1.1 ≤ _
          rw [e]
          show 0 ≤ nextBase C.S.last ∧ nextBase C.S.last ≤ _
          unfold nextBase
          split <;> omega
      · rw [if_neg ht] at he
        exact absurd he ht
section
variable {w W : World} {F : List Asr} {b p k g c : Nat} {sz ca : Int} {C : Ch} {x : Value × Fr} {l : List (Value × Fr)} {S : Sp}
theorem crun1_any (W : World) : Calls Tryz.prog 50 #[] W fun e w' => (∃ u, e = .returned u) ∧ w' = W := by
  go_enter Tryz.func50, Tryz.ntmps50
  go_wp2
  go_end0
  exact ⟨⟨_, rfl⟩, rfl⟩
theorem chP_last (h : Sep w (chP b p k sz ca C F) W) : 0 ≤ C.S.last := by
  obtain ⟨fs, hf⟩ := Sep.sp (Sep.rot [_] [_] h)
  exact hf.ok.last0
theorem top_P (h : Sep w (chP b p k sz ca C F) W) (hl : C.L.live.length ≤ 1000000) : Calls Tryz.prog 47 #[.pointer (some ⟨k, 0, none⟩)] W fun e w' => Below W.heap.size W w' ∧ e = .returned (.tuple #[.agg #[.int .i64 (topOf C.L.live).1.1, .int .i64 (topOf C.L.live).1.2], .bool (topOf C.L.live).2]) := by
  refine (top_sep (F := chA b p k C.F :: F) (Sep.rot [_] [_, _] h) hl).mono ?_
  rintro e w' ⟨-, h2, h3⟩
  exact ⟨h2, h3⟩
end
end Go.Proofs.YtpfnnmcokbolhaaGreat
/- A chain's Run. -/
namespace Go.Proofs.YtpfnnmcokbolhaaGreat
open Go.RowKit
set_option pp.deepTerms true
theorem can_iff {l : Lay} {place : Int} (h : l.can place = true) : layOk l = true ∧ 0 ≤ place ∧ place < 512 := by
  simpa [Lay.can] using h
section
variable {w W : World} {F : List Asr} {b p k : Nat} {sz ca : Int} {C : Ch}
theorem chP_none (h : Sep w (chP b p k sz ca C F) W) : ∀ W' : World, Below W.heap.size W W' → Calls Tryz.prog 36 #[.pointer (some ⟨b, 0, none⟩)] W' fun e w' => e = .returned (.bool false) ∧ w' = W' := fun W' q => cnone_any (ch_k0 (show Sep w (chA b p k C.F :: spA p C.S :: lkA k p sz ca C.L :: F) W' from h.keep q)).1
theorem chP_F (h : Sep w (chP b p k sz ca C F) W) : Sep w F W := Sep.sub h (List.sublist_append_right [_, _, _] F)
set_option maxRecDepth 100000 in
set_option maxHeartbeats 2000000 in
theorem crun_any {sv av : Value} {l : Lay} {args : List (Int × Int)} {place : Int} (h : Sep w (chP b p k sz ca C F) W) (ok : ChOk C)
    (hsl : ∀ W', Sep w F W' → Rdi W' sv l.slots) (hln : l.slots.length ≤ 4194304) (hcap : SlOk sv) (hav : ∀ W', Sep w F W' → Rd W' av args) (hargs : args.length ≤ 1000000) :
    Calls Tryz.prog 19 #[.pointer (some ⟨b, 0, none⟩), layV sv l, av, .int .i64 place] W fun e w' => Sep w (chP b p k sz ca (runC sz C l args place).2 F) w' ∧ e = .returned (.int .i64 (runC sz C l args place).1) := by
  have HB0 : Hid (Below W.heap.size W (W.alloc (.cells #[sv, .int .i64 l.args, .int .i64 l.res, .int .i64 l.height] 31))) := (Below.refl _ _).alloc (Nat.le_refl _) _
  have hlay : ∀ W', Below (W.alloc (.cells #[sv, .int .i64 l.args, .int .i64 l.res, .int .i64 l.height] 31)).heap.size (W.alloc (.cells #[sv, .int .i64 l.args, .int .i64 l.res, .int .i64 l.height] 31)) W' → W'.cell? ⟨W.heap.size, 0, none⟩ = some sv ∧ W'.cell? ⟨W.heap.size, 1, none⟩ = some (.int .i64 l.args) ∧ W'.cell? ⟨W.heap.size, 2, none⟩ = some (.int .i64 l.res) ∧ W'.cell? ⟨W.heap.size, 3, none⟩ = some (.int .i64 l.height) := fun W' q => by
    have B1 := below_at q (heap_alloc_new W _) (by simp)
    exact ⟨by rw [cell_of_row _ _ 0 _ _ _ B1]; rfl, by rw [cell_of_row _ _ 1 _ _ _ B1]; rfl, by rw [cell_of_row _ _ 2 _ _ _ B1]; rfl, by rw [cell_of_row _ _ 3 _ _ _ B1]; rfl⟩
  have HLAY := Hid.mk hlay
  have HM := Hid.mk (cmay_any (fun W' q => chP_none h W' (HB0.out.trans (q.mono HB0.out.size))) (hsl _ (chP_F (h.keep HB0.out))) hln place)
  have HK := Hid.mk (fun W' (q : Below W.heap.size W W') => h.keep q)
  have HSL := Hid.mk hsl
  have HAV := Hid.mk hav
  obtain ⟨d0, d1, d2, d3⟩ := hlay _ (Below.refl _ _)
  obtain ⟨ao, c, hsv⟩ := (hsl _ (chP_F h)).shape
  subst hsv
  obtain ⟨av0, ac, hav0⟩ := (hav _ (chP_F h)).shape
  subst hav0
  have hcc := hcap _ _ _ rfl
  obtain ⟨⟨r, C'⟩, hr⟩ : ∃ r, runC sz C l args place = r := ⟨_, rfl⟩
  rw [hr]
  unfold runC at hr
  unfold layV at HM ⊢
  cases hcan : l.can place
  · rw [hcan] at hr HM
    simp only [Bool.false_eq_true, ↓reduceIte, Prod.mk.injEq] at hr HM
    obtain ⟨rfl, rfl⟩ := hr
    clear h hsl hav hlay hcan hcap
    go_enter Tryz.func19, Tryz.ntmps19
    go_wp2_with fail
    refine HM.out.mono ?_
    rintro e w1 ⟨hb1, rfl⟩
    have HE := Hid.mk (HK.out _ (HB0.out.trans (hb1.mono HB0.out.size)))
    clear HM hb1
    go_wp2_with fail
    go_ret
    exact ⟨HE.out, rfl⟩
  · obtain ⟨hk, p0, p1⟩ := can_iff hcan
    obtain ⟨-, hn, a0, a1, r0, r1, h5, h6⟩ := (layOk_iff l).1 hk
    rw [hcan] at hr HM
    simp only [↓reduceIte] at hr HM
    obtain ⟨a, ha⟩ := Int.eq_ofNat_of_zero_le a0
    have han : a ≤ l.slots.length := by omega
    have hca : a ≤ c := by omega
    have hta : l.args.toNat = a := by rw [ha]; simp
    have HA := Hid.mk ha
    clear d0 d1 d2 d3 ha
    have HF9 : Hid (∀ W', Below W.heap.size W W' → Calls Tryz.prog 46 #[.slice ao a c, .slice av0 args.length ac] W' fun e w' => Below W'.heap.size W' w' ∧ e = .returned (.bool (fitsB (l.slots.take l.args.toNat) args))) := fun W' q => by
      rw [hta]
      exact fits_any ((hsl _ (chP_F (h.keep q))).take han) (hav _ (chP_F (h.keep q))) (by omega)
    cases hfit : fitsB (l.slots.take l.args.toNat) args
    · rw [if_neg (by rw [hfit]; simp)] at hr
      rw [hfit] at HF9
      simp only [Prod.mk.injEq] at hr
      obtain ⟨rfl, rfl⟩ := hr
      clear h hsl hav hlay hcan hcap hfit
      go_enter Tryz.func19, Tryz.ntmps19
      go_wp2_with fail
      refine HM.out.mono ?_
      rintro e w1 ⟨hb1, rfl⟩
      obtain ⟨e0, e1, e2, e3⟩ := HLAY.out _ hb1
      rw [HA.out] at e1
      have HB1 := Hid.mk (HB0.out.trans (hb1.mono HB0.out.size))
      clear HM hb1
      go_wp2_with fail
      refine (HF9.out _ HB1.out).mono ?_
      rintro e w2 ⟨hb2, rfl⟩
      have HE := Hid.mk (HK.out _ (HB1.out.trans (hb2.mono HB1.out.size)))
      clear HF9 hb2
      go_wp2_with fail
      go_ret
      exact ⟨HE.out, rfl⟩
    · rw [if_pos hfit] at hr
      rw [hfit] at HF9
      clear hlay hcan hcap hfit
      have HT : Hid (∀ W', Below W.heap.size W W' → Calls Tryz.prog 47 #[.pointer (some ⟨k, 0, none⟩)] W' fun e w' => Below W'.heap.size W' w' ∧ e = .returned (.tuple #[.agg #[.int .i64 (topOf C.L.live).1.1, .int .i64 (topOf C.L.live).1.2], .bool (topOf C.L.live).2])) := fun W' q => top_P (h.keep q) ok.live
      have hK1 : ∀ W', Below W.heap.size W W' → W'.cell? ⟨b, 1, none⟩ = some (.pointer (some ⟨k, 0, none⟩)) := fun W' q => (ch_k0 (show Sep w (chA b p k C.F :: spA p C.S :: lkA k p sz ca C.L :: F) W' from h.keep q)).2.1
      have HK1 := Hid.mk hK1
      have htw := topOf_wide (fun r hr => ok.wide r (List.mem_append.2 (.inl hr)))
      have hl0 := chP_last h
      have HPB : Hid ((pushL C.S C.L sz l.words).1.2 = 0 → 0 ≤ (pushL C.S C.L sz l.words).1.1.1 ∧ (pushL C.S C.L sz l.words).1.1.1 ≤ 1152921504606850000) := fun q => pushL_base ok hl0 q
      have HOK := Hid.mk ok
      have HLK := Hid.mk hk
      obtain ⟨lv, FV, hFV, hO⟩ := ch_open (show Sep w (chA b p k C.F :: spA p C.S :: lkA k p sz ca C.L :: F) W from h)
      have HKO := Hid.mk (fun W' (q : Below W.heap.size W W') => show Sep w (chO b p k lv FV (spA p C.S :: lkA k p sz ca C.L :: F)) W' from hO.keep q)
      have HFV := Hid.mk hFV
      have hbeg : ∀ (at_ link : Int) (W' : World), 0 ≤ at_ ∧ at_ ≤ 1152921504606850000 → 0 ≤ link ∧ link ≤ 1048576 → Below W.heap.size W W' → Calls Tryz.prog 49 #[.pointer (some ⟨b, 0, none⟩), .agg #[.slice ao l.slots.length c, .int .i64 l.args, .int .i64 l.res, .int .i64 l.height], .int .i64 at_, .int .i64 link, .slice av0 args.length ac, .func (.func 50) #[] #[]] W' fun e w' => Sep w (chP b p k sz ca (beginC sz C l at_ link args id).2 F) w' ∧ e = .returned (.int .i64 (beginC sz C l at_ link args id).1) := fun at_ link W' q1 q2 q3 =>
        cbegin_O (σ := id) (first := id) (FV2 := FV) (HKO.out W' q3) HFV.out.symm HOK.out HLK.out HSL.out HAV.out hargs q1 q2 HPB.out (fun _ _ => rfl) rfl (.inl ⟨rfl, rfl⟩) (fun A B S' L' W'' q4 => (crun1_any W'').mono (fun e w' r => ⟨r.1, by rw [r.2]; exact q4⟩))
      have HBG := Hid.mk hbeg
      cases hF : C.F with
      | nil =>
        have HTN : Hid (∀ W', Below W.heap.size W W' → Calls Tryz.prog 33 #[.pointer (some ⟨b, 0, none⟩)] W' fun e w' => w' = W' ∧ e = .returned (.tuple #[.pointer none, .int .i64 250])) := fun W' q => ctop_none (chP_top (h.keep q) hF)
        rw [hF] at hr
        simp only at hr
        have HR := Hid.mk hr
        clear h hsl hav hbeg hK1 hO hFV hr
        go_enter Tryz.func19, Tryz.ntmps19
        go_wp2_with fail
        refine HM.out.mono ?_
        rintro e w1 ⟨hb1, rfl⟩
        obtain ⟨e0, e1, e2, e3⟩ := HLAY.out _ hb1
        rw [HA.out] at e1
        have HB1 := Hid.mk (HB0.out.trans (hb1.mono HB0.out.size))
        have HBA := Hid.mk hb1
        clear HM hb1
        go_wp2_with fail
        refine (HF9.out _ HB1.out).mono ?_
        rintro e w2 ⟨hb2, rfl⟩
        have HB2 := Hid.mk (HB1.out.trans (hb2.mono HB1.out.size))
        have HBA := Hid.mk (HBA.out.trans (hb2.mono HBA.out.size))
        have k1 := HK1.out _ HB2.out
        clear HF9 hb2 HB1
        go_wp2_with fail
        refine (HT.out _ HB2.out).mono ?_
        rintro e w3 ⟨hb3, rfl⟩
        obtain ⟨⟨⟨t1, t2⟩, tb⟩, ht⟩ : ∃ t, topOf C.L.live = t := ⟨_, rfl⟩
        rw [ht]
        have hr3 := HR.out
        rw [ht] at hr3 htw
        simp only at htw hr3
        have hb4 := hb3.alloc hb3.size (.cells #[.int .i64 t1, .int .i64 t2] 101)
        have HB4 := Hid.mk (HB2.out.trans (hb4.mono HB2.out.size))
        have HBA4 := Hid.mk (HBA.out.trans (hb4.mono HBA.out.size))
        clear HT hb3 hb4 HB2 k1
        go_wp2_with fail
        refine (HTN.out _ HB4.out).mono ?_
        rintro e w5 ⟨rfl, rfl⟩
        obtain ⟨e0, e1, e2, e3⟩ := HLAY.out _ HBA4.out
        have hlk : 0 ≤ place * 128 + 0 ∧ place * 128 + 0 ≤ 1048576 := by omega
        have HG := Hid.mk (HBG.out t1 (place * 128 + 0) _ ⟨htw.1, by omega⟩ hlk HB4.out)
        rw [hr3] at HG
        have s1 : IntKind.i64.wrap (place * 128) = place * 128 := by rw [IntKind.wrap_i64]; omega
        have s2 : IntKind.i64.wrap (place * 128 + 0) = place * 128 + 0 := by rw [IntKind.wrap_i64]; omega
        clear HTN HBG
        go_wp2_with fail
        simp only [Int.add_zero] at HG
        refine HG.out.mono ?_
        rintro e w6 ⟨h6, rfl⟩
        have H6 := Hid.mk h6
        clear HG h6
        go_wp2_with fail
        go_ret
        exact ⟨H6.out, rfl⟩
      | cons f fs =>
        obtain ⟨g, c2, x, ll, h1, h2, -, h4⟩ := chP_cons h hF
        have hx := ok.fr x.2 (by rw [h1]; simp)
        have hxl := ok.low x.2 (by rw [h1]; simp)
        have hll : ll.length ≤ 1000 := by have := ok.few; rw [h1] at this; simp at this; omega
        obtain ⟨-, hxn, -, -, -, -, hx5, hx6⟩ := (layOk_iff x.2.lay).1 hx.lay
        have hxb := hx.b0
        have hxo0 := hx.n0
        have hxo1 := hx.n1
        have HTS : Hid (∀ W', Below W.heap.size W W' → Calls Tryz.prog 33 #[.pointer (some ⟨b, 0, none⟩)] W' fun e w' => Below W'.heap.size W' w' ∧ e = .returned (.tuple #[.pointer (some ⟨g, ll.length * 7, none⟩), .int .i64 0])) := fun W' q => (ctop_some (h4.keep q) hll).mono (fun e w' r => ⟨r.2.1, r.2.2⟩)
        have HFR : Hid (∀ W', Below W.heap.size W W' → FrAt W' g (ll.length * 7) x.1 x.2) := fun W' q => (h4.keep q).fr
        rw [hF] at hr
        simp only at hr
        rw [← h2] at hr
        have hfree : 0 ≤ x.2.free 0 ∧ x.2.free 0 ≤ 1152921504606850000 := by unfold Fr.free; omega
        have HXO := Hid.mk hx
        have HR := Hid.mk hr
        clear h hsl hav hbeg hK1 hO hFV hr h1 h2 h4 hx
        go_enter Tryz.func19, Tryz.ntmps19
        go_wp2_with fail
        refine HM.out.mono ?_
        rintro e w1 ⟨hb1, rfl⟩
        obtain ⟨e0, e1, e2, e3⟩ := HLAY.out _ hb1
        rw [HA.out] at e1
        have HB1 := Hid.mk (HB0.out.trans (hb1.mono HB0.out.size))
        have HBA := Hid.mk hb1
        clear HM hb1
        go_wp2_with fail
        refine (HF9.out _ HB1.out).mono ?_
        rintro e w2 ⟨hb2, rfl⟩
        have HB2 := Hid.mk (HB1.out.trans (hb2.mono HB1.out.size))
        have HBA := Hid.mk (HBA.out.trans (hb2.mono HBA.out.size))
        have k1 := HK1.out _ HB2.out
        clear HF9 hb2 HB1
        go_wp2_with fail
        refine (HT.out _ HB2.out).mono ?_
        rintro e w3 ⟨hb3, rfl⟩
        obtain ⟨⟨⟨t1, t2⟩, tb⟩, ht⟩ : ∃ t, topOf C.L.live = t := ⟨_, rfl⟩
        rw [ht]
        have hr3 := HR.out
        rw [ht] at htw
        simp only at htw
        have hb4 := hb3.alloc hb3.size (.cells #[.int .i64 t1, .int .i64 t2] 101)
        have HB4 := Hid.mk (HB2.out.trans (hb4.mono HB2.out.size))
        have HBA4 := Hid.mk (HBA.out.trans (hb4.mono HBA.out.size))
        clear HT hb3 hb4 HB2 k1
        go_wp2_with fail
        refine (HTS.out _ HB4.out).mono ?_
        rintro e w5 ⟨hb5, rfl⟩
        have HB5 := Hid.mk (HB4.out.trans (hb5.mono HB4.out.size))
        have HBA5 := Hid.mk (HBA4.out.trans (hb5.mono HBA4.out.size))
        have e5 := (HFR.out _ HB5.out).c5
        have HFE := Hid.mk (ffree_any (HFR.out _ HB5.out).drew HXO.out (Int.le_refl 0) hxo0)
        clear HTS hb5 HB4 HBA4
        go_wp2_with fail
        go_region_held3 (fun X => X.cell? ⟨g, ll.length * 7 + 5, none⟩ = some (.int .i64 x.2.ops)) (first | exact s9 | exact e5) (first | (go_at_call 48; refine HFE.out.mono ?_; rintro e w6 ⟨hb6, rfl⟩; have s9 := keep_dr hb6 e5))
        have HB6 := Hid.mk (HB5.out.trans ((undrew hb6).mono HB5.out.size))
        have HBA6 := Hid.mk (HBA5.out.trans ((undrew hb6).mono HBA5.out.size))
        obtain ⟨e0, e1, e2, e3⟩ := HLAY.out _ HBA6.out
        have hlk : 0 ≤ place * 128 + x.2.ops ∧ place * 128 + x.2.ops ≤ 1048576 := by omega
        have HG := HBG.out (x.2.free 0) (place * 128 + x.2.ops) _ hfree hlk HB6.out
        rw [hr3] at HG
        have HG := Hid.mk HG
        have s1 : IntKind.i64.wrap (place * 128) = place * 128 := by rw [IntKind.wrap_i64]; omega
        have s2 : IntKind.i64.wrap (place * 128 + x.2.ops) = place * 128 + x.2.ops := by rw [IntKind.wrap_i64]; omega
        clear HBG HFE hb6 s9
        go_wp2_with fail
        refine HG.out.mono ?_
        rintro e w7 ⟨h7, rfl⟩
        have H7 := Hid.mk h7
        clear HG h7
        go_wp2_with fail
        go_ret
        exact ⟨H7.out, rfl⟩
end
end Go.Proofs.YtpfnnmcokbolhaaGreat
