/- The machine of values, part 2: what a function computes over whole values, and that the Go machine comes to it. No condition. -/
import Derived.Test.YthocpcfjfgnkgaaGreatRvA
import Derived.Maps.AppendAt
import Derived.Laws.OwnMore
namespace Go.Proofs.YthocpcfjfgnkgaaGreatRv
open Go Go.RowKit
set_option linter.unusedVariables false
set_option linter.unusedSimpArgs false
structure Base (E : Env) (M : Mdl) (w : World) : Prop where
 os : w.os = E.w0.os
 tape : w.tape = E.w0.tape
 output : w.output = E.w0.output
 size : E.w0.heap.size <= w.heap.size
 old : ∀ b, b < E.w0.heap.size -> ¬ E.U b -> w.heap[b]? = E.w0.heap[b]?
 dis : ∀ r s b, M.β r b -> M.β s b -> r = s
 lt : ∀ r b, M.β r b -> b < w.heap.size
 new : ∀ r b, M.β r b -> E.w0.heap.size <= b ∨ E.U b
 bxβ : ∀ d b, M.bx d = some b -> M.β (.b d) b
 okβ : ∀ r b, M.β r b -> M.ok b
 okN : (∀ b, E.w0.heap.size <= b -> M.ok b) /\ Gl E M.ok
 pin : (∀ d b, E.pin d = some b -> d < E.np /\ M.bx d = some b) /\ ∀ d b, M.bx d = some b -> d < E.np ∨ E.w0.heap.size <= b
section
variable {P : Program} {M M' : Mdl} {w w' : World} {S : St} {a : Act} {E : Env} {C : CallSem} {R : Type}
theorem Inv.base (h : Inv P E M S w) : Base E M w := ⟨h.os, h.tape, h.output, h.size, h.old, h.dis, h.lt, h.new, h.bxβ, h.okβ, h.okN, h.pin⟩
theorem Base.inv (h : Base E M w) (hb : ∀ d x, S.box d = some x -> ∃ b, M.bx d = some b /\ BoxR P M w b x) : Inv P E M S w :=
 ⟨h.os, h.tape, h.output, h.size, h.old, h.dis, h.lt, h.new, h.bxβ, h.okβ, h.okN, h.pin, hb⟩
structure Turn (M M' : Mdl) (w w' : World) (ids : List Id) : Prop where
 ok : M'.ok = M.ok
 β : ∀ r, r ∉ ids -> M'.β r = M.β r
 hd : ∀ r, r ∉ ids -> M'.hd r = M.hd r
 kept : ∀ r b, r ∈ ids -> M'.β r b -> b < w.heap.size -> ∃ r' ∈ ids, M.β r' b
 same : ∀ b, b < w.heap.size -> (∀ r ∈ ids, ¬ M.β r b) -> M.ok b -> w'.heap[b]? = w.heap[b]?
 size : w.heap.size <= w'.heap.size
theorem VrG.turn {ids : List Id} (T : Turn M M' w w' ids) (hB : Base E M w) {x : V} {v : Value} (h : VrG P M w x v) (hx : meets x.g ids = false) : VrG P M' w' x v := by
 have hd := qU hx
 refine h.move (fun b hb => T.same b hb.1 (fun r hr hq => hb.2.1 r (fun hm => hd r hm hr) hq) hb.2.2) (fun b ⟨r, hr, hb⟩ => T.same b (hB.lt r b hb) (fun r' hr' hq => hd r hr (by rw [hB.dis r r' b hb hq]; exact hr')) (hB.okβ r b hb))
  (fun b hb => ⟨Nat.lt_of_lt_of_le hb.1 T.size, fun r hr hq => ?_, by rw [T.ok]; exact hb.2.2⟩) (fun r hr => T.β r (hd r hr)) (fun r hr => T.hd r (hd r hr))
 by_cases hi : r ∈ ids
 ·obtain ⟨r', h1, h2⟩ := T.kept r b hi hq hb.1
  exact hb.2.1 r' (fun hm => hd r' hm h1) h2
 ·rw [T.β r hi] at hq
  exact hb.2.1 r hr hq
theorem Vr.turn {ids : List Id} (T : Turn M M' w w' ids) (hB : Base E M w) {x : V} {v : Value} (h : Vr P M w x v) (hx : meets x.g ids = false) : Vr P M' w' x v := fun hne => (h hne).turn T hB hx
theorem qeH {ids : List Id} {x : V} (h : meets x.g ids = false) : kill ids x = x := by unfold kill; rw [h]; rfl
theorem qdV {ids : List Id} {x : V} (h : meets x.g ids = true) : kill ids x = V.bad := by unfold kill; rw [h]; rfl
theorem Vr.kill {ids : List Id} (T : Turn M M' w w' ids) (hB : Base E M w) {x : V} {v : Value} (h : Vr P M w x v) : Vr P M' w' (kill ids x) v := by
 cases hx : meets x.g ids with
 | true => rw [qdV hx]; exact fun h => (h rfl).elim
 | false => rw [qeH hx]; exact h.turn T hB hx
structure Car (P : Program) (M M' : Mdl) (w w' : World) (f : V -> V) : Prop where
 vr : ∀ x v, Vr P M w x v -> Vr P M' w' (f x) v
 ne : ∀ x, (f x).t ≠ .bad -> x.t ≠ .bad
 el : ∀ x ad n cap, VrG P M w x (.slice (some ad) n cap) -> (f x).t ≠ .bad -> elOf (f x).t = elOf x.t
theorem Car.kill {ids : List Id} (T : Turn M M' w w' ids) (hB : Base E M w) : Car P M M' w w' (kill ids) := by
 refine ⟨fun x v h => h.kill T hB, fun x hx => ?_, fun x ad n cap h hx => ?_⟩
 ·cases hm : meets x.g ids with
  | true => rw [qdV hm] at hx; exact (hx rfl).elim
  | false => rwa [qeH hm] at hx
 ·cases hm : meets x.g ids with
  | true => rw [qdV hm] at hx; exact (hx rfl).elim
  | false => rw [qeH hm]
theorem VrL.car {f : V -> V} (F : Car P M M' w w' f) {l : List V} {vs : Array Value} (h : VrL P M w l vs) : VrL P M' w' (l.map f) vs := by
 refine ⟨by simpa using h.1, fun i hi => ?_⟩
 have hi' : i < l.length := by simpa using hi
 have := F.vr _ _ (h.2 i hi')
 simpa [List.getD_eq_getElem?_getD, hi'] using this
theorem TVr.car {f : V -> V} (F : Car P M M' w w' f) {t : TV} {v : Value} (h : TVr P M w t v) (hbx : ∀ d b, TV.at d t = true -> M.bx d = some b -> M'.bx d = some b) : TVr P M' w' (mapTV f t) v := by
 cases t with
 | undef => trivial
 | val x => exact F.vr _ _ h
 | agg l => obtain ⟨vs, e, h⟩ := h; exact ⟨vs, e, h.car F⟩
 | tup l =>
  obtain ⟨vs, e, h1, h2⟩ := h
  refine ⟨vs, e, by simpa using h1, fun i hi => ?_⟩
  have hi' : i < l.length := by simpa using hi
  have := h2 i hi'
  simp only [List.getD_eq_getElem?_getD, List.getElem?_map, List.getElem?_eq_getElem hi', Option.map_some, Option.getD_some] at this ⊢
  generalize hc : l[i] = c at this
  obtain ⟨a, l'⟩ := c
  cases a with
  | true => obtain ⟨us, e', h'⟩ := this; exact ⟨us, e', h'.car F⟩
  | false =>
   match l', this with
   | [], _ => trivial
   | [x], h' => exact F.vr _ _ h'
   | _ :: _ :: _, _ => trivial
 | bp d off => obtain ⟨b, h1, h2⟩ := h; exact ⟨b, hbx _ _ (by simp [TV.at]) h1, h2⟩
 | ep x i off =>
  intro hx
  obtain ⟨ad, n, cap, e, h1, h2, h3⟩ := h (F.ne x hx)
  have he := F.el x ad n cap h1 hx
  have hx2 : elOf x.t = some e := by
   cases hxt : x.t <;> rw [hxt] at h2 <;> first | exact h2.elim | (simp [elOf, h2])
  rw [hx2] at he
  refine ⟨ad, n, cap, e, F.vr x _ (fun _ => h1) hx, ?_, h3⟩
  cases hxt : (f x).t <;> rw [hxt] at he <;> simp [elOf] at he <;> exact he
 | ap d m i => obtain ⟨b, h1, h2⟩ := h; exact ⟨b, hbx _ _ (by simp [TV.at]) h1, h2⟩
 | as d m => obtain ⟨b, h1, h2⟩ := h; exact ⟨b, hbx _ _ (by simp [TV.at]) h1, h2⟩
 | pp x off =>
  intro hx
  obtain ⟨ad, h1, h2⟩ := h (F.ne x hx)
  exact ⟨ad, F.vr x _ (fun _ => h1) hx, h2⟩
 | pt y x i off => exact F.vr _ _ h.1
theorem qD (f : V -> V) (S : St) (i : Nat) : (S.map f).tmp i = mapTV f (S.tmp i) := by
 unfold St.tmp St.map
 simp only [List.getD_eq_getElem?_getD, List.getElem?_map]
 cases S.tmps[i]? <;> rfl
theorem qC (f : V -> V) (S : St) (d : Nat) : (S.map f).box d = (S.box d).map (mapBox f) := by
 unfold St.box St.map
 simp only [List.getD_eq_getElem?_getD, List.getElem?_map]
 cases S.boxes[d]? <;> rfl
theorem qx (S : St) (d : Nat) (b : Option Box) (i : Nat) : (S.setBox d b).tmp i = S.tmp i := rfl
theorem qq (S : St) (d : Nat) (b : Option Box) (q : Nat) : (S.setBox d b).box q = if d = q /\ q < S.boxes.length then b else S.box q := by
 unfold St.box St.setBox
 simp only [List.getD_eq_getElem?_getD, List.getElem?_set]
 by_cases h : d = q
 ·subst h
  by_cases hl : d < S.boxes.length <;> simp [hl]
 ·simp [h]
theorem qcX {d : Nat} {b : Box} (h : S.box d = some b) : d < S.boxes.length := by
 unfold St.box at h
 rw [List.getD_eq_getElem?_getD] at h
 rcases Nat.lt_or_ge d S.boxes.length with h' | h'
 ·exact h'
 ·rw [List.getElem?_eq_none h'] at h; simp at h
theorem BoxR.car {f : V -> V} (F : Car P M M' w w' f) {b : Nat} {x : Box} (h : BoxR P M w b x) (hs : w'.heap[b]? = w.heap[b]?) : BoxR P M' w' b (mapBox f x) := by
 cases x with
 | cells l => obtain ⟨cs, ty, h1, h2⟩ := h; exact ⟨cs, ty, hs.trans h1, h2.car F⟩
 | arr k m l => obtain ⟨ty, h1, h2⟩ := h; exact ⟨ty, hs.trans h1, h2⟩
theorem Rel.car {f : V -> V} {ids : List Id} (F : Car P M M' w w' f) (T : Turn M M' w w' ids) (hR : Rel P E M S a w) (hbx : ∀ d, M'.bx d = M.bx d) :
  (∀ i, TVr P M' w' ((S.map f).tmp i) (a.tmps.getD i undef)) /\ ∀ d x, Id.b d ∉ ids -> (S.map f).box d = some x -> ∃ b, M'.bx d = some b /\ BoxR P M' w' b x := by
 refine ⟨fun i => by rw [qD]; exact (hR.tmps i).car F fun d b _ h => by rw [hbx]; exact h, fun d x hd hx => ?_⟩
 rw [qC] at hx
 cases hb : S.box d with
 | none => simp [hb] at hx
 | some y =>
  simp [hb] at hx
  subst hx
  obtain ⟨b, h1, h2⟩ := hR.inv.boxes d y hb
  have hβ := hR.inv.bxβ d b h1
  refine ⟨b, by rw [hbx]; exact h1, h2.car F (T.same b (hR.inv.lt _ _ hβ) (fun r hr hq => hd (by rw [hR.inv.dis _ _ _ hβ hq]; exact hr)) (hR.inv.okβ _ _ hβ))⟩
theorem qjT (f : V -> V) (S : St) : (S.map f).tmps.length = S.tmps.length /\ (S.map f).boxes.length = S.boxes.length := by simp [St.map]
theorem Rel.write {d b : Nat} {cur new : Array Value} {ty : TypeId} (hR : Rel P E M S a w) (hb : M.bx d = some b) (hl : d < S.boxes.length) (hh : w.heap[b]? = some (.cells cur ty (0, 0)))
  {x : Box} (hx : Car P M M w (w.setRow b new) (kill [.b d]) -> Turn M M w (w.setRow b new) [.b d] -> BoxR P M (w.setRow b new) b x) : Rel P E M (S.write d x) a (w.setRow b new) := by
 have hβ := hR.inv.bxβ d b hb
 have hB := hR.inv.base
 have T : Turn M M w (w.setRow b new) [.b d] := by
  refine ⟨rfl, fun _ _ => rfl, fun _ _ => rfl, fun r q hr hq _ => ⟨r, hr, hq⟩, fun q _ hq _ => setRow_other w b q new fun e => ?_, by simp⟩
  subst e
  exact hq _ (by simp) hβ
 have F : Car P M M w (w.setRow b new) (YthocpcfjfgnkgaaGreatRv.kill [.b d]) := Car.kill T hB
 obtain ⟨h1, h2⟩ := hR.car F T fun _ => rfl
 have hbl := hR.inv.lt _ _ hβ
 have hnew := hR.inv.new _ _ hβ
 refine ⟨Base.inv ⟨hB.os, hB.tape, hB.output, by simpa using hB.size, fun q hq hu => ?_, hB.dis, fun r q hr => by simpa using hB.lt r q hr, hB.new, hB.bxβ, hB.okβ, hB.okN, hB.pin⟩ fun q y hy => ?_, hR.defers, by rw [hR.size]; simp [St.write, St.setBox, St.map], fun i => ?_⟩
 ·rw [setRow_other w b q new fun e => ?_]
  ·exact hB.old q hq hu
  ·subst e
   rcases hnew with h | h
   ·omega
   ·exact hu h
 ·unfold St.write at hy
  rw [qq] at hy
  by_cases hq : d = q
  ·subst hq
   rw [if_pos ⟨rfl, by rw [(qjT _ _).2]; exact hl⟩] at hy
   cases hy
   exact ⟨b, hb, hx F T⟩
  ·rw [if_neg (by simp [hq])] at hy
   exact h2 q y (by simp [Ne.symm hq]) hy
 ·unfold St.write
  rw [qx]
  exact h1 i
def StepR (P : Program) (E : Env) (M : Mdl) (a : Act) (w : World) (o : Oper) (K : St -> Option R) (r : R) : Prop :=
 ∀ (next : Act -> World -> Prop) (Q : Exit -> Act -> World -> Prop),
  (∀ M' S' a' w', K S' = some r -> M'.ok = M.ok -> Rel P E M' S' a' w' -> next a' w') -> o.wp P a w next Q
theorem qiE {A : Nat -> Prop} {v : Value} {x : T} {t : TypeId} (h : Rd P w A v x) (hx : ok1 P t x = true) : v.oneCell' = true := by
 cases h <;> first
  | rfl
  | (exfalso; unfold ok1 at hx; split at hx <;> simp_all; done)
theorem qbD {tv : TV} {v : Value} {vs : List V} {ts : List TypeId} (h : TVr P M w tv v) (hc : cellsTV tv = some vs) (hok : okCells P ts vs = true) : ∀ u ∈ v.cells.toList, u.oneCell' = true := by
 have hr := qbX h hc hok
 intro u hu
 obtain ⟨i, hi, rfl⟩ := List.mem_iff_getElem.1 hu
 simp at hi
 obtain ⟨q1, q2⟩ := qz hok
 have hiv : i < vs.length := by rw [<- hr.1]; exact hi
 have hit : i < ts.length := by simp at q1; omega
 have h2 := q2 i ts[i] (List.getElem?_eq_getElem hit)
 have h3 : (vs.map (·.t)).getD i .bad = (vs.getD i V.bad).t := qG _ _ hiv
 rw [h3] at h2
 have := qiE (hr.2 i hiv (qR h2).2.1).rd h2
 simpa [Array.getD_eq_getD_getElem?, hi] using this
theorem run_storeAt' {t ty : TypeId} {b off : Nat} {cur : Array Value} {v : Value} (hi : (P.info? t).isSome = true) (hsz : v.cells.size = szOf P t) (h1 : ∀ u ∈ v.cells.toList, u.oneCell' = true)
  (hh : w.heap[b]? = some (.cells cur ty (0, 0))) (hf : off + v.cells.size <= cur.size) :
  (Instr.storeAt t (.pointer (some ⟨b, off, none⟩)) v).run P w = .ok () (w.setRow b (cur.toList.take off ++ v.cells.toList ++ cur.toList.drop (off + v.cells.size)).toArray) := by
 obtain ⟨i, hi⟩ := Option.isSome_iff_exists.1 hi
 have hst := run_storeCells_at P b off ty v.cells.toList 0 cur w hh (by simpa using hf) h1
 simp only [Nat.add_zero, Array.length_toList] at hst
 simp only [Instr.storeAt, Instr.sureAddr, storeVar, Sem.run_bind, Sem.run_pure, Result.andThen_ok, qQ hi]
 rw [if_neg (by simp [hsz])]
 exact hst
theorem qjm {l vs : List V} {cs us : Array Value} {off : Nat} (hl : VrL P M w l cs) (hv : VrL P M w vs us) (hoff : off + vs.length <= l.length) :
  VrL P M w (lay l off vs) (cs.toList.take off ++ us.toList ++ cs.toList.drop (off + us.size)).toArray := by
 have hlen : (lay l off vs).length = l.length := by simp [lay]; omega
 have hu := hv.1
 have hc := hl.1
 refine ⟨by rw [hlen]; simp; omega, fun i hi => ?_⟩
 rw [hlen] at hi
 simp only [Array.getD_eq_getD_getElem?, List.getElem?_toArray]
 by_cases hin : off <= i /\ i < off + vs.length
 ·have e1 : (lay l off vs).getD i V.bad = vs.getD (i - off) V.bad := by
   rw [List.getD_eq_getElem?_getD, List.getD_eq_getElem?_getD]
   unfold lay
   rw [List.getElem?_append_left (by simp; omega), List.getElem?_append_right (by simp; omega)]
   simp [show min off l.length = off by omega]
  rw [e1, List.getElem?_append_left (by simp; omega), List.getElem?_append_right (by simp; omega)]
  have := hv.2 (i - off) (by omega)
  rw [Array.getD_eq_getD_getElem?] at this
  simpa [show min off cs.size = off by omega] using this
 ·have e1 : (lay l off vs).getD i V.bad = l.getD i V.bad := by
   rw [List.getD_eq_getElem?_getD, List.getD_eq_getElem?_getD]
   unfold lay
   by_cases hlt : i < off
   ·rw [List.getElem?_append_left (by simp; omega), List.getElem?_append_left (by simp; omega), List.getElem?_take, if_pos hlt]
   ·rw [List.getElem?_append_right (by simp; omega), List.getElem?_drop]
    congr 2
    simp
    omega
  rw [e1]
  have := hl.2 i hi
  rw [Array.getD_eq_getD_getElem?] at this
  by_cases hlt : i < off
  ·rw [List.getElem?_append_left (by simp; omega), List.getElem?_append_left (by simp; omega), List.getElem?_take, if_pos hlt]
   simpa using this
  ·rw [List.getElem?_append_right (by simp; omega), List.getElem?_drop]
   have e : off + us.size + (i - (cs.toList.take off ++ us.toList).length) = i := by simp; omega
   rw [e]
   simpa using this
theorem qes {o : Oper} {t : TypeId} {p x : Operand} (ho : o.op = .store t p x) {w' : World} (h : (Instr.storeAt t (a.eval p) (a.eval x)).run P w = .ok () w') : (execOp a.eval o).run P w = .ok .skip w' := by
 unfold execOp
 simp only [ho, Sem.run_bind, h, Result.andThen_ok, Sem.run_pure]
theorem qbv {t : TypeId} (h : szOf P t ≠ 0) : (P.info? t).isSome = true := by
 unfold szOf at h
 cases hi : P.info? t with
 | none => simp [hi] at h
 | some i => rfl
theorem qeg : ∀ {xs : List V} {ns : List Int} {k : IntKind}, intsOf xs = some ns -> (∀ x ∈ xs, (match x.t with | .int k' _ => k == k' | _ => false) = true) -> xs.map (·.t) = ns.map (.int k)
 | [], ns, k, h, _ => by simp [intsOf] at h; subst h; rfl
 | x :: xs, ns, k, h, hk => by
  simp only [intsOf] at h
  split at h
  ·rename_i k' n r e1 e2
   simp at h
   subst h
   have h1 := hk x (by simp)
   rw [e1] at h1
   simp at h1
   subst h1
   have := qeg e2 fun y hy => hk y (by simp [hy])
   simp [e1, this]
  ·simp at h
theorem qkp {l : List V} {cs : Array Value} {ns : List Int} {k : IntKind} (h : VrL P M w l cs) (hl : l.map (·.t) = ns.map (.int k)) : cs.toList = ns.map (.int k) := by
 have hlen : l.length = ns.length := by simpa using congrArg List.length hl
 apply List.ext_getElem
 ·simp [h.1, hlen]
 ·intro i h1 h2
  have hi : i < l.length := by simp at h2; omega
  have h3 : (l.getD i V.bad).t = .int k (ns[i]'(by omega)) := by
   rw [<- qG _ _ hi, hl, List.getD_eq_getElem?_getD]
   simp [hlen ▸ hi]
  have h4 := qy (h.2 i hi) h3
  have hc : i < cs.size := by simpa using h1
  simpa [Array.getD_eq_getD_getElem?, hc] using h4
theorem qfB {o : Oper} {t : TypeId} {p x : Operand} {vs : List V} (ho : o.op = .store t p x) (hd : o.dst = none) (hR : Rel P E M S a w) (hv : cellsTV (ev P S t x) = some vs) (hp : ∀ y i off, ev P S 0 p ≠ .ep y i off) {K : St -> Option R} {r : R}
  (h : (storeSt P S t (ev P S 0 p) vs).go C K = some r) : StepR P E M a w o K r := by
 intro next Q hn
 have hpr := ev_r hR 0 p
 have hxr := ev_r hR t x
 have fin : ∀ {S' w'}, (Instr.storeAt t (a.eval p) (a.eval x)).run P w = .ok () w' -> K S' = some r -> Rel P E M S' a w' -> o.wp P a w next Q := fun h1 h2 h3 => by
  unfold Oper.wp
  rw [qes ho h1, Oper.upon_skip, hd]
  exact hn M _ _ _ h2 rfl h3
 unfold storeSt at h
 split at h
 ·rename_i d off e
  rw [e] at hpr
  obtain ⟨b, hb, hpv⟩ := hpr
  split at h
  ·rename_i l hbox
   obtain ⟨c1, h1⟩ := qh h
   clear h
   simp only [Bool.and_eq_true, decide_eq_true_eq, Bool.not_eq_true'] at c1
   obtain ⟨⟨⟨c2, c3⟩, c4⟩, c5⟩ := c1
   obtain ⟨b', hb', cs, ty, hh, hl⟩ := hR.inv.boxes d _ hbox
   rw [hb] at hb'
   cases hb'
   have hus := qbX hxr hv c4
   obtain ⟨_, inf, _, q2, _, q4, q5⟩ := unsome c3
   have hlen : vs.length = szOf P t := by have := (qz c4).1; simp at this; omega
   have hrun := run_storeAt' (P := P) (w := w) (t := t) (off := off) (by simp [q2]) (hus.1.trans hlen) (qbD hxr hv c4) hh (by rw [hus.1, hl.1]; exact c2)
   rw [<- hpv] at hrun
   refine fin hrun (qj h1) (hR.write hb (qcX hbox) hh fun F T => ⟨_, ty, setRow_heap w b _ _ _ _ hh, qjm (hl.car F) ⟨hus.1, fun i hi => (hus.2 i hi).turn T hR.inv.base ?_⟩ (by simpa using c2)⟩)
   cases hm : meets (vs.getD i V.bad).g [.b d] with
   | false => rfl
   | true =>
    exfalso
    obtain ⟨r', hr1, hr2⟩ := List.any_eq_true.1 hm
    have hmem : vs.getD i V.bad ∈ vs := by rw [List.getD_eq_getElem?_getD, List.getElem?_eq_getElem hi]; simp
    exact qU c5 r' (qac hmem hr1) (by simpa using hr2)
  ·rename_i k m l hbox
   split at h
   ·rename_i m' e' ns hund hns
    obtain ⟨c1, h1⟩ := qh h
    clear h
    simp only [Bool.and_eq_true, beq_iff_eq, bne_iff_ne, ne_eq] at c1
    obtain ⟨⟨⟨⟨⟨⟨⟨c2, c3⟩, c4⟩, c5⟩, c6⟩, c7⟩, c9⟩, c8⟩ := c1
    subst c2
    obtain ⟨b', hb', ty, hh, hl⟩ := hR.inv.boxes d _ hbox
    rw [hb] at hb'
    cases hb'
    have hts : vs.map (·.t) = ns.map (.int k) := qeg hns fun y hy => by have := List.all_eq_true.1 c8 y hy; exact this
    have hvl : vs.length = m := by have := congrArg List.length hts; simp at this; omega
    have hus : VrL P M w vs (a.eval x).cells := by
     cases hev : ev P S t x with
     | val y =>
      rw [hev] at hv hxr
      simp [cellsTV] at hv
      subst hv
      have h3 : ∃ n, y.t = .int k n := by
       cases ns with
       | nil => simp at hts
       | cons n ns => simp at hts; exact ⟨n, hts.1⟩
      obtain ⟨n, h3⟩ := h3
      have h4 := qy hxr h3
      rw [h4]
      refine ⟨rfl, fun i hi => ?_⟩
      have : i = 0 := by simp at hi; omega
      subst this
      rw [h4] at hxr
      exact hxr
     | agg l' =>
      rw [hev] at hv hxr
      simp [cellsTV] at hv
      subst hv
      obtain ⟨us, e9, h9⟩ := hxr
      rw [e9]
      exact h9
     | _ => rw [hev] at hv; simp [cellsTV] at hv
    have hcs := qkp hus hts
    have hsz : (a.eval x).cells.size = m := by rw [hus.1, hvl]
    have hrun := run_storeAt' (P := P) (w := w) (t := t) (off := 0) (v := a.eval x) (qbv (by rw [c5]; exact c6)) (by rw [hsz, c5]) (fun u hu => by rw [hcs] at hu; obtain ⟨n, _, rfl⟩ := List.mem_map.1 hu; rfl) hh (by simp [hsz, hl])
    rw [<- hpv] at hrun
    refine fin hrun (qj h1) (hR.write hb (qcX hbox) hh fun F T => ⟨ty, ?_, c4⟩)
    rw [setRow_heap w b _ _ _ _ hh, hcs, hsz]
    simp [hl]
   ·exact (qg h).elim
  ·exact (qg h).elim
 ·rename_i d m' i e
  rw [e] at hpr
  obtain ⟨b, hb, hpv, hi0, him⟩ := hpr
  split at h
  ·rename_i k m l y hbox
   split at h
   ·rename_i k' n hyt
    obtain ⟨c1, h1⟩ := qh h
    clear h
    simp only [Bool.and_eq_true, beq_iff_eq, Bool.not_eq_true'] at c1
    obtain ⟨⟨⟨c2, c3⟩, c4⟩, c5⟩ := c1
    subst c2 c3
    obtain ⟨b', hb', ty, hh, hl⟩ := hR.inv.boxes d _ hbox
    rw [hb] at hb'
    cases hb'
    have hxv : (a.eval x).cells = #[.int k n] := by
     cases hev : ev P S t x with
     | val y' =>
      rw [hev] at hv hxr
      simp [cellsTV] at hv
      subst hv
      rw [qy hxr hyt]
      rfl
     | agg l' =>
      rw [hev] at hv hxr
      simp [cellsTV] at hv
      subst hv
      obtain ⟨us, e9, h9⟩ := hxr
      have h8 := h9.2 0 (by simp)
      simp only [List.getD_cons_zero] at h8
      have h7 := qy h8 hyt
      rw [e9]
      have h6 := h9.1
      simp at h6
      show us = _
      apply Array.ext
      ·simp [h6]
      ·intro j hj1 hj2
       have : j = 0 := by omega
       subst this
       simpa [Array.getD_eq_getD_getElem?, hj1] using h7
     | _ => rw [hev] at hv; simp [cellsTV] at hv
    have hin : i.toNat < l.length := by omega
    have hrun := run_storeAt' (P := P) (w := w) (t := t) (off := i.toNat) (v := a.eval x) (qbv (by rw [c4]; simp)) (by rw [hxv, c4]; rfl) (fun u hu => by rw [hxv] at hu; simp at hu; subst hu; rfl) hh (by rw [hxv]; simp; omega)
    rw [<- hpv] at hrun
    refine fin hrun (qj h1) (hR.write hb (qcX hbox) hh fun F T => ⟨ty, ?_, by simpa using hl⟩)
    rw [setRow_heap w b _ _ _ _ hh, hxv]
    congr 3
    rw [List.set_eq_take_append_cons_drop, if_pos hin]
    simp
   ·exact (qg h).elim
  ·exact (qg h).elim
 ·rename_i y i off e
  exact (hp _ _ _ e).elim
 ·exact (qg h).elim
theorem TVr.to_at {p : V -> Bool} {t : TV} {v : Value} (h : TVr P M w t v) (ht : anyV p t = false) (hf : ∀ x v, p x = false -> Vr P M w x v -> Vr P M' w' x v) (hbx : ∀ d b, TV.at d t = true -> M.bx d = some b -> M'.bx d = some b) (hw : Same (· < w.heap.size) w w') : TVr P M' w' t v := by
 cases t with
 | pt y x i off =>
  simp only [anyV, Bool.or_eq_false_iff] at ht
  exact ⟨hf y v ht.1 h.1, fun hx => (h.2 hx).to hx (fun v h => hf x v ht.2 h) hw⟩
 | bp d off => obtain ⟨b, h1, h2⟩ := h; exact ⟨b, hbx _ _ (by simp [TV.at]) h1, h2⟩
 | ap d m i => obtain ⟨b, h1, h2⟩ := h; exact ⟨b, hbx _ _ (by simp [TV.at]) h1, h2⟩
 | as d m => obtain ⟨b, h1, h2⟩ := h; exact ⟨b, hbx _ _ (by simp [TV.at]) h1, h2⟩
 | undef => trivial
 | val x => exact hf _ _ ht h
 | ep x i off =>
  intro hx
  obtain ⟨ad, n, cap, e, h1, h2⟩ := h hx
  exact ⟨ad, n, cap, e, hf x _ ht (fun _ => h1) hx, h2⟩
 | pp x off =>
  intro hx
  obtain ⟨ad, h1, h2⟩ := h hx
  exact ⟨ad, hf x _ ht (fun _ => h1) hx, h2⟩
 | agg l =>
  obtain ⟨vs, e, h⟩ := h
  refine ⟨vs, e, h.1, fun i hi => hf _ _ ?_ (h.2 i hi)⟩
  have := List.any_eq_false.1 ht (l.getD i V.bad) (by rw [List.getD_eq_getElem?_getD, List.getElem?_eq_getElem hi]; simp)
  simpa using this
 | tup l =>
  obtain ⟨vs, e, h1, h2⟩ := h
  refine ⟨vs, e, h1, fun i hi => ?_⟩
  have := h2 i hi
  have hp := List.any_eq_false.1 ht (l.getD i (true, [])) (by rw [List.getD_eq_getElem?_getD, List.getElem?_eq_getElem hi]; simp)
  generalize l.getD i (true, []) = c at this hp
  obtain ⟨b, l'⟩ := c
  have hp' : l'.any p = false := by simpa using hp
  cases b with
  | true =>
   obtain ⟨us, e', h'⟩ := this
   refine ⟨us, e', h'.1, fun i hi => hf _ _ ?_ (h'.2 i hi)⟩
   have := List.any_eq_false.1 hp' (l'.getD i V.bad) (by rw [List.getD_eq_getElem?_getD, List.getElem?_eq_getElem hi]; simp)
   simpa using this
  | false =>
   match l', this, hp' with
   | [], _, _ => trivial
   | [x], h', hp' => exact hf _ _ (by simpa using hp') h'
   | _ :: _ :: _, _, _ => trivial
structure Fresh (M M' : Mdl) (w : World) (p : Id -> Bool) : Prop where
 ok : M'.ok = M.ok
 β : ∀ r, p r = false -> M'.β r = M.β r
 hd : ∀ r, p r = false -> M'.hd r = M.hd r
 new : ∀ r b, p r = true -> M'.β r b -> w.heap.size <= b
theorem Vr.fresh {p : Id -> Bool} (F : Fresh M M' w p) (hB : Base E M w) (hb : Below w.heap.size w w') {x : V} {v : Value} (hx : x.g.any p = false) (h : Vr P M w x v) : Vr P M' w' x v := by
 intro hne
 have hg : ∀ r ∈ x.g, p r = false := fun r hr => by
  have := List.any_eq_false.1 hx r hr
  simpa using this
 refine (h hne).move (fun b h => hb.block b h.1) (fun b ⟨r, _, hr⟩ => hb.block b (hB.lt r b hr)) (fun b hb' => ⟨Nat.lt_of_lt_of_le hb'.1 hb.size, fun r hr hq => ?_, by rw [F.ok]; exact hb'.2.2⟩) (fun r hr => F.β r (hg r hr)) (fun r hr => F.hd r (hg r hr))
 cases hs : p r with
 | false => rw [F.β r hs] at hq; exact hb'.2.1 r hr hq
 | true =>
  have := F.new r b hs hq
  have := hb'.1
  omega
theorem qjA {l : List V} {p : V -> Bool} (h : l.any p = false) {i : Nat} (hi : i < l.length) : p (l.getD i V.bad) = false := by
 have := List.any_eq_false.1 h (l.getD i V.bad) (by rw [List.getD_eq_getElem?_getD, List.getElem?_eq_getElem hi]; simp)
 simpa using this
theorem VrL.fresh {p : Id -> Bool} (F : Fresh M M' w p) (hB : Base E M w) (hb : Below w.heap.size w w') {l : List V} {cs : Array Value} (hx : l.any (fun x => x.g.any p) = false) (h : VrL P M w l cs) : VrL P M' w' l cs :=
 ⟨h.1, fun i hi => (h.2 i hi).fresh F hB hb (qjA hx hi)⟩
theorem heap_alloc' (w : World) (o : Obj) : (w.alloc o).heap[w.heap.size]? = some o /\ ∀ r', r' < w.heap.size -> (w.alloc o).heap[r']? = w.heap[r']? := by
 exact ⟨by unfold World.alloc; simp, fun r' h => by unfold World.alloc; simp [Array.getElem?_push, Nat.ne_of_lt h]⟩
def isB (d : Nat) : Id -> Bool | .b d' => d == d' | _ => false
theorem qgX {d i : Nat} {t : TV} : ({ S with tmps := S.tmps.set d t } : St).tmp i = if d = i /\ i < S.tmps.length then t else S.tmp i := by
 have := St.tmp_put S (some d) t i
 simpa [St.put] using this
theorem Rel.newBox {p : Id -> Bool} {d b : Nat} {x : Box} (F : Fresh M M' w p) (hR : Rel P E M S a w) (hb : Below w.heap.size w w') (hB : Base E M' w') (hp : S.has p = false) (hat : S.tmps.any (TV.at d) = false) (hnb : S.box d = none)
  (hl : d < S.boxes.length) (hbx : ∀ q, q ≠ d -> M'.bx q = M.bx q) (hbd : M'.bx d = some b) (hx : BoxR P M' w' b x) :
  Rel P E M' (({ S with tmps := S.tmps.set d (.bp d 0) }).setBox d (some x)) (a.put (some d) (.pointer (some ⟨b, 0, none⟩))) w' := by
 have hB0 := hR.inv.base
 refine ⟨hB.inv fun q y hy => ?_, hR.defers, ?_, fun i => ?_⟩
 ·rw [qq] at hy
  by_cases hq : d = q
  ·subst hq
   rw [if_pos ⟨rfl, hl⟩] at hy
   cases hy
   exact ⟨b, hbd, hx⟩
  ·rw [if_neg (by simp [hq])] at hy
   have hy' : S.box q = some y := hy
   obtain ⟨c, h1, h2⟩ := hR.inv.boxes q y hy'
   refine ⟨c, by rw [hbx q (Ne.symm hq)]; exact h1, ?_⟩
   cases y with
   | cells l =>
    obtain ⟨cs, ty, h3, h4⟩ := h2
    have hcl : c < w.heap.size := (Array.getElem?_eq_some_iff.1 h3).1
    exact ⟨cs, ty, (hb.block c hcl).trans h3, h4.fresh F hB0 hb (qhc hp hy')⟩
   | arr k m l =>
    obtain ⟨ty, h3, h4⟩ := h2
    have hcl : c < w.heap.size := (Array.getElem?_eq_some_iff.1 h3).1
    exact ⟨ty, (hb.block c hcl).trans h3, h4⟩
 ·simpa [Act.put, St.setBox] using hR.size
 ·rw [qx, qgX]
  simp only [Act.put, Array.getD_eq_getD_getElem?, Array.getElem?_setIfInBounds]
  have hs := hR.size
  by_cases hd : d = i
  ·subst hd
   by_cases hdl : d < S.tmps.length
   ·rw [if_pos ⟨rfl, hdl⟩]
    simp only [hs, hdl, if_true, Option.getD_some]
    exact ⟨b, hbd, rfl⟩
   ·rw [if_neg (by simp [hdl])]
    have e : S.tmp d = .undef := by simp [St.tmp, List.getD_eq_getElem?_getD, List.getElem?_eq_none (Nat.le_of_not_lt hdl)]
    rw [e]
    trivial
  ·rw [if_neg (by simp [hd]), if_neg hd]
   have := (hR.tmps i).to_at (M' := M') (w' := w') (qdl hp i) (fun x v hx h => h.fresh F hB0 hb hx) (fun q c hq h => ?_) (Same.of_below hb)
   ·rwa [Array.getD_eq_getD_getElem?] at this
   ·rw [hbx q fun e => ?_]
    ·exact h
    ·subst e
     unfold St.tmp at hq
     rw [List.getD_eq_getElem?_getD] at hq
     cases hi : S.tmps[i]? with
     | none => simp [hi, TV.at] at hq
     | some t =>
      simp [hi] at hq
      have := List.any_eq_false.1 hat t (List.mem_of_getElem? hi)
      exact this hq
def Mdl.boxed (M : Mdl) (d b : Nat) : Mdl := ⟨fun r x => match r with | .b d' => if d' = d then x = b else M.β r x | r => M.β r x, fun q => if q = d then some b else M.bx q, M.hd, M.ok⟩
theorem qaE {d b : Nat} {r : Id} (h : isB d r = false) : (M.boxed d b).β r = M.β r := by
 cases r with
 | b d' => simp only [isB, beq_eq_false_iff_ne, ne_eq] at h; simp [Mdl.boxed, Ne.symm h]
 | _ => rfl
theorem qdF {d b : Nat} (r : Id) : (M.boxed d b).hd r = M.hd r := by cases r <;> rfl
theorem qaX {d b : Nat} : (M.boxed d b).β (.b d) = fun x => x = b := by
 funext x
 simp [Mdl.boxed]
theorem qem {d : Nat} {r : Id} (h : isB d r = true) : r = .b d := by
 cases r with
 | b d' => simp [isB] at h; rw [h]
 | _ => simp [isB] at h
theorem qbL {d : Nat} (h : noPtr S d = true) : S.has (isB d) = false /\ S.tmps.any (TV.at d) = false /\ S.box d = none /\ S.np <= d := by
 unfold noPtr at h
 simp only [Bool.and_eq_true, Bool.not_eq_true', decide_eq_true_eq] at h
 obtain ⟨⟨⟨h0, h1⟩, h2⟩, h3⟩ := h
 refine ⟨?_, h1, ?_, h0⟩
 ·have e : (fun i => match i with | Id.b d' => d == d' | _ => false) = isB d := by funext i; cases i <;> rfl
  rw [<- e]
  exact h3
 ·cases hb : S.box d with
  | none => rfl
  | some x => simp [hb] at h2
theorem Rel.alloc {d : Nat} {x : Box} {o : Obj} (hR : Rel P E M S a w) (hn : noPtr S d = true) (hl : d < S.boxes.length) (hx : Fresh M (M.boxed d w.heap.size) w (isB d) -> BoxR P (M.boxed d w.heap.size) (w.alloc o) w.heap.size x) :
  Rel P E (M.boxed d w.heap.size) (({ S with tmps := S.tmps.set d (.bp d 0) }).setBox d (some x)) (a.put (some d) (.pointer (some ⟨w.heap.size, 0, none⟩))) (w.alloc o) := by
 obtain ⟨h1, h2, h3, h4⟩ := qbL hn
 have hB := hR.inv.base
 have F : Fresh M (M.boxed d w.heap.size) w (isB d) := ⟨rfl, fun r hr => qaE hr, fun r hr => qdF r, fun r b hr hb => by rw [qem hr, qaX] at hb; exact Nat.le_of_eq hb.symm⟩
 have cs : ∀ r b, (M.boxed d w.heap.size).β r b -> (isB d r = false /\ M.β r b) ∨ (r = .b d /\ b = w.heap.size) := fun r b hr => by
  cases hs : isB d r with
  | false => rw [qaE hs] at hr; exact .inl ⟨rfl, hr⟩
  | true => rw [qem hs, qaX] at hr; exact .inr ⟨qem hs, hr⟩
 refine hR.newBox F (below_alloc' w o) ⟨hB.os, hB.tape, hB.output, Nat.le_trans hB.size (by simp), fun b hb hu => ?_, fun r s b hr hs => ?_, fun r b hr => ?_, fun r b hr => ?_, fun q b hq => ?_, fun r b hr => ?_, hB.okN, ⟨fun q b hq => ⟨(hB.pin.1 q b hq).1, by
  have hqd : q ≠ d := fun e => by
   have := (hB.pin.1 q b hq).1
   have := hR.defers.2
   omega
  simpa [Mdl.boxed, hqd] using (hB.pin.1 q b hq).2⟩, fun q b hq => by
  by_cases hqd : q = d
  ·simp [Mdl.boxed, hqd] at hq
   exact .inr (by have := hB.size; omega)
  ·exact hB.pin.2 q b (by simpa [Mdl.boxed, hqd] using hq)⟩⟩ h1 h2 h3 hl
  (fun q hq => by simp [Mdl.boxed, hq]) (by simp [Mdl.boxed]) (hx F)
 ·have := hB.size
  rw [(heap_alloc' w o).2 b (by omega)]
  exact hB.old b hb hu
 ·rcases cs r b hr with ⟨_, p1⟩ | ⟨rfl, p1⟩ <;> rcases cs s b hs with ⟨_, p2⟩ | ⟨rfl, p2⟩
  ·exact hB.dis r s b p1 p2
  ·have := hB.lt r b p1; omega
  ·have := hB.lt s b p2; omega
  ·rfl
 ·rcases cs r b hr with ⟨_, p1⟩ | ⟨rfl, p1⟩
  ·have := hB.lt r b p1; simp; omega
  ·simp; omega
 ·rcases cs r b hr with ⟨_, p1⟩ | ⟨rfl, p1⟩
  ·exact hB.new r b p1
  ·exact .inl (by have := hB.size; omega)
 ·by_cases hqd : q = d
  ·subst hqd
   simp [Mdl.boxed] at hq
   rw [qaX]
   exact hq.symm
  ·simp [Mdl.boxed, hqd] at hq
   rw [qaE (by simp [isB, Ne.symm hqd])]
   exact hB.bxβ q b hq
 ·rcases cs r b hr with ⟨_, p1⟩ | ⟨rfl, p1⟩
  ·exact hB.okβ r b p1
  ·exact hB.okN.1 b (by have := hB.size; omega)
theorem qhK {p : V -> Bool} {tv : TV} {vs : List V} (h : anyV p tv = false) (hc : cellsTV tv = some vs) : vs.any p = false := by
 cases tv with
 | val x => simp [cellsTV] at hc; subst hc; simpa [anyV] using h
 | agg l => simp [cellsTV] at hc; subst hc; exact h
 | _ => simp [cellsTV] at hc
theorem qjV (t : TypeId) (v : Value) (p : Id -> Bool) : anyV (fun x => x.g.any p) (constTV P t v) = false := by
 unfold constTV
 split <;> rfl
theorem qks {p : Id -> Bool} (h : S.has p = false) (t : TypeId) (x : Operand) : anyV (fun x => x.g.any p) (ev P S t x) = false := by
 cases x with
 | tmp i => exact qhW (qdl h i)
 | const v => exact qjV t v p
 | global g => rfl
 | func f => rfl
theorem qfF {k : IntKind} {l : List Value} (h : l.all (fun v => match v with | .int k' 0 => k' == k | _ => false) = true) : l = (List.replicate l.length 0).map (.int k) := by
 induction l with
 | nil => rfl
 | cons v l ih =>
  simp only [List.all_cons, Bool.and_eq_true] at h
  obtain ⟨h1, h2⟩ := h
  have e : v = .int k 0 := by
   split at h1
   ·simp at h1; rw [h1]
   ·simp at h1
  rw [e, List.length_cons, List.replicate_succ, List.map_cons, <- ih h2]
theorem qho {o : Oper} {t : TypeId} {d : Nat} (ho : o.op = .alloc t) (hd : o.dst = some d) (hR : Rel P E M S a w) {K : St -> Option R} {r : R}
  (h : (allocSt P S d t none).go C K = some r) : StepR P E M a w o K r := by
 intro next Q hn
 unfold allocSt at h
 obtain ⟨c1, h1⟩ := qh h
 clear h
 simp only [Bool.and_eq_true, decide_eq_true_eq] at c1
 have fin : ∀ {x : Box} {i z}, P.info? t = some i -> i.zero = some z -> K (({ S with tmps := S.tmps.set d (.bp d 0) }).setBox d (some x)) = some r ->
   (Fresh M (M.boxed d w.heap.size) w (isB d) -> BoxR P (M.boxed d w.heap.size) (w.alloc (.cells z.cells t)) w.heap.size x) -> o.wp P a w next Q := fun {x i z} hi hz hK hx => by
  have hrun : (execOp a.eval o).run P w = .ok (.value (.pointer (some ⟨w.heap.size, 0, none⟩))) (w.alloc (.cells z.cells t)) := by
   unfold execOp
   simp [ho, Instr.alloc, zeroValue, typeInfo, hi, hz, newVar, newRow]
  unfold Oper.wp
  rw [hrun, Oper.upon_value, hd]
  exact hn _ _ _ _ hK (by rfl) (hR.alloc c1.1 c1.2 hx)
 split at h1
 ·rename_i k m e1 _
  obtain ⟨c2, h2⟩ := qh h1
  simp only [Bool.and_eq_true, beq_iff_eq, bne_iff_ne, ne_eq] at c2
  obtain ⟨⟨c3, c4⟩, c5⟩ := c2
  obtain ⟨i, z, hi, hz, hzc⟩ := qS (P := P) (t := t) (by
   cases hz : zeroCells P t with
   | nil => rw [hz] at c4; simp at c4; omega
   | cons _ _ => rfl)
  refine fin hi hz (qj h2) fun F => ⟨t, ?_, by simp⟩
  rw [(heap_alloc' w _).1, hzc]
  have := qfF c5
  rw [c4] at this
  rw [<- this]
 ·exact (qg h1).elim
 ·obtain ⟨c2, h2⟩ := qh h1
  simp only [Option.getD_none, Bool.and_eq_true, beq_iff_eq] at c2
  obtain ⟨⟨c3, c4⟩, c5, c6⟩ := c2
  obtain ⟨i, z, hi, hz, hzc⟩ := qS c6
  refine fin hi hz (qj h2) fun F => ⟨z.cells, t, (heap_alloc' w _).1, ?_⟩
  rw [hzc]
  exact qeU c5
theorem qiN {o : Oper} {t : TypeId} {d : Nat} {x : Operand} {vs : List V} (ho : o.op = .box t x) (hd : o.dst = some d) (hR : Rel P E M S a w) (hv : cellsTV (ev P S t x) = some vs) {K : St -> Option R} {r : R}
  (h : (allocSt P S d t (some vs)).go C K = some r) : StepR P E M a w o K r := by
 intro next Q hn
 unfold allocSt at h
 obtain ⟨c1, h1⟩ := qh h
 clear h
 simp only [Bool.and_eq_true, decide_eq_true_eq] at c1
 split at h1
 ·simp_all
 ·exact (qg h1).elim
 ·obtain ⟨c2, h2⟩ := qh h1
  simp only [Option.getD_some, Bool.and_eq_true, and_true] at c2
  have hus := qbX (ev_r hR t x) hv c2.1
  have hrun : (execOp a.eval o).run P w = .ok (.value (.pointer (some ⟨w.heap.size, 0, none⟩))) (w.alloc (.cells (a.eval x).cells t)) := by
   unfold execOp
   simp [ho, Instr.box, newVar, newRow]
  unfold Oper.wp
  rw [hrun, Oper.upon_value, hd]
  obtain ⟨q1, q2, q3, _⟩ := qbL c1.1
  exact hn _ _ _ _ (qj h2) (by rfl) (hR.alloc c1.1 c1.2 fun F => ⟨_, t, (heap_alloc' w _).1, hus.fresh F hR.inv.base (below_alloc' w _) (qhK (qks q1 t x) hv)⟩)
end
theorem qdg {α : Type} (d : α) (l ys : List α) (off : Nat) (h : off + ys.length <= l.length) (j : Nat) :
  (l.take off ++ ys ++ l.drop (off + ys.length)).getD j d = if off <= j /\ j < off + ys.length then ys.getD (j - off) d else l.getD j d := by
 rw [List.getD_eq_getElem?_getD, List.getD_eq_getElem?_getD, List.getD_eq_getElem?_getD]
 by_cases hin : off <= j /\ j < off + ys.length
 ·rw [if_pos hin, List.getElem?_append_left (by simp; omega), List.getElem?_append_right (by simp; omega)]
  simp [show min off l.length = off by omega]
 ·rw [if_neg hin]
  by_cases hlt : j < off
  ·rw [List.getElem?_append_left (by simp; omega), List.getElem?_append_left (by simp; omega), List.getElem?_take, if_pos hlt]
  ·rw [List.getElem?_append_right (by simp; omega), List.getElem?_drop]
   congr 2
   simp
   omega
theorem qhk {α : Type} (l ys : List α) (off : Nat) (h : off + ys.length <= l.length) : (l.take off ++ ys ++ l.drop (off + ys.length)).length = l.length := by
 simp
 omega
section
variable {P : Program} {M M' : Mdl} {w w' : World} {S : St} {a : Act} {E : Env} {C : CallSem} {R : Type}
theorem qia : ∀ {ts : List TypeId} {xs : List T}, xs.length = ts.length -> (∀ j t, ts[j]? = some t -> ok1 P t (xs.getD j .bad) = true) -> oks P ts xs = true
 | [], [], _, _ => rfl
 | t :: ts, x :: xs, hl, h => by
  simp only [oks, Bool.and_eq_true]
  exact ⟨by simpa using h 0 t rfl, qia (by simpa using hl) fun j t' hj => by simpa using h (j + 1) t' (by simpa using hj)⟩
 | [], _ :: _, h, _ => by simp at h
 | _ :: _, [], h, _ => by simp at h
def setEl (P : Program) (e : TypeId) (x : T) (off : Nat) (ys : List T) : T :=
 setCells (match isAgg P e with | true => T.agg ((expFrom P [] 0 x.cells (cellTys P depth e)).map (·.t)) | false => .bad) off ys
theorem qkm (t : T) (g : List Id) : (V.of t g).t = t := by
 unfold V.of
 cases t.scalar <;> rfl
theorem qfW {e : TypeId} {x : T} {off : Nat} {ys : List T} {ts : List TypeId} (hx : okT P e x = true) (hy : oks P ts ys = true) (hts : ((cellTys P depth e).drop off).take ts.length = ts) (hne : 0 < ts.length) :
  okT P e (setEl P e x off ys) = true /\ (setEl P e x off ys).cells = x.cells.take off ++ ys ++ x.cells.drop (off + ys.length) /\ off + ys.length <= x.cells.length := by
 obtain ⟨x1, x2⟩ := qcd hx
 obtain ⟨y1, y2⟩ := qz hy
 have hfit : off + ts.length <= (cellTys P depth e).length := by
  have := congrArg List.length hts
  simp at this
  omega
 have hty : ∀ j, j < ts.length -> ts[j]? = (cellTys P depth e)[off + j]? := fun j hj => by
  have := congrArg (fun l => l[j]?) hts
  simp only [List.getElem?_take, List.getElem?_drop, if_pos hj] at this
  exact this.symm
 unfold setEl okT
 cases hagg : isAgg P e with
 | true =>
  unfold okT at hx
  rw [hagg] at hx
  cases x <;> simp at hx
  rename_i l
  simp only [T.cells] at x1 x2 ⊢
  have hfull : (expFrom P [] 0 l (cellTys P depth e)).map (·.t) = l := by
   apply List.ext_getElem
   ·simp [qaC, x1]
   ·intro j h1 h2
    have hj : j < (cellTys P depth e).length := by omega
    have e1 := qaO (P := P) [] l (cellTys P depth e) 0 j _ (List.getElem?_eq_getElem hj)
    have e2 := x2 j _ (List.getElem?_eq_getElem hj)
    have hjl : j < (expFrom P [] 0 l (cellTys P depth e)).length := by simpa using h1
    rw [List.getD_eq_getElem?_getD, List.getElem?_eq_getElem hjl, Nat.zero_add] at e1
    simp only [Option.getD_some] at e1
    simp only [List.getElem_map, e1, qkm, (qR e2).2.2]
    simp [List.getD_eq_getElem?_getD, h2]
  simp only [hfull, setCells, T.cells]
  have hf : off + ys.length <= l.length := by omega
  refine ⟨qia (by rw [qhk _ _ _ hf]; exact x1) fun j t hj => ?_, trivial, hf⟩
  rw [qdg _ _ _ _ hf]
  split
  ·rename_i hin
   refine y2 _ _ ?_
   rw [hty _ (by omega), show off + (j - off) = j by omega]
   exact hj
  ·exact x2 j t hj
 | false =>
  rw [qaP hagg] at hts hfit x1
  have h0 : off = 0 := by simp at hfit; omega
  subst h0
  have h1 : ts = [e] := by
   simp at hfit
   have : ts.length = 1 := by omega
   rw [this] at hts
   simpa using hts.symm
  subst h1
  have hy1 : ys.length = 1 := by simpa using y1
  match ys, hy1, y2 with
  | [y], _, y2 =>
   have := y2 0 e rfl
   simp at this
   simp only [setCells, List.headD_cons, List.take_zero, List.nil_append, List.length_cons, List.length_nil]
   have hxl : x.cells.length = 1 := by simpa using x1
   refine ⟨this, ?_, by omega⟩
   rw [(qR this).1, List.drop_eq_nil_of_le (by simpa using Nat.le_of_eq x1)]
   rfl
theorem qam {x : V} {v : Value} {id : Id} (h : VrG P M w x v) (ho : x.own = some id) {ad : Addr} {n cap : Nat} (hv : v = .slice (some ad) n cap) :
  ∃ b cur e, ad = ⟨b, 0, none⟩ /\ M.β id b /\ elOf x.t = some e /\ w.heap[b]? = some (.cells cur e (0, 0)) /\ lenT x.t = some n /\ n <= cap /\ cap <= maxLen /\ cur.size = cap * szOf P e /\ v.ownBlock = some b /\ 0 < szOf P e := by
 obtain ⟨h1, h2, h3⟩ := h.own id ho
 subst hv
 cases hx : x.t with
 | nums e k z l =>
  rw [hx] at h3
  obtain ⟨q1, q2, q3⟩ := h3
  rcases q1.2 with ⟨h, _⟩ | ⟨b, cap', cur, h, _, hh, hnc, hcm, hcs, ht⟩
  ·simp at h
  ·simp only [Value.slice.injEq, Option.some.injEq] at h
   obtain ⟨rfl, rfl, rfl⟩ := h
   exact ⟨b, cur, e, rfl, q3 b rfl, rfl, hh, rfl, hnc, hcm, by rw [q2]; exact hcs, rfl, by omega⟩
 | sl e z l =>
  rw [hx] at h3
  obtain ⟨cs, q1, q2, q3, q4⟩ := h3
  rcases q1.2 with ⟨h, _⟩ | ⟨b, cap', cur, h, _, hh, hnc, hcm, hcs, ht⟩
  ·simp at h
  ·simp only [Value.slice.injEq, Option.some.injEq] at h
   obtain ⟨rfl, rfl, rfl⟩ := h
   exact ⟨b, cur, e, rfl, q3 b rfl, rfl, hh, rfl, hnc, hcm, hcs, rfl, q2⟩
 | _ => rw [hx] at h3; exact h3.elim
theorem qaU {x : T} : x.isBad = false ↔ x ≠ .bad := by cases x <;> simp [T.isBad]
theorem Turn.mono {ids ids' : List Id} (T : Turn M M' w w' ids) (h : ∀ r ∈ ids, r ∈ ids') : Turn M M' w w' ids' := by
 refine ⟨T.ok, fun r hr => T.β r fun hm => hr (h r hm), fun r hr => T.hd r fun hm => hr (h r hm), fun r b hr hb hlt => ?_, fun b hb hq hok => T.same b hb (fun r hr => hq r (h r hr)) hok, T.size⟩
 by_cases hi : r ∈ ids
 ·obtain ⟨r', h1, h2⟩ := T.kept r b hi hb hlt
  exact ⟨r', h r' h1, h2⟩
 ·rw [T.β r hi] at hb
  exact ⟨r, hr, hb⟩
theorem qaq {id : Id} (h : notB id = true) (d : Nat) : Id.b d ≠ id := by
 rintro rfl
 simp [notB] at h
theorem Car.rewriteG {id : Id} {gone : List Id} {t : T} {g : List Id} {sep : Bool} (T : Turn M M' w w' (id :: gone)) (hB : Base E M w) (hnew : VrG P M' w' ⟨t, g, sep, some id⟩ (M.hd id))
  (hel : ∀ b, (M.hd id).ownBlock = some b -> ∃ cur e, w.heap[b]? = some (.cells cur e (0, 0)) /\ elOf t = some e) : Car P M M' w w' (rewrite id gone t g sep) := by
 have key : ∀ x : V, (x.own = some id /\ x.t ≠ .bad /\ YthocpcfjfgnkgaaGreatRv.rewrite id gone t g sep x = ⟨t, g, sep, some id⟩) ∨ YthocpcfjfgnkgaaGreatRv.rewrite id gone t g sep x = YthocpcfjfgnkgaaGreatRv.kill (id :: gone) x := fun x => by
  unfold YthocpcfjfgnkgaaGreatRv.rewrite
  cases h : x.own == some id && !x.t.isBad with
  | true =>
   simp only [Bool.and_eq_true, beq_iff_eq, Bool.not_eq_true'] at h
   exact .inl ⟨h.1, qaU.1 h.2, rfl⟩
  | false => exact .inr rfl
 have K : Car P M M' w w' (YthocpcfjfgnkgaaGreatRv.kill (id :: gone)) := Car.kill T hB
 refine ⟨fun x v h => ?_, fun x hx => ?_, fun x ad n cap h hx => ?_⟩
 ·rcases key x with ⟨h1, h2, h3⟩ | h3
  ·rw [h3]
   intro _
   rw [<- ((h h2).own id h1).2.1]
   exact hnew
  ·rw [h3]; exact K.vr x v h
 ·rcases key x with ⟨h1, h2, h3⟩ | h3
  ·exact h2
  ·rw [h3] at hx; exact K.ne x hx
 ·rcases key x with ⟨h1, h2, h3⟩ | h3
  ·rw [h3]
   obtain ⟨b, cur, e, _, _, q3, q4, _, _, _, _, q5, _⟩ := qam h h1 rfl
   obtain ⟨cur', e', p1, p2⟩ := hel b (by rw [(h.own id h1).2.1]; exact q5)
   rw [q4] at p1
   cases p1
   rw [q3]
   exact p2
  ·rw [h3] at hx ⊢; exact K.el x ad n cap h hx
theorem Car.rewrite {id : Id} {gone : List Id} {t : T} {g : List Id} {sep : Bool} (T0 : Turn M M' w w' [id]) (hB : Base E M w) (hnew : VrG P M' w' ⟨t, g, sep, some id⟩ (M.hd id))
  (hel : ∀ b, (M.hd id).ownBlock = some b -> ∃ cur e, w.heap[b]? = some (.cells cur e (0, 0)) /\ elOf t = some e) : Car P M M' w w' (rewrite id gone t g sep) :=
 Car.rewriteG (T0.mono fun r hr => by simp at hr; simp [hr]) hB hnew hel
theorem Rel.rewritten {id : Id} {gone : List Id} {t : T} {g : List Id} {sep : Bool} {b : Nat} {new : Array Value} (hR : Rel P E M S a w) (hβ : M.β id b) (hng : notB id = true)
  (hnew : Turn M M w (w.setRow b new) [id] -> VrG P M (w.setRow b new) ⟨t, g, sep, some id⟩ (M.hd id)) (hel : ∀ b, (M.hd id).ownBlock = some b -> ∃ cur e, w.heap[b]? = some (.cells cur e (0, 0)) /\ elOf t = some e) :
  Rel P E M (S.map (rewrite id gone t g sep)) a (w.setRow b new) := by
 have hB := hR.inv.base
 have T : Turn M M w (w.setRow b new) [id] := ⟨rfl, fun _ _ => rfl, fun _ _ => rfl, fun r q hr hq _ => ⟨r, hr, hq⟩, fun q _ hq _ => setRow_other w b q new fun e => hq id (by simp) (e ▸ hβ), by simp⟩
 obtain ⟨h1, h2⟩ := hR.car (Car.rewrite T hB (hnew T) hel) T fun _ => rfl
 have hn := hR.inv.new _ _ hβ
 refine ⟨Base.inv ⟨hB.os, hB.tape, hB.output, by simpa using hB.size, fun q hq hu => ?_, hB.dis, fun r q hr => by simpa using hB.lt r q hr, hB.new, hB.bxβ, hB.okβ, hB.okN, hB.pin⟩ fun q y hy => h2 q y (by simpa using qaq hng q) hy, hR.defers, by rw [hR.size]; simp [St.map], h1⟩
 rw [setRow_other w b q new fun e => ?_]
 ·exact hB.old q hq hu
 ·subst e
  rcases hn with h | h
  ·omega
  ·exact hu h
theorem qdc (b m : Nat) : (⟨b, 0, none⟩ : Addr).add m = ⟨b, m, none⟩ := by
 unfold Addr.add
 split
 ·rename_i h; subst h; rfl
 ·simp
theorem qjk {x : V} {v : Value} {id : Id} {e : TypeId} {k : IntKind} {z : Bool} {l : List Int} {i b : Nat} {n : Int} {cur : Array Value} (hB : Base E M w) (h : VrG P M w x v) (hx : x.t = .nums e k z l) (ho : x.own = some id) (hi : i < l.length)
  (hb : v.ownBlock = some b) (hh : w.heap[b]? = some (.cells cur e (0, 0))) :
  VrG P M (w.setRow b (cur.toList.take i ++ [Value.int k n] ++ cur.toList.drop (i + 1)).toArray) ⟨.nums e k z (l.set i n), x.g, x.sep, some id⟩ v := by
 obtain ⟨h1, h2, h3⟩ := h.own id ho
 rw [hx] at h3
 obtain ⟨q1, q2, q3⟩ := h3
 have hrd := h.rd
 rw [hx] at hrd
 rcases q1.2 with ⟨rfl, h0⟩ | ⟨b', cap, cur', rfl, _, hh', hnc, hcm, hcs, ht⟩
 ·omega
 ·have hbb : b' = b := by simpa [Value.ownBlock] using hb
  subst hbb
  rw [hh] at hh'
  cases hh'
  have hzf : z = false := by cases hrd with | nums _ _ _ _ _ _ _ hn hz => rw [hz]; rfl
  refine qaH hB.okβ hB.dis q2 ⟨by simp, .inr ⟨b', cap, _, by simp, Nat.zero_le _, setRow_heap w b' _ _ _ _ hh, by simpa using hnc, hcm, by simp; omega, ?_⟩⟩ h1 q3 h2 (by rw [hzf]; simp)
  apply List.ext_getElem?
  intro j
  simp only [List.length_set, Nat.mul_one, List.getElem?_take, List.getElem?_map, List.getElem?_set]
  have hcj : ∀ j, j < l.length -> cur[j]? = (l[j]?).map (.int k) := fun j hj => by
   have := congrArg (fun l => l[j]?) ht
   simp only [Nat.mul_one, List.getElem?_take, if_pos hj, List.getElem?_map, Array.getElem?_toList] at this
   exact this
  by_cases hj : j < l.length
  ·rw [if_pos hj]
   by_cases hji : i = j
   ·subst hji
    rw [if_pos rfl, if_pos hi]
    rw [List.getElem?_append_left (by simp; omega), List.getElem?_append_right (by simp; omega)]
    simp [show min i cur.size = i by omega]
   ·rw [if_neg hji]
    rw [<- hcj j hj]
    by_cases hlt : j < i
    ·rw [List.getElem?_append_left (by simp; omega), List.getElem?_append_left (by simp; omega), List.getElem?_take, if_pos hlt]
     simp
    ·rw [List.getElem?_append_right (by simp; omega), List.getElem?_drop]
     simp only [Array.getElem?_toList]
     congr 1
     simp
     omega
  ·rw [if_neg hj]
   have : l[j]? = none := List.getElem?_eq_none (by omega)
   simp [this, show ¬ i = j by omega]
theorem qhP {x : V} {v : Value} {id : Id} {e : TypeId} {z : Bool} {l : List T} {i off b : Nat} {xs : List V} {us : Array Value} {ts : List TypeId} {cur : Array Value} (hB : Base E M w) (h : VrG P M w x v) (hx : x.t = .sl e z l) (ho : x.own = some id) (hi : i < l.length)
  (hb : v.ownBlock = some b) (hh : w.heap[b]? = some (.cells cur e (0, 0))) (hus : VrL P M w xs us) (hok : okCells P ts xs = true) (hts : ((cellTys P depth e).drop off).take ts.length = ts) (hne : 0 < ts.length) (hid : id ∉ gs xs)
  (sep : Bool) (hsep : sep = true -> x.sep = true /\ apart x.g xs = true) :
  VrG P M (w.setRow b (cur.toList.take (i * szOf P e + off) ++ us.toList ++ cur.toList.drop (i * szOf P e + off + us.size)).toArray) ⟨.sl e z (l.set i (setEl P e (l.getD i .bad) off (xs.map (·.t)))), x.g ++ gs xs, sep, some id⟩ v := by
 obtain ⟨h1, h2, h3⟩ := h.own id ho
 rw [hx] at h3
 obtain ⟨cs, q1, q2, q3, q4⟩ := h3
 have hrd := h.rd
 have hsp := h.sep
 rw [hx] at hrd hsp
 have hbβ := q3 b hb
 rcases q1.2 with ⟨rfl, h0⟩ | ⟨b', cap, cur', rfl, _, hh', hnc, hcm, hcs, ht⟩
 ·omega
 have hbb : b' = b := by simpa [Value.ownBlock] using hb
 subst hbb
 rw [hh] at hh'
 cases hh'
 cases hrd with
 | sl _ _ _ _ _ _ c hn hz hm hcap hnc' hty hoks hp hr =>
 have hty' := hty (by omega)
 have hli : okT P e (l.getD i .bad) = true := hoks _ (by rw [List.getD_eq_getElem?_getD, List.getElem?_eq_getElem hi]; simp)
 obtain ⟨s1, s2, s3⟩ := qfW hli hok hts hne
 have hlen : (xs.map (·.t)).length = xs.length := by simp
 rw [hlen] at s2 s3
 have hcl := (qcd hli).1
 rw [hty'] at hcl
 have hfit : off + xs.length <= szOf P e := by omega
 have husz := hus.1
 have hmul : (i + 1) * szOf P e <= l.length * szOf P e := Nat.mul_le_mul_right _ hi
 rw [Nat.add_mul, Nat.one_mul] at hmul
 have hmul2 : l.length * szOf P e <= cap * szOf P e := Nat.mul_le_mul_right _ hnc
 let pos := i * szOf P e + off
 let new : List Value := cur.toList.take pos ++ us.toList ++ cur.toList.drop (pos + us.toList.length)
 have hnewfit : pos + us.toList.length <= cur.toList.length := by
  show i * szOf P e + off + us.toList.length <= cur.toList.length
  simp
  omega
 have hnew : new = cur.toList.take pos ++ us.toList ++ cur.toList.drop (pos + us.size) := by simp [new]
 have hnl : new.length = cur.size := by rw [qhk _ _ _ hnewfit]; simp
 have hng : ∀ q, new.getD q undef = if pos <= q /\ q < pos + us.size then us.getD (q - pos) undef else cur.getD q undef := fun q => by
  have := qdg undef cur.toList us.toList pos hnewfit q
  have e1 : us.toList.getD (q - pos) undef = us.getD (q - pos) undef := by simp [List.getD_eq_getElem?_getD, Array.getD_eq_getD_getElem?]
  have e2 : cur.toList.getD q undef = cur.getD q undef := by simp [List.getD_eq_getElem?_getD, Array.getD_eq_getD_getElem?]
  rw [e1, e2] at this
  exact this
 have hcs' : ∀ q, q < l.length * szOf P e -> cs.getD q undef = cur.getD q undef := fun q hq => by
  rw [<- ht, List.getD_eq_getElem?_getD, List.getElem?_take, if_pos hq]
  simp [Array.getD_eq_getD_getElem?]
 have hpos : ∀ i' j, i' < l.length -> j < szOf P e -> i' * szOf P e + j < l.length * szOf P e := fun i' j hi' hj => by
  have : (i' + 1) * szOf P e <= l.length * szOf P e := Nat.mul_le_mul_right _ hi'
  rw [Nat.add_mul, Nat.one_mul] at this
  omega
 have hin : ∀ i' j, j < szOf P e -> (pos <= i' * szOf P e + j /\ i' * szOf P e + j < pos + us.size ↔ i' = i /\ off <= j /\ j < off + xs.length) := fun i' j hj => by
  constructor
  ·intro ⟨p1, p2⟩
   have p1' : i * szOf P e + off <= i' * szOf P e + j := p1
   have p2' : i' * szOf P e + j < i * szOf P e + off + us.size := p2
   have hii : i' = i := by
    rcases Nat.lt_trichotomy i' i with h | h | h
    ·have : (i' + 1) * szOf P e <= i * szOf P e := Nat.mul_le_mul_right _ h
     rw [Nat.add_mul, Nat.one_mul] at this
     omega
    ·exact h
    ·have : (i + 1) * szOf P e <= i' * szOf P e := Nat.mul_le_mul_right _ h
     rw [Nat.add_mul, Nat.one_mul] at this
     omega
   subst hii
   omega
  ·rintro ⟨rfl, p1, p2⟩
   show i' * szOf P e + off <= i' * szOf P e + j /\ i' * szOf P e + j < i' * szOf P e + off + us.size
   omega
 have hcell : ∀ i' j, ((l.set i (setEl P e (l.getD i .bad) off (xs.map (·.t)))).getD i' .bad).cells.getD j .bad = if i' = i /\ off <= j /\ j < off + xs.length then (xs.getD (j - off) V.bad).t else (l.getD i' .bad).cells.getD j .bad := fun i' j => by
  by_cases hii : i' = i
  ·subst hii
   have e1 : (l.set i' (setEl P e (l.getD i' .bad) off (xs.map (·.t)))).getD i' .bad = setEl P e (l.getD i' .bad) off (xs.map (·.t)) := by simp [List.getD_eq_getElem?_getD, hi]
   have s4 := qdg T.bad (l.getD i' .bad).cells (xs.map (·.t)) off (by rw [hlen]; exact s3) j
   rw [hlen] at s4
   rw [e1, s2, s4]
   by_cases hj : off <= j /\ j < off + xs.length
   ·rw [if_pos hj, if_pos ⟨rfl, hj⟩, qG _ _ (by omega)]
   ·rw [if_neg hj, if_neg fun h => hj h.2]
  ·rw [if_neg fun h => hii h.1]
   congr 2
   simp [List.getD_eq_getElem?_getD, List.getElem?_set, Ne.symm hii]
 have same : ∀ A : Nat -> Prop, (∀ q, A q -> q ≠ b') -> ∀ r, Same A w (w.setRow b' r) := fun A hA r q hq => setRow_other w b' q _ (hA q hq)
 have hxg : ∀ j, j < xs.length -> ∀ r ∈ (xs.getD j V.bad).g, r ∈ gs xs := fun j hj r hr => qac (by rw [List.getD_eq_getElem?_getD, List.getElem?_eq_getElem hj]; simp) hr
 have hxne : ∀ j, j < xs.length -> (xs.getD j V.bad).t ≠ .bad := fun j hj => by
  obtain ⟨y1, y2⟩ := qz hok
  have hjt : j < ts.length := by rw [hlen] at y1; omega
  have := y2 j _ (List.getElem?_eq_getElem hjt)
  rw [qG _ _ hj] at this
  exact (qR this).2.1
 rw [<- hnew]
 refine qcK (cs := new.take (l.length * szOf P e)) hB.okβ hB.dis q2 hty' (fun y hy => ?_) ⟨?_, .inr ⟨b', cap, new.toArray, by simp, Nat.zero_le _, setRow_heap w b' _ _ _ _ hh, by simpa using hnc, hcm, by simp [hnl, hcs], by simp⟩⟩ (List.mem_append_left _ h1) q3 h2 ?_ (fun i' j hi' hj => ?_) (fun hs => ?_)
 ·rcases List.mem_or_eq_of_mem_set hy with hy | rfl
  ·exact hoks y hy
  ·exact s1
 ·rw [List.length_take, hnl, hcs, List.length_set]
  exact Nat.min_eq_left hmul2
 ·rw [hz]
  simp
 ·rw [List.length_set] at hi'
  have hq := hpos i' j hi' hj
  have e1 : (new.take (l.length * szOf P e)).getD (i' * szOf P e + j) undef = new.getD (i' * szOf P e + j) undef := by rw [List.getD_eq_getElem?_getD, List.getElem?_take, if_pos hq, List.getD_eq_getElem?_getD]
  rw [e1, hng, hcell]
  by_cases hc : i' = i /\ off <= j /\ j < off + xs.length
  ·rw [if_pos ((hin i' j hj).2 hc), if_pos hc]
   obtain ⟨rfl, c1, c2⟩ := hc
   have e2 : i' * szOf P e + j - pos = j - off := by show i' * szOf P e + j - (i' * szOf P e + off) = j - off; omega
   rw [e2]
   have hj' : j - off < xs.length := by omega
   have := (hus.2 _ hj' (hxne _ hj')).rd
   refine this.keep (same _ (fun q hq => ?_) _) fun q hq => ⟨⟨by simpa using hq.1, fun r hr hβ => hq.2.1 r (fun hm => hr (List.mem_append_right _ (hxg _ hj' r hm))) hβ, hq.2.2⟩, ?_⟩
   ·rintro rfl
    exact hq.2.1 id (fun hm => hid (hxg _ hj' id hm)) hbβ
   ·intro he
    have : q = b' := by simpa [Value.ownBlock] using he.symm
    subst this
    exact hq.2.1 id (fun hm => hid (hxg _ hj' id hm)) hbβ
  ·rw [if_neg fun h => hc ((hin i' j hj).1 h), if_neg hc]
   have := q4 b' rfl i' j hi' hj
   rw [hcs' _ hq] at this
   exact this.keep (same _ (fun q hq => hq.2) _) fun q hq => ⟨⟨by simpa using hq.1.1, fun r hr hβ => hq.1.2.1 r (fun hm => hr (List.mem_append_left _ hm)) hβ, hq.1.2.2⟩, fun he => hq.2 (by simpa [Value.ownBlock] using he.symm)⟩
 ·obtain ⟨hs1, hs2⟩ := hsep hs
  obtain ⟨a1, a2⟩ := qbw hs2
  cases hsp hs1 with
  | scalar _ _ _ h => simp [T.scalar] at h
  | sl _ _ _ _ _ _ _ _ _ c' Bs _ hbb _ _ _ _ hc hsub hdis hr' =>
  have e4 : ∀ q, q < l.length * szOf P e -> c' q = cur.getD q undef := fun q hq => by
   have h1 := hc q hq
   rw [qdc] at h1
   simp only [World.cell?, hh] at h1
   rw [Array.getD_eq_getD_getElem?]
   simp at h1
   rw [h1]
   rfl
  have hgetx : ∀ j, j < xs.length -> xs.getD j V.bad ∈ xs := fun j hj => by rw [List.getD_eq_getElem?_getD, List.getElem?_eq_getElem hj]; simp
  have hdx : ∀ j q, j < xs.length -> inside M (xs.getD j V.bad).g q -> ¬ inside M x.g q /\ q ≠ b' := fun j q hj ⟨r, hr, hβ⟩ => by
   refine ⟨fun ⟨r', hr', hβ'⟩ => (a1 _ (hgetx j hj)).2 r hr (by rw [hB.dis _ _ _ hβ hβ']; exact hr'), ?_⟩
   rintro rfl
   exact hid (hxg j hj id (by rw [hB.dis _ _ _ hbβ hβ]; exact hr))
  have hdxx : ∀ i j q, i < xs.length -> j < xs.length -> inside M (xs.getD i V.bad).g q -> inside M (xs.getD j V.bad).g q -> i = j := fun i j q hi hj ⟨r, hr, hβ⟩ ⟨r', hr', hβ'⟩ => by
   have e : r = r' := hB.dis _ _ _ hβ hβ'
   subst e
   rcases Nat.lt_trichotomy i j with h | h | h
   ·exact (a2 i j h hj r hr hr').elim
   ·exact h
   ·exact (a2 j i h hi r hr' hr).elim
  refine ⟨fun q p => if pos <= q /\ q < pos + us.size then inside M (xs.getD (q - pos) V.bad).g p else Bs q p, fun q p hp => ?_, fun q q' p hp hp' => ?_, fun i' j hi' hj => ?_⟩
  ·by_cases hq : pos <= q /\ q < pos + us.size
   ·simp only [if_pos hq] at hp
    obtain ⟨d1, d2⟩ := hdx (q - pos) p (by omega) hp
    obtain ⟨r, hr, hβ⟩ := hp
    exact ⟨⟨r, List.mem_append_right _ (hxg _ (by omega) r hr), hβ⟩, fun he => d2 (by simpa [Value.ownBlock] using he.symm)⟩
   ·simp only [if_neg hq] at hp
    obtain ⟨⟨r, hr, hβ⟩, d2⟩ := hsub q p hp
    exact ⟨⟨r, List.mem_append_left _ hr, hβ⟩, fun he => d2 (by simpa [Value.ownBlock] using he.symm)⟩
  ·by_cases hq : pos <= q /\ q < pos + us.size <;> by_cases hq' : pos <= q' /\ q' < pos + us.size
   ·simp only [if_pos hq] at hp
    simp only [if_pos hq'] at hp'
    have := hdxx _ _ p (by omega) (by omega) hp hp'
    omega
   ·simp only [if_pos hq] at hp
    simp only [if_neg hq'] at hp'
    exact ((hdx _ p (by omega) hp).1 (hsub q' p hp').1).elim
   ·simp only [if_neg hq] at hp
    simp only [if_pos hq'] at hp'
    exact ((hdx _ p (by omega) hp').1 (hsub q p hp).1).elim
   ·simp only [if_neg hq] at hp
    simp only [if_neg hq'] at hp'
    exact hdis q q' p hp hp'
  ·rw [List.length_set] at hi'
   have hq := hpos i' j hi' hj
   have e1 : (new.take (l.length * szOf P e)).getD (i' * szOf P e + j) undef = new.getD (i' * szOf P e + j) undef := by rw [List.getD_eq_getElem?_getD, List.getElem?_take, if_pos hq, List.getD_eq_getElem?_getD]
   rw [e1, hng, hcell]
   by_cases hc : i' = i /\ off <= j /\ j < off + xs.length
   ·have hc' := (hin i' j hj).2 hc
    simp only [if_pos hc', if_pos hc]
    obtain ⟨rfl, c1, c2⟩ := hc
    have e2 : i' * szOf P e + j - pos = j - off := by show i' * szOf P e + j - (i' * szOf P e + off) = j - off; omega
    rw [e2]
    have hj' : j - off < xs.length := by omega
    have hG := hus.2 _ hj' (hxne _ hj')
    exact (hG.sep (a1 _ (hgetx _ hj')).1).keep (same _ (fun q hq => (hdx _ q hj' hq).2) _)
   ·have hc' := fun h => hc ((hin i' j hj).1 h)
    simp only [if_neg hc', if_neg hc]
    have := hr' i' j hi' hj
    rw [e4 _ hq] at this
    exact this.keep (same _ (fun q hq => (hsub _ q hq).2) _)
theorem qgo {o : Oper} {t : TypeId} {p x : Operand} {vs : List V} {y : V} {i : Int} {off : Nat} (ho : o.op = .store t p x) (hd : o.dst = none) (hR : Rel P E M S a w) (hv : cellsTV (ev P S t x) = some vs) (hp : ev P S 0 p = .ep y i off) {K : St -> Option R} {r : R}
  (h : (storeSt P S t (ev P S 0 p) vs).go C K = some r) : StepR P E M a w o K r := by
 intro next Q hn
 have hpr := ev_r hR 0 p
 have hxr := ev_r hR t x
 have hB := hR.inv.base
 have fin : ∀ {S' w'}, (Instr.storeAt t (a.eval p) (a.eval x)).run P w = .ok () w' -> K S' = some r -> Rel P E M S' a w' -> o.wp P a w next Q := fun h1 h2 h3 => by
  unfold Oper.wp
  rw [qes ho h1, Oper.upon_skip, hd]
  exact hn M _ _ _ h2 rfl h3
 rw [hp] at hpr h
 unfold storeSt at h
 simp only at h
 split at h
 ·rename_i id e k z l ho' hyt
  split at h
  ·rename_i u
   split at h
   ·rename_i k' n hut
    obtain ⟨c1, h1⟩ := qh h
    clear h
    simp only [Bool.and_eq_true, beq_iff_eq, Bool.not_eq_true'] at c1
    obtain ⟨⟨⟨⟨c2, c3⟩, c4⟩, c5⟩, c6⟩ := c1
    subst c2 c3
    obtain ⟨ad, nn, cap, e', hG, he, hi0, hin, hpv⟩ := hpr (by rw [hyt]; simp)
    rw [hyt] at he
    simp only at he
    subst he
    obtain ⟨b, cur, e2, rfl, hβ, hel, hh, hlen, hnc, hcm, hcs, hob, hsz⟩ := qam hG ho' rfl
    rw [hyt] at hel hlen
    simp only [elOf, lenT, Option.some.injEq] at hel hlen
    subst hel hlen
    have hs1 : szOf P e = 1 := by
     have := (hG.own id ho').2.2
     rw [hyt] at this
     exact this.2.1
    have hxv : (a.eval x).cells = #[.int k n] := by
     cases hev : ev P S t x with
     | val y' =>
      rw [hev] at hv hxr
      simp [cellsTV] at hv
      subst hv
      rw [qy hxr hut]
      rfl
     | agg l' =>
      rw [hev] at hv hxr
      simp [cellsTV] at hv
      subst hv
      obtain ⟨us, e9, h9⟩ := hxr
      have h8 := h9.2 0 (by simp)
      simp only [List.getD_cons_zero] at h8
      have h7 := qy h8 hut
      rw [e9]
      have h6 := h9.1
      simp at h6
      show us = _
      apply Array.ext
      ·simp [h6]
      ·intro j hj1 hj2
       have : j = 0 := by omega
       subst this
       simpa [Array.getD_eq_getD_getElem?, hj1] using h7
     | _ => rw [hev] at hv; simp [cellsTV] at hv
    rw [hs1, Nat.mul_one] at hcs
    rw [hs1, Nat.mul_one, Nat.add_zero, qdc] at hpv
    have hil : i.toNat < l.length := by omega
    have hrun := run_storeAt' (P := P) (w := w) (t := t) (off := i.toNat) (v := a.eval x) (qbv (by rw [c4]; simp)) (by rw [hxv, c4]; rfl) (fun u hu => by rw [hxv] at hu; simp at hu; subst hu; rfl) hh (by rw [hxv]; simp; omega)
    rw [<- hpv, hxv] at hrun
    have hhd := (hG.own id ho').2.1
    refine fin hrun (qj h1) (hR.rewritten hβ c6 (fun T => ?_) fun b' hb' => ?_)
    ·rw [hhd]
     exact qjk hB hG hyt ho' hil hob hh
    ·rw [hhd, hob] at hb'
     cases hb'
     exact ⟨cur, e, hh, rfl⟩
   ·exact (qg h).elim
  ·exact (qg h).elim
 ·rename_i id e z l ho' hyt
  obtain ⟨c1, h1⟩ := qh h
  clear h
  simp only [Bool.and_eq_true, beq_iff_eq, Bool.not_eq_true'] at c1
  obtain ⟨⟨⟨⟨c2, c3⟩, c4⟩, c5⟩, c6⟩ := c1
  obtain ⟨ad, nn, cap, e', hG, he, hi0, hin, hpv⟩ := hpr (by rw [hyt]; simp)
  rw [hyt] at he
  simp only at he
  subst he
  obtain ⟨b, cur, e2, rfl, hβ, hel, hh, hlen, hnc, hcm, hcs, hob, hsz⟩ := qam hG ho' rfl
  rw [hyt] at hel hlen
  simp only [elOf, lenT, Option.some.injEq] at hel hlen
  subst hel hlen
  rw [qdc] at hpv
  have hus := qbX hxr hv c4
  obtain ⟨_, inf, _, q2, _, q4, q5⟩ := unsome c3
  have hlen : vs.length = szOf P t := by have := (qz c4).1; simp at this; omega
  have hne : 0 < (cellTys P depth t).length := by omega
  have hfitT : off + (cellTys P depth t).length <= (cellTys P depth e).length := by
   have := congrArg List.length c2
   simp at this
   omega
  have hty : (cellTys P depth e).length = szOf P e := by
   have hrd := hG.rd
   rw [hyt] at hrd
   cases hrd with
   | sl _ _ _ _ _ _ c hn hz hm hcap hnc' hty => exact hty (by omega)
  have hil : i.toNat < l.length := by omega
  have hm1 : (i.toNat + 1) * szOf P e <= l.length * szOf P e := Nat.mul_le_mul_right _ hil
  have hm2 : l.length * szOf P e <= cap * szOf P e := Nat.mul_le_mul_right _ hnc
  rw [Nat.add_mul, Nat.one_mul] at hm1
  have husz := hus.1
  have hrun := run_storeAt' (P := P) (w := w) (t := t) (off := i.toNat * szOf P e + off) (v := a.eval x) (by simp [q2]) (by omega) (qbD hxr hv c4) hh (by omega)
  rw [<- hpv] at hrun
  have hhd := (hG.own id ho').2.1
  have hid : id ∉ gs vs := fun hm => qU c5 id hm (by simp)
  have hel' : ∀ (t' : T), elOf t' = some e -> ∀ b', (M.hd id).ownBlock = some b' -> ∃ cur e, w.heap[b']? = some (.cells cur e (0, 0)) /\ elOf t' = some e := fun t' ht' b' hb' => by
   rw [hhd, hob] at hb'
   cases hb'
   exact ⟨cur, e, hh, ht'⟩
  split at h1
  ·rename_i hs
   simp only [Bool.and_eq_true] at hs
   refine fin hrun (qj h1) (hR.rewritten hβ c6 (fun T => ?_) (hel' _ rfl))
   rw [hhd]
   exact qhP hB hG hyt ho' hil hob hh hus c4 c2 hne hid true fun _ => hs
  ·refine fin hrun (qj h1) (hR.rewritten hβ c6 (fun T => ?_) (hel' _ rfl))
   rw [hhd]
   exact qhP hB hG hyt ho' hil hob hh hus c4 c2 hne hid false fun h => by simp at h
 ·exact (qg h).elim
theorem qhB {o : Oper} {t : TypeId} {p x : Operand} {vs : List V} (ho : o.op = .store t p x) (hd : o.dst = none) (hR : Rel P E M S a w) (hv : cellsTV (ev P S t x) = some vs) {K : St -> Option R} {r : R}
  (h : (storeSt P S t (ev P S 0 p) vs).go C K = some r) : StepR P E M a w o K r := by
 by_cases hp : ∃ y i off, ev P S 0 p = .ep y i off
 ·obtain ⟨y, i, off, hp⟩ := hp
  exact qgo ho hd hR hv hp h
 ·exact qfB ho hd hR hv (fun y i off e => hp ⟨y, i, off, e⟩) h
def Mdl.join (M : Mdl) (id : Id) (mg : List Id) (v : Value) : Mdl :=
 ⟨fun r q => if r = id then (v.ownBlock = some q ∨ M.β id q ∨ ∃ r' ∈ mg, M.β r' q) else (r ∉ mg /\ M.β r q), M.bx, fun r => if r = id then v else M.hd r, M.ok⟩
theorem qdh {M : Mdl} {id : Id} {mg : List Id} {v : Value} (hH : isH id = false) (r : Id) : (M.join id mg v).hd r = if r = id then v else M.hd r := qgn (M := M) (N := M.join id mg v) (L := id) (v := v) hH rfl rfl r
structure Grown (w w' : World) (v v' : Value) : Prop where
 by_ : w.grownBy w' v.ownBlock
 at_ : v'.ownBlock = v.ownBlock ∨ v'.ownBlock = some w.heap.size
 lt : ∀ b, v'.ownBlock = some b -> b < w'.heap.size
theorem Grown.turn {v v' : Value} {id : Id} {mg : List Id} (G : Grown w w' v v') (hH : isH id = false) (hβ : ∀ b, v.ownBlock = some b -> M.β id b) : Turn M (M.join id mg v') w w' (id :: mg) := by
 refine ⟨rfl, fun r hr => ?_, fun r hr => ?_, fun r b hr hb hlt => ?_, fun b hb hq _ => G.by_.block b hb fun e => hq id (by simp) (hβ b e.symm), G.by_.size⟩
 ·simp only [List.mem_cons, not_or] at hr
  funext q
  simp [Mdl.join, hr.1, hr.2]
 ·simp only [List.mem_cons, not_or] at hr
  rw [qdh hH, if_neg hr.1]
 ·by_cases hi : r = id
  ·subst hi
   simp only [Mdl.join, if_true] at hb
   rcases hb with hb | hb | ⟨r', h1, h2⟩
   ·rcases G.at_ with h | h
    ·exact ⟨r, by simp, hβ b (by rw [<- h]; exact hb)⟩
    ·rw [h] at hb; simp at hb; omega
   ·exact ⟨r, by simp, hb⟩
   ·exact ⟨r', by simp [h1], h2⟩
  ·simp only [Mdl.join, if_neg hi] at hb
   simp [hi] at hr
   exact (hb.1 hr).elim
theorem Grown.base {v v' : Value} {id : Id} {mg : List Id} (G : Grown w w' v v') (hB : Base E M w) (hβ : ∀ b, v.ownBlock = some b -> M.β id b) (hid : notB id = true) (hmg : ∀ r ∈ mg, notB r = true) : Base E (M.join id mg v') w' := by
 have cs : ∀ b, (v'.ownBlock = some b ∨ M.β id b ∨ ∃ r' ∈ mg, M.β r' b) -> (b = w.heap.size /\ b < w'.heap.size) ∨ M.β id b ∨ ∃ r' ∈ mg, M.β r' b := fun b h => by
  rcases h with h | h | h
  ·rcases G.at_ with h' | h'
   ·exact .inr (.inl (hβ b (by rw [<- h']; exact h)))
   ·have := G.lt b h
    rw [h'] at h
    simp at h
    exact .inl ⟨h.symm, this⟩
  ·exact .inr (.inl h)
  ·exact .inr (.inr h)
 refine ⟨G.by_.os.trans hB.os, G.by_.tape.trans hB.tape, G.by_.output.trans hB.output, Nat.le_trans hB.size G.by_.size, fun b hb hu => ?_, fun r s b hr hs => ?_, fun r b hr => ?_, fun r b hr => ?_, fun d b hd => ?_, fun r b hr => ?_, hB.okN, hB.pin⟩
 ·rw [G.by_.block b (Nat.lt_of_lt_of_le hb hB.size) fun e => ?_]
  ·exact hB.old b hb hu
  ·rcases hB.new _ _ (hβ b e.symm) with h | h
   ·omega
   ·exact hu h
 ·by_cases h1 : r = id <;> by_cases h2 : s = id
  ·rw [h1, h2]
  ·subst h1
   simp only [Mdl.join, if_true, if_neg h2] at hr hs
   rcases cs b hr with ⟨e, _⟩ | h | ⟨r', h3, h4⟩
   ·have := hB.lt s b hs.2; omega
   ·exact hB.dis _ _ _ h hs.2
   ·have := hB.dis _ _ _ h4 hs.2
    subst this
    exact (hs.1 h3).elim
  ·subst h2
   simp only [Mdl.join, if_true, if_neg h1] at hr hs
   rcases cs b hs with ⟨e, _⟩ | h | ⟨r', h3, h4⟩
   ·have := hB.lt r b hr.2; omega
   ·exact hB.dis _ _ _ hr.2 h
   ·have := hB.dis _ _ _ h4 hr.2
    subst this
    exact (hr.1 h3).elim
  ·simp only [Mdl.join, if_neg h1, if_neg h2] at hr hs
   exact hB.dis _ _ _ hr.2 hs.2
 ·by_cases h1 : r = id
  ·subst h1
   simp only [Mdl.join, if_true] at hr
   rcases cs b hr with ⟨_, e⟩ | h | ⟨r', h3, h4⟩
   ·exact e
   ·exact Nat.lt_of_lt_of_le (hB.lt _ _ h) G.by_.size
   ·exact Nat.lt_of_lt_of_le (hB.lt _ _ h4) G.by_.size
  ·simp only [Mdl.join, if_neg h1] at hr
   exact Nat.lt_of_lt_of_le (hB.lt _ _ hr.2) G.by_.size
 ·by_cases h1 : r = id
  ·subst h1
   simp only [Mdl.join, if_true] at hr
   rcases cs b hr with ⟨e, _⟩ | h | ⟨r', h3, h4⟩
   ·exact .inl (by have := hB.size; omega)
   ·exact hB.new _ _ h
   ·exact hB.new _ _ h4
  ·simp only [Mdl.join, if_neg h1] at hr
   exact hB.new _ _ hr.2
 ·have h1 : Id.b d ≠ id := qaq hid d
  simp only [Mdl.join, if_neg h1]
  exact ⟨fun hm => qaq (hmg _ hm) d rfl, hB.bxβ d b hd⟩
 ·by_cases h1 : r = id
  ·subst h1
   simp only [Mdl.join, if_true] at hr
   rcases cs b hr with ⟨e, _⟩ | h | ⟨r', h3, h4⟩
   ·exact hB.okN.1 b (by have := hB.size; omega)
   ·exact hB.okβ _ _ h
   ·exact hB.okβ _ _ h4
  ·simp only [Mdl.join, if_neg h1] at hr
   exact hB.okβ _ _ hr.2
theorem run_append' {t ty e : TypeId} {v u : Value} {n m c : Nat} {ad : Option Addr} {xs news : List Value} (ht : P.underlying t = some (.slice e)) (hz : (zeroCells P e).length = szOf P e) (hsz : 0 < szOf P e) (hby : bytesOf P e ≠ 0)
  (hown : w.ownsRow 0 e (szOf P e) v n xs) (hu : u = .slice ad m c) (h0 : ad = none -> m = 0 /\ c = 0) (hl : news.length = m * szOf P e) (hnews : ∀ a, ad = some a -> ∀ j x, news[j]? = some x -> w.cell? (a.add j) = some x)
  (h1 : ∀ x ∈ news, x.oneCell' = true) (hr : n + m < room (bytesOf P e)) :
  ∃ v' w', (Builtin.append_ #[t, t] ty #[v, u]).run P w = .ok v' w' /\ w'.ownsRow 0 e (szOf P e) v' (n + m) (xs ++ news) /\ Grown w w' v v' /\ (v' = .slice none 0 0 ↔ v = .slice none 0 0 /\ m = 0) := by
 obtain ⟨i, z, hi, hiz, hzc⟩ := qS (P := P) (t := e) (by
  cases hzz : zeroCells P e with
  | nil => rw [hzz] at hz; simp at hz; omega
  | cons _ _ => rfl)
 have hsi : i.size = szOf P e := by simp [szOf, hi]
 have hbi : i.bytes = bytesOf P e := by simp [bytesOf, hi]
 have hroom := qgP hby hr
 have hmx : n + m <= maxLen := by
  have : 0 < bytesOf P e := Nat.pos_of_ne_zero hby
  have : n + m <= bytesOf P e * (n + m) := Nat.le_mul_of_pos_left _ this
  simp only [maxLen]
  omega
 cases ad with
 | none =>
  obtain ⟨rfl, rfl⟩ := h0 rfl
  have hn : news = [] := List.eq_nil_of_length_eq_zero (by simpa using hl)
  subst hn hu
  refine ⟨v, w, run_append_owned_none w 0 t ty e i (szOf P e) ht hi v n xs hown, by simpa using hown, ⟨⟨rfl, rfl, rfl, Nat.le_refl _, fun _ _ _ => rfl⟩, .inl rfl, fun b hb => (hown.lt b hb).2⟩, by simp⟩
 | some ad =>
  subst hu
  obtain ⟨v', w', h2, h3, h4, h5, h6⟩ := run_append_own_at (P := P) w 0 t ty e i z (szOf P e) (bytesOf P e) ht hi hiz hsi hbi (by rw [hzc]; simpa using hz) hsz v n xs hown ad m c news hl (hnews ad rfl) h1 hmx (by rw [Nat.mul_comm]; exact hroom) (Nat.zero_le _)
  exact ⟨v', w', h2, h3, ⟨h4, h6, fun b hb => (h3.lt b hb).2⟩, h5⟩
theorem Rel.grown {v v' : Value} {id : Id} {mg : List Id} {d : Nat} {t : TV} (hR : Rel P E M S a w) (G : Grown w w' v v') (hβ : ∀ b, v.ownBlock = some b -> M.β id b) (hid : notB id = true) (hH : isH id = false) (hmg : ∀ r ∈ mg, notB r = true)
  (hnew : Base E (M.join id mg v') w' -> TVr P (M.join id mg v') w' t v') : Rel P E (M.join id mg v') ((S.map (kill (id :: mg))).put (some d) t) (a.put (some d) v') w' := by
 have hB := hR.inv.base
 have T := G.turn (mg := mg) hH hβ
 have hB' := G.base hB hβ hid hmg
 obtain ⟨h1, h2⟩ := hR.car (Car.kill T hB) T fun _ => rfl
 have hR' : Rel P E (M.join id mg v') (S.map (kill (id :: mg))) a w' := ⟨hB'.inv fun q y hy => h2 q y (by
  simp only [List.mem_cons, not_or]
  exact ⟨qaq hid q, fun hm => qaq (hmg _ hm) q rfl⟩) hy, hR.defers, by rw [hR.size]; simp [St.map], h1⟩
 exact hR'.put (some d) t v' (hnew hB')
end
section
variable {P : Program} {M M' : Mdl} {w w' : World} {S : St} {a : Act} {E : Env} {C : CallSem} {R : Type} {A B : Nat -> Prop}
theorem qaK {u : Value} {e : TypeId} {k : IntKind} {z : Bool} {m : List Int} (h : Rd P w A u (.nums e k z m)) :
  ∃ ad c, u = .slice ad m.length c /\ (ad = none -> m.length = 0 /\ c = 0) /\ (∀ a, ad = some a -> ∀ j x, (m.map (Value.int k))[j]? = some x -> w.cell? (a.add j) = some x) /\ (z = true ↔ u = .slice none 0 0) := by
 cases h with
 | nums ad n c _ _ _ _ hn hz hm hcap hnc hc =>
  subst hn
  refine ⟨ad, c, rfl, fun h => ?_, fun a ha j x hx => ?_, ?_⟩
  ·have := hcap h; omega
  ·rw [List.getElem?_map] at hx
   cases hj : m[j]? with
   | none => simp [hj] at hx
   | some q =>
    simp [hj] at hx
    have hjl := (List.getElem?_eq_some_iff.1 hj).1
    obtain ⟨ad', h1, h2, h3⟩ := hc j hjl
    rw [ha] at h1
    cases h1
    rw [h3, <- hx, List.getD_eq_getElem?_getD, hj]
    rfl
  ·rw [hz]
   cases ad with
   | none =>
    have hc0 := hcap rfl
    have hm0 : m.length = 0 := by omega
    rw [hm0, hc0]
    simp
   | some a => simp
theorem qin {u : Value} {e : TypeId} {z : Bool} {m : List T} (h : Rd P w A u (.sl e z m)) :
  ∃ ad c, ∃ f : Nat -> Value, u = .slice ad m.length c /\ (ad = none -> m.length = 0 /\ c = 0) /\ (∀ a, ad = some a -> ∀ j, j < m.length * szOf P e -> w.cell? (a.add j) = some (f j)) /\ (∀ i j, i < m.length -> j < szOf P e -> Rd P w A (f (i * szOf P e + j)) ((m.getD i .bad).cells.getD j .bad)) /\
   (0 < m.length -> (cellTys P depth e).length = szOf P e) /\ (∀ x ∈ m, okT P e x = true) /\ (z = true ↔ u = .slice none 0 0) := by
 cases h with
 | sl ad n c _ _ _ f hn hz hm hcap hnc hsz hs hp hr =>
  subst hn
  refine ⟨ad, c, f, rfl, fun h => ?_, fun a ha j hj => ?_, hr, hsz, hs, ?_⟩
  ·have := hcap h; omega
  ·have h0 : 0 < m.length := by
    rcases Nat.eq_zero_or_pos m.length with h | h
    ·rw [h] at hj; omega
    ·exact h
   obtain ⟨ad', h1, h2, h3⟩ := hp h0
   rw [ha] at h1
   cases h1
   exact h3 j hj
  ·rw [hz]
   cases ad with
   | none =>
    have hc0 := hcap rfl
    have hm0 : m.length = 0 := by omega
    rw [hm0, hc0]
    simp
   | some a => simp
theorem qfc {v : Value} {e : TypeId} {z : Bool} {l : List T} (hs : Sep P w B v (.sl e z l)) {f : Nat -> Value} {ad : Option Addr} {n c : Nat} (hv : v = .slice ad n c) (hf : ∀ a, ad = some a -> ∀ j, j < l.length * szOf P e -> w.cell? (a.add j) = some (f j)) :
  ∃ Bs : Nat -> Nat -> Prop, (∀ k q, Bs k q -> B q /\ v.ownBlock ≠ some q) /\ (∀ i j q, Bs i q -> Bs j q -> i = j) /\ ∀ i j, i < l.length -> j < szOf P e -> Sep P w (Bs (i * szOf P e + j)) (f (i * szOf P e + j)) ((l.getD i .bad).cells.getD j .bad) := by
 cases hs with
 | scalar _ _ _ h => simp [T.scalar] at h
 | nilS _ _ _ => exact ⟨fun _ _ => False, fun _ _ h => h.elim, fun _ _ _ h => h.elim, fun i j hi => by simp at hi⟩
 | sl _ a n' cap _ _ _ cur te c' Bs hn hb hsp hh hfz ho hc hsub hdis hr =>
  simp only [Value.slice.injEq] at hv
  obtain ⟨rfl, rfl, rfl⟩ := hv
  subst hn
  refine ⟨Bs, fun k q h => ⟨(hsub k q h).1, fun e => (hsub k q h).2 (by simpa [Value.ownBlock] using e.symm)⟩, hdis, fun i j hi hj => ?_⟩
  have hb' : i * szOf P e + j < l.length * szOf P e := by
   have : (i + 1) * szOf P e <= l.length * szOf P e := Nat.mul_le_mul_right _ hi
   rw [Nat.add_mul, Nat.one_mul] at this
   omega
  have h1 := hc _ hb'
  rw [hf a rfl _ hb'] at h1
  rw [Option.some.inj h1]
  exact hr i j hi hj
theorem qis {v : Value} {e : TypeId} {n : Nat} {cs : List Value} (h : w.ownsRow 0 e (szOf P e) v n cs) : ∃ ad cap, v = .slice ad n cap /\ ∀ a, ad = some a -> ∀ j, j < n * szOf P e -> w.cell? (a.add j) = some (cs.getD j undef) := by
 have h' := h
 rcases h.2 with ⟨rfl, rfl⟩ | ⟨b, cap, cur, rfl, _⟩
 ·exact ⟨none, 0, rfl, fun a h => by simp at h⟩
 ·refine ⟨_, cap, rfl, fun a ha j hj => ?_⟩
  cases ha
  rw [qdc, h'.cellAt j hj, List.getD_eq_getElem?_getD, List.getElem?_eq_getElem (by have := h'.1; omega)]
  rfl
theorem qfT {x y : V} {v v' u : Value} {id : Id} {mg g' : List Id} {sep : Bool} {e : TypeId} {z z2 : Bool} {l m : List T} {cs : List Value} {f : Nat -> Value} (hH : isH id = false) (hB : Base E M w) (hB' : Base E (M.join id mg v') w') (G : Grown w w' v v')
  (hx : VrG P M w x v) (hxt : x.t = .sl e z l) (hxo : x.own = some id) (hcs : w.ownsRow 0 e (szOf P e) v l.length cs)
  (hq : ∀ b, v.ownBlock = some b -> ∀ i j, i < l.length -> j < szOf P e -> Rd P w (fun q => avoid M w x.g q /\ q ≠ b) (cs.getD (i * szOf P e + j) undef) ((l.getD i .bad).cells.getD j .bad))
  (hy : VrG P M w y u) (hyt : y.t = .sl e z2 m) (hyid : id ∉ y.g) (hsz : 0 < szOf P e) (hty : (cellTys P depth e).length = szOf P e) {ad : Option Addr} {c : Nat} (hu : u = .slice ad m.length c)
  (hf : ∀ a, ad = some a -> ∀ j, j < m.length * szOf P e -> w.cell? (a.add j) = some (f j)) (hr : ∀ i j, i < m.length -> j < szOf P e -> Rd P w (avoid M w y.g) (f (i * szOf P e + j)) ((m.getD i .bad).cells.getD j .bad)) (hoks : ∀ q ∈ m, okT P e q = true)
  (hown' : w'.ownsRow 0 e (szOf P e) v' (l.length + m.length) (cs ++ (List.range (m.length * szOf P e)).map f)) (hnil : v' = .slice none 0 0 ↔ v = .slice none 0 0 /\ m.length = 0)
  (hid : id ∈ g') (hg : ∀ r, r ∈ x.g ∨ r ∈ y.g -> r ∈ g' ∨ r ∈ mg) (hsep : sep = true -> x.sep = true /\ y.sep = true /\ (∀ r ∈ x.g, r ∉ y.g) /\ ∀ r, r ∈ x.g ∨ r ∈ y.g -> r = id ∨ r ∈ mg) :
  VrG P (M.join id mg v') w' ⟨.sl e (m.isEmpty && z) (l ++ m), g', sep, some id⟩ v' := by
 obtain ⟨h1, h2, h3⟩ := hx.own id hxo
 have hrdx := hx.rd
 rw [hxt] at hrdx h3
 have hvβ : ∀ b, v.ownBlock = some b -> M.β id b := by obtain ⟨_, _, _, q3, _⟩ := h3; exact q3
 obtain ⟨_, _, _, _, _, _, _, _, hoksx, hzx⟩ := qin hrdx
 obtain ⟨adx, capx, hvx, hcx⟩ := qis hcs
 have hpos : ∀ (n i j : Nat), i < n -> j < szOf P e -> i * szOf P e + j < n * szOf P e := fun n i j hi hj => by
  have : (i + 1) * szOf P e <= n * szOf P e := Nat.mul_le_mul_right _ hi
  rw [Nat.add_mul, Nat.one_mul] at this
  omega
 have hcl : cs.length = l.length * szOf P e := hcs.1
 let all := cs ++ (List.range (m.length * szOf P e)).map f
 have eall : ∀ i j, i < (l ++ m).length -> j < szOf P e -> (i < l.length /\ all.getD (i * szOf P e + j) undef = cs.getD (i * szOf P e + j) undef /\ (l ++ m).getD i .bad = l.getD i .bad) ∨
   (l.length <= i /\ i - l.length < m.length /\ all.getD (i * szOf P e + j) undef = f ((i - l.length) * szOf P e + j) /\ (l ++ m).getD i .bad = m.getD (i - l.length) .bad) := fun i j hi hj => by
  by_cases hil : i < l.length
  ·left
   have := hpos l.length i j hil hj
   refine ⟨hil, ?_, ?_⟩
   ·simp only [all, List.getD_eq_getElem?_getD]
    rw [List.getElem?_append_left (by omega)]
   ·simp only [List.getD_eq_getElem?_getD]
    rw [List.getElem?_append_left hil]
  ·right
   have hi2 : i - l.length < m.length := by simp at hi; omega
   have hp := hpos m.length (i - l.length) j hi2 hj
   have e1 : i * szOf P e + j = l.length * szOf P e + ((i - l.length) * szOf P e + j) := by
    have : i = l.length + (i - l.length) := by omega
    conv => lhs; rw [this, Nat.add_mul]
    omega
   refine ⟨by omega, hi2, ?_, ?_⟩
   ·simp only [all, List.getD_eq_getElem?_getD]
    rw [List.getElem?_append_right (by omega), e1, hcl, Nat.add_sub_cancel_left]
    simp [hp]
   ·simp only [List.getD_eq_getElem?_getD]
    rw [List.getElem?_append_right (by omega)]
 have av : ∀ (gg : List Id) q, (∀ r ∈ gg, r ∈ x.g ∨ r ∈ y.g) -> avoid M w gg q -> v.ownBlock ≠ some q -> avoid (M.join id mg v') w' g' q /\ v'.ownBlock ≠ some q := fun gg q hgg hq hne => by
  refine ⟨⟨Nat.lt_of_lt_of_le hq.1 G.by_.size, fun r hr hβ => ?_, hq.2.2⟩, fun he => ?_⟩
  ·have hri : r ≠ id := fun e => hr (e ▸ hid)
   simp only [Mdl.join, if_neg hri] at hβ
   exact hq.2.1 r (fun hm => (hg r (hgg r hm)).elim hr hβ.1) hβ.2
  ·rcases G.at_ with h | h
   ·exact hne (by rw [<- h]; exact he)
   ·rw [h] at he
    have := hq.1
    simp at he
    omega
 have same : ∀ (X : Nat -> Prop), (∀ q, X q -> q < w.heap.size /\ v.ownBlock ≠ some q) -> Same X w w' := fun X hX q hq => G.by_.block q (hX q hq).1 fun e => (hX q hq).2 e.symm
 have yb : ∀ q, avoid M w y.g q -> v.ownBlock ≠ some q := fun q hq he => hq.2.1 id hyid (hvβ q he)
 have xb : ∀ i, i < l.length -> ∃ b, v.ownBlock = some b := fun i hi => by
  cases adx with
  | none =>
   rcases hcs.2 with ⟨_, h0⟩ | ⟨b, _, _, h, _⟩
   ·omega
   ·rw [hvx] at h; simp at h
  | some a => exact ⟨a.block, by rw [hvx]; rfl⟩
 have hlen : (l ++ m).length = l.length + m.length := List.length_append
 refine qcK (cs := all) hB'.okβ hB'.dis hsz hty (fun q hq => ?_) (by rw [hlen]; exact hown') hid (fun b hb => by simp [Mdl.join, hb]) (by rw [qdh hH, if_pos rfl]) ?_ (fun i j hi hj => ?_) (fun hs => ?_)
 ·rcases List.mem_append.1 hq with hq | hq
  ·exact hoksx q hq
  ·exact hoks q hq
 ·rw [hnil, <- hzx]
  cases m <;> cases z <;> simp
 ·rcases eall i j hi hj with ⟨hil, e1, e2⟩ | ⟨hil, hi2, e1, e2⟩
  ·rw [e1, e2]
   obtain ⟨b, hb⟩ := xb i hil
   refine (hq b hb i j hil hj).keep (same _ fun q hq => ⟨hq.1.1, fun he => hq.2 ?_⟩) fun q hq => av x.g q (fun r hr => .inl hr) hq.1 fun he => hq.2 ?_
   ·rw [hb] at he; exact (Option.some.inj he).symm
   ·rw [hb] at he; exact (Option.some.inj he).symm
  ·rw [e1, e2]
   exact (hr _ j hi2 hj).keep (same _ fun q hq => ⟨hq.1, yb q hq⟩) fun q hq => av y.g q (fun r hr => .inr hr) hq (yb q hq)
 ·obtain ⟨s1, s2, s3, s4⟩ := hsep hs
  have hsx := hx.sep s1
  have hsy := hy.sep s2
  rw [hxt] at hsx
  rw [hyt] at hsy
  obtain ⟨Bx, x1, x2, x3⟩ := qfc hsx hvx hcx
  obtain ⟨By, y1, y2, y3⟩ := qfc hsy hu hf
  have xin : ∀ q, inside M x.g q -> inside (M.join id mg v') g' q := fun q ⟨r, hr, hβ⟩ => ⟨id, hid, by
   simp only [Mdl.join, if_true]
   rcases s4 r (.inl hr) with h | h
   ·subst h; exact .inr (.inl hβ)
   ·exact .inr (.inr ⟨r, h, hβ⟩)⟩
  have yin : ∀ q, inside M y.g q -> inside (M.join id mg v') g' q := fun q ⟨r, hr, hβ⟩ => ⟨id, hid, by
   simp only [Mdl.join, if_true]
   rcases s4 r (.inr hr) with h | h
   ·subst h; exact .inr (.inl hβ)
   ·exact .inr (.inr ⟨r, h, hβ⟩)⟩
  have xlt : ∀ q, inside M x.g q -> q < w.heap.size := fun q ⟨r, _, hβ⟩ => hB.lt r q hβ
  have ylt : ∀ q, inside M y.g q -> q < w.heap.size := fun q ⟨r, _, hβ⟩ => hB.lt r q hβ
  have xy : ∀ q, inside M x.g q -> ¬ inside M y.g q := fun q ⟨r, hr, hβ⟩ ⟨r', hr', hβ'⟩ => s3 r hr (by rw [hB.dis _ _ _ hβ hβ']; exact hr')
  have yv : ∀ q, inside M y.g q -> v.ownBlock ≠ some q := fun q ⟨r, hr, hβ⟩ he => hyid (by rw [hB.dis _ _ _ (hvβ q he) hβ]; exact hr)
  have own' : ∀ q, q < w.heap.size -> v.ownBlock ≠ some q -> v'.ownBlock ≠ some q := fun q hq hne he => by
   rcases G.at_ with h | h
   ·exact hne (by rw [<- h]; exact he)
   ·rw [h] at he; simp at he; omega
  refine ⟨fun k q => if k < l.length * szOf P e then Bx k q else By (k - l.length * szOf P e) q, fun k q hk => ?_, fun k k' q hk hk' => ?_, fun i j hi hj => ?_⟩
  ·by_cases h : k < l.length * szOf P e
   ·simp only [if_pos h] at hk
    obtain ⟨q1, q2⟩ := x1 k q hk
    exact ⟨xin q q1, own' q (xlt q q1) q2⟩
   ·simp only [if_neg h] at hk
    obtain ⟨q1, q2⟩ := y1 _ q hk
    exact ⟨yin q q1, own' q (ylt q q1) (yv q q1)⟩
  ·by_cases h : k < l.length * szOf P e <;> by_cases h' : k' < l.length * szOf P e
   ·simp only [if_pos h, if_pos h'] at hk hk'
    exact x2 _ _ _ hk hk'
   ·simp only [if_pos h, if_neg h'] at hk hk'
    exact (xy q (x1 k q hk).1 (y1 _ q hk').1).elim
   ·simp only [if_neg h, if_pos h'] at hk hk'
    exact (xy q (x1 k' q hk').1 (y1 _ q hk).1).elim
   ·simp only [if_neg h, if_neg h'] at hk hk'
    have := y2 _ _ _ hk hk'
    omega
  ·rcases eall i j hi hj with ⟨hil, e1, e2⟩ | ⟨hil, hi2, e1, e2⟩
   ·rw [e1, e2]
    have hp := hpos l.length i j hil hj
    simp only [if_pos hp]
    refine (x3 i j hil hj).keep (same _ fun q hq => ⟨xlt q (x1 _ q hq).1, (x1 _ q hq).2⟩)
   ·rw [e1, e2]
    have hge : ¬ i * szOf P e + j < l.length * szOf P e := by
     have : l.length * szOf P e <= i * szOf P e := Nat.mul_le_mul_right _ hil
     omega
    simp only [if_neg hge]
    have e3 : i * szOf P e + j - l.length * szOf P e = (i - l.length) * szOf P e + j := by
     have h5 : i = l.length + (i - l.length) := by omega
     have h6 : i * szOf P e = l.length * szOf P e + (i - l.length) * szOf P e := by conv => lhs; rw [h5, Nat.add_mul]
     omega
    rw [e3]
    exact (y3 _ j hi2 hj).keep (same _ fun q hq => ⟨ylt q (y1 _ q hq).1, yv q (y1 _ q hq).1⟩)
theorem cells_one' {e : TypeId} {l : List T} {f : Nat -> Value} (hr : ∀ i j, i < l.length -> j < szOf P e -> Rd P w A (f (i * szOf P e + j)) ((l.getD i .bad).cells.getD j .bad)) (hok : ∀ x ∈ l, okT P e x = true) (hty : (cellTys P depth e).length = szOf P e) (hsz : 0 < szOf P e) :
  ∀ x ∈ (List.range (l.length * szOf P e)).map f, x.oneCell' = true := by
 intro x hx
 obtain ⟨k, hk, rfl⟩ := List.mem_map.1 hx
 have hk' := List.mem_range.1 hk
 have hi : k / szOf P e < l.length := Nat.div_lt_of_lt_mul (by rw [Nat.mul_comm]; exact hk')
 have hj : k % szOf P e < szOf P e := Nat.mod_lt _ hsz
 have e1 : k / szOf P e * szOf P e + k % szOf P e = k := by rw [Nat.mul_comm]; exact Nat.div_add_mod k (szOf P e)
 have h1 := hr _ _ hi hj
 rw [e1] at h1
 have h2 := (qcd (hok (l.getD (k / szOf P e) .bad) (by rw [List.getD_eq_getElem?_getD, List.getElem?_eq_getElem hi]; simp))).2 (k % szOf P e) _ (List.getElem?_eq_getElem (by omega))
 exact qiE h1 h2
theorem qdv {o : Oper} {t e : TypeId} {px py : Operand} {d : Nat} {x xa y : V} {v u : Value} {id : Id} (ho : o.op = .call { callee := .builtin .append, args := #[px, py], argTypes := #[t, t] }) (hd : o.dst = some d) (hR : Rel P E M S a w)
  (hv : a.eval px = v) (hu : a.eval py = u) (ht : P.underlying t = some (.slice e)) (hz : (zeroCells P e).length = szOf P e) (hsz : szOf P e ≠ 0) (hby : bytesOf P e ≠ 0)
  (hx : VrG P M w x v) (hxo : x.own = some id) (hxt : xa.t = x.t) (hxg : ∀ r ∈ x.g, r = id ∨ r ∈ xa.g) (hxs : xa.sep = true -> x.sep = true) (hy : Vr P M w y u) {K : St -> Option R} {r : R}
  (h : (appGo P S d e id xa y).go C K = some r) : StepR P E M a w o K r := by
 intro next Q hn
 have hB := hR.inv.base
 have hvβ : ∀ b, v.ownBlock = some b -> M.β id b := fun b hb => by
  obtain ⟨h1, h2, h3⟩ := hx.own id hxo
  cases hxt' : x.t with
  | nums e k z l => rw [hxt'] at h3; exact h3.2.2 b hb
  | sl e z l => rw [hxt'] at h3; obtain ⟨_, _, _, q3, _⟩ := h3; exact q3 b hb
  | _ => rw [hxt'] at h3; exact h3.elim
 have hsz' : 0 < szOf P e := Nat.pos_of_ne_zero hsz
 have fin : ∀ {v' w' S' mg}, (Builtin.append_ #[t, t] o.type #[v, u]).run P w = .ok v' w' -> K S' = some r -> Rel P E (M.join id mg v') S' (a.put (some d) v') w' -> o.wp P a w next Q := fun {v' w' S' mg} h1 h2 h3 => by
  have hrun : (execOp a.eval o).run P w = .ok (.value v') w' := by
   rw [qM ho]
   simp only [builtin, List.map_toArray, List.map_cons, List.map_nil, hv, hu]
   rw [Sem.run_bind, h1]
   rfl
  unfold Oper.wp
  rw [hrun, Oper.upon_value, hd]
  exact hn _ _ _ _ h2 (by rfl) h3
 unfold appGo at h
 rw [hxt] at h
 split at h
 ·rename_i e1 k z l _ k' _ m ext eyt
  obtain ⟨c1, h1⟩ := qh h
  clear h
  obtain ⟨c0, h2⟩ := qv h1
  simp only [Bool.and_eq_true, beq_iff_eq, Bool.not_eq_true'] at c1
  obtain ⟨⟨⟨⟨c2, cH⟩, c3⟩, c4⟩, c5⟩ := c1
  subst c3 c4
  have hyG := (hy (by rw [eyt]; simp)).rd
  rw [eyt] at hyG
  obtain ⟨ad, c, hue, h0, hnews, _⟩ := qaK hyG
  have hown := (hx.own id hxo).2.2
  rw [ext] at hown
  have hrx := hx.rd
  rw [ext] at hrx
  obtain ⟨_, _, _, _, _, hzx⟩ := qaK hrx
  have ho1 := hown.1
  rw [<- c5] at ho1
  obtain ⟨v', w', q1, q2, q3, q4⟩ := run_append' (ty := o.type) ht hz hsz' hby ho1 hue h0 (by simp [c5]) hnews (fun q hq => by obtain ⟨n, _, rfl⟩ := List.mem_map.1 hq; rfl) (of_decide_eq_true c0)
  refine fin (mg := []) q1 (qj h2) (hR.grown q3 hvβ c2 cH (by simp) fun hB' => ?_)
  rw [c5] at q2
  refine fun _ => qaH hB'.okβ hB'.dis c5 (by simpa using q2) (by simp) (fun b hb => by simp [Mdl.join, hb]) (by rw [qdh cH, if_pos rfl]) ?_
  rw [q4, <- hzx]
  cases m <;> cases z <;> simp
 ·rename_i e1 z l e2 _ m ext eyt
  obtain ⟨c1, h1⟩ := qh h
  clear h
  obtain ⟨c0, h2⟩ := qv h1
  simp only [Bool.and_eq_true, beq_iff_eq, Bool.not_eq_true'] at c1
  obtain ⟨⟨⟨⟨⟨c2, cH⟩, c3⟩, c4⟩, c5⟩, c6⟩ := c1
  subst c3 c4
  have hyG := hy (by rw [eyt]; simp)
  have hyR := hyG.rd
  rw [eyt] at hyR
  obtain ⟨ad, c, f, hue, h0, hf, hrd, _, hoks, _⟩ := qin hyR
  have hown := (hx.own id hxo).2.2
  rw [ext] at hown
  obtain ⟨cs, ho1, _, _, hq⟩ := hown
  have hyid : id ∉ y.g := by simpa using c5
  obtain ⟨v', w', q1, q2, q3, q4⟩ := run_append' (ty := o.type) (news := (List.range (m.length * szOf P e)).map f) ht hz hsz' hby ho1 hue h0 (by simp) (fun a ha j q hq => by
    rw [List.getElem?_map] at hq
    cases hj : (List.range (m.length * szOf P e))[j]? with
    | none => simp [hj] at hq
    | some k =>
     obtain ⟨hjl, hk⟩ := List.getElem?_eq_some_iff.1 hj
     simp at hk hjl
     subst hk
     simp [hj] at hq
     rw [hf a ha j hjl, hq]) (cells_one' hrd hoks c6 hsz') (of_decide_eq_true c0)
  split at h2
  ·rename_i hs
   simp only [Bool.and_eq_true, Bool.not_eq_true'] at hs
   obtain ⟨⟨⟨s1, s2⟩, s3⟩, s4⟩ := hs
   refine fin (mg := xa.g ++ y.g) q1 (qj h2) (hR.grown q3 hvβ c2 cH (fun r hr => List.all_eq_true.1 s4 r hr) fun hB' => ?_)
   refine fun _ => qfT cH hB hB' q3 hx ext hxo ho1 hq hyG eyt hyid hsz' c6 hue hf hrd hoks q2 q4 (by simp) (fun r hr => ?_) (fun _ => ⟨hxs s1, s2, fun r hr => ?_, fun r hr => ?_⟩)
   ·rcases hr with hr | hr
    ·rcases hxg r hr with h | h
     ·left; simp [h]
     ·right; simp [h]
    ·right; simp [hr]
   ·rcases hxg r hr with h | h
    ·rw [h]; exact hyid
    ·exact qU s3 r h
   ·rcases hr with hr | hr
    ·rcases hxg r hr with h | h
     ·left; exact h
     ·right; simp [h]
    ·right; simp [hr]
  ·refine fin (mg := []) q1 (qj h2) (hR.grown q3 hvβ c2 cH (by simp) fun hB' => ?_)
   refine fun _ => qfT cH hB hB' q3 hx ext hxo ho1 hq hyG eyt hyid hsz' c6 hue hf hrd hoks q2 q4 (by simp [unionId]) (fun r hr => ?_) (fun h => by simp at h)
   left
   unfold unionId
   by_cases hri : r = id
   ·simp [hri]
   ·rcases hr with hr | hr
    ·have := (hxg r hr).resolve_left hri
     simp [hri, this]
    ·by_cases hm : r ∈ xa.g
     ·simp [hri, hm]
     ·simp [hri, hm, hr]
 ·exact (qg h).elim
theorem qgA {o : Oper} {args : Array Operand} {ts : Array TypeId} {px py : Operand} {d : Nat} {x y : V} (ho : o.op = .call { callee := .builtin .append, args := args, argTypes := ts }) (ha : args.toList = [px, py]) (hd : o.dst = some d) (hR : Rel P E M S a w)
  (hx : ev P S (ts.getD 0 0) px = .val x) (hy : ev P S (ts.getD 1 0) py = .val y) {K : St -> Option R} {r : R} (h : (appendSt P S d ts.toList x y).go C K = some r) : StepR P E M a w o K r := by
 have hxr := ev_r hR (ts.getD 0 0) px
 have hyr := ev_r hR (ts.getD 1 0) py
 rw [hx] at hxr
 rw [hy] at hyr
 unfold appendSt at h
 split at h
 ·rename_i t t' hts
  obtain ⟨c1, h1⟩ := qh h
  clear h
  simp only [beq_iff_eq] at c1
  subst c1
  have ets : ts = #[t, t] := by
   cases ts
   simp at hts
   rw [hts]
  have eargs : args = #[px, py] := by
   cases args
   simp at ha
   rw [ha]
  subst ets eargs
  split at h1
  ·rename_i e hund
   obtain ⟨c2, h2⟩ := qh h1
   clear h1
   simp only [Bool.and_eq_true, bne_iff_ne, ne_eq, beq_iff_eq] at c2
   obtain ⟨⟨c3, c4⟩, c5⟩ := c2
   split at h2
   ·rename_i id hown
    have hne : x.t ≠ .bad := fun e => by
     unfold appGo at h2
     rw [e] at h2
     exact qg h2
    exact qdv ho hd hR rfl rfl hund c5 c4 c3 (hxr hne) hown rfl (fun r hr => .inr hr) (fun h => h) hyr h2
   ·rename_i hown
    obtain ⟨c6, h3⟩ := qh h2
    clear h2
    simp only [Bool.and_eq_true, Bool.not_eq_true'] at c6
    obtain ⟨c7, c8⟩ := c6
    have hne : x.t ≠ .bad := fun e => by rw [e] at c7; simp [isNilT] at c7
    have hnil := qbo c7 (hxr hne).rd
    have hR1 := hR.site (B := fun _ _ => False) (hv := fun _ => .slice none 0 0) (Below.refl _ _) (fun j b h => h.elim) (fun i j b h => h.elim) c8
    have hB1 := hR1.inv.base
    have hy1 : Vr P (M.site d (fun _ _ => False) fun _ => .slice none 0 0) w y (a.eval py) := by
     have := ev_r hR1 (#[t, t].getD 1 0) py
     rw [hy] at this
     exact this
    intro next Q hn
    have hx1 : VrG P (M.site d (fun _ _ => False) fun _ => .slice none 0 0) w ⟨x.t, [.n d 0], true, some (.n d 0)⟩ (a.eval px) := by
     rw [hnil]
     unfold isNilT at c7
     have h3' := h3
     unfold appGo at h3'
     split at c7
     ·rename_i e1 k hxt
      rw [hxt] at h3' ⊢
      split at h3'
      ·rename_i q1 q2
       cases q1
       obtain ⟨c9, _⟩ := qh h3'
       simp only [Bool.and_eq_true, beq_iff_eq] at c9
       obtain ⟨⟨⟨_, p1⟩, _⟩, p2⟩ := c9
       subst p1
       refine ⟨.nums none 0 0 _ _ true [] rfl rfl (by omega) (fun _ => rfl) (Nat.le_refl _) (fun j hj => by omega), fun _ => .nilN _ _ _ _, fun id hid => ?_⟩
       simp at hid
       subst hid
       exact ⟨by simp, by simp [Mdl.site, hd_n], World.ownsRow_nil _ _ _ _, p2, fun b hb => by simp [Value.ownBlock] at hb⟩
      ·rename_i q1 q2
       cases q1
      ·exact (qg h3').elim
     ·rename_i e1 hxt
      rw [hxt] at h3' ⊢
      split at h3'
      ·rename_i q1 q2
       cases q1
      ·rename_i q1 q2
       cases q1
       obtain ⟨c9, _⟩ := qh h3'
       simp only [Bool.and_eq_true, beq_iff_eq] at c9
       obtain ⟨⟨⟨⟨_, p1⟩, _⟩, _⟩, p2⟩ := c9
       subst p1
       refine ⟨.sl none 0 0 _ true [] (fun _ => undef) rfl rfl (by omega) (fun _ => rfl) (Nat.le_refl _) (fun h => by omega) (fun q hq => by simp at hq) (fun h => by omega) (fun i j hi => by omega), fun _ => .nilS _ _ _, fun id hid => ?_⟩
       simp at hid
       subst hid
       exact ⟨by simp, by simp [Mdl.site, hd_n], [], by simpa using World.ownsRow_nil _ _ _ _, Nat.pos_of_ne_zero c4, fun b hb => by simp [Value.ownBlock] at hb, fun b hb => by simp [Value.ownBlock] at hb⟩
      ·exact (qg h3').elim
     ·simp at c7
    refine qdv (x := ⟨x.t, [.n d 0], true, some (.n d 0)⟩) (xa := x) ho hd hR1 rfl rfl hund c5 c4 c3 hx1 rfl rfl (fun r hr => .inl (by simpa using hr)) (fun _ => rfl) hy1 h3 next Q fun M' S' a' w' h4 h5 h6 => hn M' S' a' w' h4 (by rw [h5]; rfl) h6
  ·exact (qg h1).elim
 ·exact (qg h).elim
theorem run_copy' {ts : Array TypeId} {t ty elem : TypeId} {g dLen dCap m c : Nat} {u : Value} {ad : Option Addr} {cur : Array Value} {te : TypeId} {cs : List Value} (hts : ts[0]? = some t) (hu : P.underlying t = some (.slice elem)) (hs : szOf P elem = 1)
  (hg : w.heap[g]? = some (.cells cur te (0, 0))) (hsv : u = .slice ad m c) (h0 : ad = none -> m = 0 /\ c = 0) (hn : cs.length = Nat.min m dLen) (hsrc : ∀ a, ad = some a -> ∀ j v, cs[j]? = some v -> w.cell? (a.add j) = some v) (hfit : cs.length <= cur.size)
  (h1 : ∀ v ∈ cs, v.oneCell' = true) :
  (Builtin.copy_ ts ty #[.slice (some ⟨g, 0, none⟩) dLen dCap, u]).run P w = .ok (goInt cs.length) (w.setRow g (cs ++ cur.toList.drop cs.length).toArray) := by
 have hi' : (P.info? elem).isSome = true := qbv (by omega)
 obtain ⟨i, hq⟩ := Option.isSome_iff_exists.1 hi'
 have hi : i.size = 1 := by simpa [szOf, hq] using hs
 have hst := run_storeCells_at P g 0 te cs 0 cur w hg (by simpa using hfit) h1
 simp only [Nat.add_zero, Nat.zero_add, List.take_zero, List.nil_append] at hst
 subst hsv
 cases ad with
 | none =>
  obtain ⟨rfl, rfl⟩ := h0 rfl
  have hcs : cs = [] := List.eq_nil_of_length_eq_zero (by simpa using hn)
  subst hcs
  have e : w.setRow g (cur.toList.drop 0).toArray = w := by simpa using setRow_self w g cur te (0, 0) hg
  simp only [List.length_nil, List.nil_append, e]
  simp [Builtin.copy_, hts, run_underlying hu, Builtin.lenOf, Builtin.firstCells, sizeOf, typeInfo, hq, storeCells]
 | some a =>
  have hl := run_loadCells_list (P := P) w a cs (hsrc a rfl)
  simp [Builtin.copy_, hts, run_underlying hu, Builtin.lenOf, Builtin.firstCells, sizeOf, typeInfo, hq, hi, <- hn, hl, hst]
theorem qjb {x : V} {v : Value} {id : Id} {e : TypeId} {k : IntKind} {z : Bool} {l ns : List Int} {b : Nat} {cur : Array Value} (hB : Base E M w) (h : VrG P M w x v) (hx : x.t = .nums e k z l) (ho : x.own = some id) (hns : ns.length <= l.length)
  (hb : v.ownBlock = some b) (hh : w.heap[b]? = some (.cells cur e (0, 0))) :
  VrG P M (w.setRow b (ns.map (Value.int k) ++ cur.toList.drop ns.length).toArray) ⟨.nums e k z (ns ++ l.drop ns.length), x.g, x.sep, some id⟩ v := by
 obtain ⟨h1, h2, h3⟩ := h.own id ho
 rw [hx] at h3
 obtain ⟨q1, q2, q3⟩ := h3
 have hrd := h.rd
 rw [hx] at hrd
 have hlen : (ns ++ l.drop ns.length).length = l.length := by simp; omega
 rcases q1.2 with ⟨rfl, h0⟩ | ⟨b', cap, cur', rfl, _, hh', hnc, hcm, hcs, ht⟩
 ·simp [Value.ownBlock] at hb
 ·have hbb : b' = b := by simpa [Value.ownBlock] using hb
  subst hbb
  rw [hh] at hh'
  cases hh'
  have hzf : z = false := by cases hrd with | nums _ _ _ _ _ _ _ hn hz => rw [hz]; rfl
  refine qaH hB.okβ hB.dis q2 ⟨by simp, .inr ⟨b', cap, _, by rw [hlen], Nat.zero_le _, setRow_heap w b' _ _ _ _ hh, by rw [hlen]; exact hnc, hcm, by simp; omega, ?_⟩⟩ h1 q3 h2 (by rw [hzf]; simp)
  rw [hlen, Nat.mul_one, List.map_append, List.map_drop]
  rw [Nat.mul_one] at ht
  simp only [List.toList_toArray]
  rw [<- ht]
  apply List.ext_getElem?
  intro j
  simp only [List.getElem?_take, List.getElem?_append, List.getElem?_drop, List.length_map, List.getElem?_map]
  by_cases hj : j < l.length
  ·rw [if_pos hj]
   by_cases hj2 : j < ns.length
   ·rw [if_pos hj2, if_pos hj2]
   ·rw [if_neg hj2, if_neg hj2, if_pos (by omega)]
  ·rw [if_neg hj, if_neg (by omega), if_neg (by omega)]
theorem qgj (m n : Nat) : goInt (Nat.min m n) = .int .i64 (mnI (m : Int) (n : Int)) := by
 unfold mnI goInt
 congr 1
 have : Nat.min m n = min m n := rfl
 rw [this]
 split <;> omega
theorem qee {t : TypeId} (h : byteSl P t = true) : ∃ e, P.underlying t = some (.slice e) /\ szOf P e = 1 := by
 unfold byteSl at h
 split at h
 ·rename_i e hu
  exact ⟨e, hu, by simpa using h⟩
 ·simp at h
theorem qio {o : Oper} {args : Array Operand} {ts : Array TypeId} {px py : Operand} {y : V} (ho : o.op = .call { callee := .builtin .copy, args := args, argTypes := ts }) (ha : args.toList = [px, py]) (hR : Rel P E M S a w) (hts : 0 < ts.size)
  (hy : ev P S (ts.getD 1 0) py = .val y) {K : St -> Option R} {r : R} (h : (copySt P S o.dst (ts.getD 0 0) (ev P S (ts.getD 0 0) px) y).go C K = some r) : StepR P E M a w o K r := by
 intro next Q hn
 have hB := hR.inv.base
 have hxr := ev_r hR (ts.getD 0 0) px
 have hyr := ev_r hR (ts.getD 1 0) py
 rw [hy] at hyr
 have eargs : args = #[px, py] := by
  cases args
  simp at ha
  rw [ha]
 subst eargs
 have hts0 : ts[0]? = some (ts.getD 0 0) := by
  rw [Array.getD_eq_getD_getElem?, Array.getElem?_eq_getElem hts]
  rfl
 have fin : ∀ {v' w' S' z}, (Builtin.copy_ ts o.type #[a.eval px, a.eval py]).run P w = .ok (goInt v') w' -> Value.int .i64 z = goInt v' -> K (S'.put o.dst (.val (V.s (.int .i64 z)))) = some r -> Rel P E M S' a w' -> o.wp P a w next Q := fun {v' w' S' z} h1 h1' h2 h3 => by
  have hrun : (execOp a.eval o).run P w = .ok (.value (goInt v')) w' := by
   rw [qM ho]
   simp only [builtin, List.map_toArray, List.map_cons, List.map_nil]
   rw [Sem.run_bind, h1]
   rfl
  unfold Oper.wp
  rw [hrun, Oper.upon_value]
  refine hn _ _ _ _ h2 (by rfl) (h3.put o.dst _ _ ?_)
  rw [<- h1']
  exact (vr_s (A := fun _ => True) (.int _ _) rfl : Vr P M w' _ _)
 have hone : ∀ (k : IntKind) (l : List Int), ∀ v ∈ l.map (Value.int k), v.oneCell' = true := fun k l q hq => by obtain ⟨n, _, rfl⟩ := List.mem_map.1 hq; rfl
 have hsrc : ∀ {k : IntKind} {m : List Int} {n : Nat} {ad : Option Addr}, (∀ a, ad = some a -> ∀ j x, (m.map (Value.int k))[j]? = some x -> w.cell? (a.add j) = some x) -> ∀ a, ad = some a -> ∀ j x, ((m.take n).map (Value.int k))[j]? = some x -> w.cell? (a.add j) = some x := fun {k m n ad} h a ha j x hx => by
  refine h a ha j x ?_
  rw [List.map_take, List.getElem?_take] at hx
  split at hx
  ·exact hx
  ·simp at hx
 unfold copySt at h
 split at h
 ·rename_i q n' e k' z' m ex eyt
  rw [ex] at hxr
  have hyG := (hyr (by rw [eyt]; simp)).rd
  rw [eyt] at hyG
  obtain ⟨ad, c, hue, h0, hnews, _⟩ := qaK hyG
  split at h
  ·rename_i k n l hbox
   obtain ⟨c1, h1⟩ := qh h
   clear h
   simp only [Bool.and_eq_true, beq_iff_eq] at c1
   obtain ⟨⟨c2, c3⟩, c4⟩ := c1
   subst c3 c4
   obtain ⟨el, hund, hsz⟩ := qee c2
   obtain ⟨b, hb, hpv⟩ := hxr
   obtain ⟨b', hb', ty, hh, hl⟩ := hR.inv.boxes q _ hbox
   rw [hb] at hb'
   cases hb'
   have hrun := run_copy' (P := P) (ty := o.type) (dLen := n) (dCap := n) (cs := (m.take n).map (Value.int k)) hts0 hund hsz hh hue h0 (by simp [Nat.min_comm]) (hsrc hnews) (by simp; omega) (hone _ _)
   rw [<- hpv] at hrun
   refine fin (z := mnI (m.length : Int) (n : Int)) hrun ?_ (qj h1) (hR.write hb (qcX hbox) hh fun F T => ⟨ty, ?_, by simp; omega⟩)
   ·rw [<- qgj]
    simp [Nat.min_comm]
   ·rw [setRow_heap w b _ _ _ _ hh]
    congr 3
    simp only [List.length_map, List.map_append, List.map_drop, List.length_take]
    congr 1
    by_cases hmn : m.length <= n
    ·rw [Nat.min_eq_right hmn]
    ·rw [Nat.min_eq_left (by omega), List.drop_eq_nil_of_le (by simp; omega), List.drop_eq_nil_of_le (by simp; omega)]
  ·exact (qg h).elim
 ·rename_i x e k' z' m ex eyt
  rw [ex] at hxr
  have hyG := (hyr (by rw [eyt]; simp)).rd
  rw [eyt] at hyG
  obtain ⟨ad, c, hue, h0, hnews, _⟩ := qaK hyG
  split at h
  ·rename_i id e1 k z l hown hxt
   obtain ⟨c1, h0⟩ := qh h
   clear h
   obtain ⟨c5, h1⟩ := qv h0
   clear h0
   simp only [Bool.and_eq_true, beq_iff_eq, Bool.not_eq_true'] at c1 c5
   obtain ⟨⟨c2, c3⟩, c4⟩ := c1
   subst c3 c5
   obtain ⟨el, hund, hsz⟩ := qee c2
   have hG := hxr (by rw [hxt]; simp)
   have hrx := hG.rd
   rw [hxt] at hrx
   obtain ⟨adx, capx, hvx, _, _, hzx⟩ := qaK hrx
   cases adx with
   | none =>
    exfalso
    have hc := (hG.own id hown).2.2
    rw [hxt] at hc
    rcases hc.1.2 with ⟨h2, _⟩ | ⟨_, _, _, h2, _⟩
    ·have := hzx.2 h2; simp at this
    ·rw [hvx] at h2; simp at h2
   | some adx =>
    obtain ⟨b, cur, e2, rfl, hβ, hel, hh, hlen, hnc, hcm, hcs, hob, hszp⟩ := qam hG hown hvx
    rw [hxt] at hel
    simp only [elOf, Option.some.injEq] at hel
    subst hel
    have hs1 : szOf P e1 = 1 := by
     have := (hG.own id hown).2.2
     rw [hxt] at this
     exact this.2.1
    rw [hs1, Nat.mul_one] at hcs
    have hrun := run_copy' (P := P) (ty := o.type) (dLen := l.length) (dCap := capx) (cs := (m.take l.length).map (Value.int k)) hts0 hund hsz hh hue h0 (by simp [Nat.min_comm]) (hsrc hnews) (by simp; omega) (hone _ _)
    rw [<- hvx] at hrun
    have hhd := (hG.own id hown).2.1
    have el : m.take l.length ++ l.drop m.length = m.take l.length ++ l.drop (m.take l.length).length := by
     congr 1
     rw [List.length_take]
     by_cases hmn : m.length <= l.length
     ·rw [Nat.min_eq_right hmn]
     ·rw [Nat.min_eq_left (by omega), List.drop_eq_nil_of_le (by omega), List.drop_eq_nil_of_le (by omega)]
    refine fin (z := mnI (m.length : Int) (l.length : Int)) hrun ?_ (qj h1) (hR.rewritten hβ c4 (fun T => ?_) fun b' hb' => ?_)
    ·rw [<- qgj]
     simp [Nat.min_comm]
    ·rw [hhd, el, List.length_map]
     exact qjb hB hG hxt hown (by simp; omega) hob hh
    ·rw [hhd, hob] at hb'
     cases hb'
     exact ⟨cur, e1, hh, rfl⟩
  ·exact (qg h).elim
 ·exact (qg h).elim
end
end Go.Proofs.YthocpcfjfgnkgaaGreatRv
