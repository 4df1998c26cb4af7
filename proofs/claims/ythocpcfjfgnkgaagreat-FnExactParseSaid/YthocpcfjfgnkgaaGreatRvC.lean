/- The machine of values, part 3: what a function computes over whole values, and that the Go machine comes to it. No condition. -/
import Derived.Test.YthocpcfjfgnkgaaGreatRvB
import Derived.Orders
namespace Go.Proofs.YthocpcfjfgnkgaaGreatRv
open Go Go.RowKit
set_option linter.unusedVariables false
set_option linter.unusedSimpArgs false
section
variable {P : Program} {M M' : Mdl} {w w' : World} {S : St} {a : Act} {E : Env} {C : CallSem} {R : Type} {A B : Nat -> Prop}
structure TurnP (M M' : Mdl) (w w' : World) (p : Id -> Bool) : Prop where
 ok : M'.ok = M.ok
 β : ∀ r, p r = false -> M'.β r = M.β r
 hd : ∀ r, p r = false -> M'.hd r = M.hd r
 kept : ∀ r b, p r = true -> M'.β r b -> b < w.heap.size -> ∃ r', p r' = true /\ M.β r' b
 same : ∀ b, b < w.heap.size -> (∀ r, p r = true -> ¬ M.β r b) -> M.ok b -> w'.heap[b]? = w.heap[b]?
 size : w.heap.size <= w'.heap.size
def killP (p : Id -> Bool) (x : V) : V := cond (x.g.any p) V.bad x
theorem VrG.turnP {p : Id -> Bool} (T : TurnP M M' w w' p) (hB : Base E M w) {x : V} {v : Value} (h : VrG P M w x v) (hx : x.g.any p = false) : VrG P M' w' x v := by
 have hd : ∀ r ∈ x.g, p r = false := fun r hr => by
  have := List.any_eq_false.1 hx r hr
  simpa using this
 have hne : ∀ r r', r ∈ x.g -> p r' = true -> r ≠ r' := fun r r' hr hp e => by rw [<- e, hd r hr] at hp; simp at hp
 refine h.move (fun b hb => T.same b hb.1 (fun r hr hq => hb.2.1 r (fun hm => hne r r hm hr rfl) hq) hb.2.2) (fun b ⟨r, hr, hb⟩ => T.same b (hB.lt r b hb) (fun r' hr' hq => hne r r' hr hr' (hB.dis r r' b hb hq)) (hB.okβ r b hb))
  (fun b hb => ⟨Nat.lt_of_lt_of_le hb.1 T.size, fun r hr hq => ?_, by rw [T.ok]; exact hb.2.2⟩) (fun r hr => T.β r (hd r hr)) (fun r hr => T.hd r (hd r hr))
 cases hi : p r with
 | true =>
  obtain ⟨r', h1, h2⟩ := T.kept r b hi hq hb.1
  exact hb.2.1 r' (fun hm => hne r' r' hm h1 rfl) h2
 | false =>
  rw [T.β r hi] at hq
  exact hb.2.1 r hr hq
theorem Car.killP {p : Id -> Bool} (T : TurnP M M' w w' p) (hB : Base E M w) : Car P M M' w w' (killP p) := by
 refine ⟨fun x v h => ?_, fun x hx => ?_, fun x ad n cap h hx => ?_⟩
 ·unfold YthocpcfjfgnkgaaGreatRv.killP
  cases hm : x.g.any p with
  | true => exact fun h => (h rfl).elim
  | false => exact fun hne => (h hne).turnP T hB hm
 ·unfold YthocpcfjfgnkgaaGreatRv.killP at hx
  cases hm : x.g.any p with
  | true => rw [hm] at hx; exact (hx rfl).elim
  | false => rwa [hm] at hx
 ·unfold YthocpcfjfgnkgaaGreatRv.killP at hx ⊢
  cases hm : x.g.any p with
  | true => rw [hm] at hx; exact (hx rfl).elim
  | false => rfl
theorem qcV {f f' : V -> V} {p : V -> Bool} (h : ∀ x, p x = false -> f x = f' x) (l : List V) (hl : l.any p = false) : l.map f = l.map f' :=
 List.map_congr_left fun x hx => h x (by have := List.any_eq_false.1 hl x hx; simpa using this)
theorem qgO {f f' : V -> V} {p : V -> Bool} (h : ∀ x, p x = false -> f x = f' x) (t : TV) (ht : anyV p t = false) : mapTV f t = mapTV f' t := by
 cases t with
 | val x => simp only [mapTV, h x ht]
 | agg l => simp only [mapTV, qcV h l ht]
 | tup l =>
  simp only [mapTV]
  congr 1
  refine List.map_congr_left fun c hc => ?_
  have := List.any_eq_false.1 ht c hc
  rw [qcV h c.2 (by simpa using this)]
 | ep x i o => simp only [mapTV, h x ht]
 | pp x o => simp only [mapTV, h x ht]
 | pt y x i o =>
  simp only [anyV, Bool.or_eq_false_iff] at ht
  simp only [mapTV, h y ht.1]
 | _ => rfl
theorem qfH {f f' : V -> V} {p : Id -> Bool} (h : ∀ x : V, x.g.any p = false -> f x = f' x) (hS : S.has p = false) : S.map f = S.map f' := by
 unfold St.has St.any at hS
 simp only [Bool.or_eq_false_iff] at hS
 unfold St.map
 congr 1
 ·refine List.map_congr_left fun t ht => qgO (p := fun x => x.g.any p) h t ?_
  have := List.any_eq_false.1 hS.1 t ht
  simpa using this
 ·refine List.map_congr_left fun b hb => ?_
  cases b with
  | none => rfl
  | some b =>
   cases b with
   | arr k m l => rfl
   | cells l =>
    have := List.any_eq_false.1 hS.2 _ hb
    simp only [Option.map_some, mapBox]
    rw [qcV (p := fun x => x.g.any p) h l (by simpa using this)]
theorem qfK {t : TypeId} {x : Operand} {q o : Nat} (h : ev P S t x = .bp q o) : ev P S 0 x = .bp q o := by
 cases x with
 | tmp i => exact h
 | const v =>
  exfalso
  have h' : constTV P t v = .bp q o := h
  unfold constTV at h'
  split at h' <;> simp at h'
 | global g => simp [ev] at h
 | func f => simp [ev] at h
def qAt (P : Program) (S : St) (xs : List Operand) (i : Nat) : Option Nat := match (xs[i]?).map (ev P S 0) with | some (.bp q 0) => some q | _ => none
theorem qaJ (x : Operand) (xs : List Operand) (i : Nat) : qAt P S (x :: xs) (i + 1) = qAt P S xs i := by simp [qAt]
theorem qbA (x : Operand) (xs : List Operand) : qsOf P S (x :: xs) = (match qAt P S (x :: xs) 0 with | some q => [q] | none => []) ++ qsOf P S xs := by
 unfold qAt
 simp only [qsOf, List.getElem?_cons_zero, Option.map_some]
 split <;> rename_i h
 ·rw [h]; rfl
 ·cases he : ev P S 0 x <;> simp_all
theorem qZ : ∀ (xs : List Operand) (i q : Nat), qAt P S xs i = some q -> q ∈ qsOf P S xs
 | [], i, q, h => by simp [qAt] at h
 | x :: xs, 0, q, h => by rw [qbA, h]; simp
 | x :: xs, i + 1, q, h => by
  rw [qaJ] at h
  rw [qbA]
  exact List.mem_append_right _ (qZ xs i q h)
theorem qdB {l l' : List Nat} (h : nodupN (l ++ l') = true) : nodupN l' = true /\ ∀ q ∈ l, q ∉ l' := by
 induction l with
 | nil => exact ⟨h, fun q hq => by simp at hq⟩
 | cons q l ih =>
  simp only [List.cons_append, nodupN, Bool.and_eq_true, Bool.not_eq_true'] at h
  obtain ⟨h1, h2⟩ := ih h.2
  refine ⟨h1, fun q' hq' => ?_⟩
  rcases List.mem_cons.1 hq' with rfl | hq'
  ·intro hm
   have : (l ++ l').contains q' = true := by simp [hm]
   rw [this] at h
   simp at h
  ·exact h2 q' hq'
theorem qeV : ∀ (xs : List Operand) (i i' q : Nat), nodupN (qsOf P S xs) = true -> qAt P S xs i = some q -> qAt P S xs i' = some q -> i = i'
 | [], i, i', q, _, h, _ => by simp [qAt] at h
 | x :: xs, i, i', q, hn, h, h' => by
  rw [qbA] at hn
  obtain ⟨n1, n2⟩ := qdB hn
  cases i with
  | zero =>
   cases i' with
   | zero => rfl
   | succ i' =>
    rw [qaJ] at h'
    exact (n2 q (by rw [h]; simp) (qZ xs i' q h')).elim
  | succ i =>
   rw [qaJ] at h
   cases i' with
   | zero => exact (n2 q (by rw [h']; simp) (qZ xs i q h)).elim
   | succ i' =>
    rw [qaJ] at h'
    rw [qeV xs i i' q n1 h h']
theorem qbB {tv : TV} {l' : List (T × Bool)} {g : List Id} (h : argOf S tv = some (.box l', g)) : ∃ q l, tv = .bp q 0 /\ S.box q = some (.cells l) /\ l.any (·.t.isBad) = false /\ l' = l.map (fun x => (x.t, owned x)) /\ g = gs (l.filter fun x => !owned x) := by
 unfold argOf at h
 split at h
 ·split at h <;> simp at h
 ·split at h <;> simp at h
 ·rename_i q
  split at h
  ·rename_i l hl
   split at h
   ·simp at h
   ·rename_i hb
    simp at h
    exact ⟨q, l, rfl, hl, hb, h.1.symm, h.2.symm⟩
  ·simp at h
 ·simp at h
theorem qiP {q : Nat} {p : Arg × List Id} (h : argOf S (.bp q 0) = some p) : ∃ l, p.1 = .box l := by
 unfold argOf at h
 simp only at h
 split at h
 ·split at h
  ·simp at h
  ·simp at h; exact ⟨_, by rw [<- h]⟩
 ·simp at h
theorem qaZ {x : V} (h : owned x = true) : ∃ id, x.own = some id /\ x.sep = true /\ x.t.scalar = false := by
 unfold owned at h
 simp only [Bool.and_eq_true, Bool.not_eq_true'] at h
 obtain ⟨⟨h1, h2⟩, h3⟩ := h
 obtain ⟨id, hid⟩ := Option.isSome_iff_exists.1 h1
 exact ⟨id, hid, h2, h3⟩
theorem qfq {x : V} {v : Value} {id : Id} (h : VrG P M w x v) (ho : x.own = some id) : Hd P w (inside M x.g) v x.t := by
 obtain ⟨h1, h2, h3⟩ := h.own id ho
 cases hx : x.t with
 | nums e k z l =>
  rw [hx] at h3
  exact ⟨h3.1, h3.2.1, fun b hb => ⟨id, h1, h3.2.2 b hb⟩⟩
 | sl e z l =>
  rw [hx] at h3
  obtain ⟨cs, q1, q2, q3, _⟩ := h3
  exact ⟨⟨cs, q1⟩, q2, fun b hb => ⟨id, h1, q3 b hb⟩⟩
 | _ => rw [hx] at h3; exact h3.elim
theorem qfv {x : V} {v : Value} {g : List Id} {B : Nat -> Prop} (h : VrG P M w x v) (ho : owned x = true -> ∀ b, inside M x.g b -> B b) (hg : owned x = false -> ∀ r ∈ x.g, r ∈ g) : CellR P w (avoid M w g) B (x.t, owned x) v := by
 unfold CellR
 cases hx : owned x with
 | true =>
  obtain ⟨id, h1, h2, h3⟩ := qaZ hx
  have hs := h.sep h2
  simp only [h3, Bool.not_false, Bool.and_self]
  refine ⟨(h.rd.inside hs).keep (fun b _ => rfl) (ho hx), hs.mono (ho hx), ?_⟩
  have := qfq h h1
  cases hxt : x.t with
  | nums e k z l => rw [hxt] at this; exact ⟨this.1, this.2.1, fun b hb => ho hx b (this.2.2 b hb)⟩
  | sl e z l => rw [hxt] at this; exact ⟨this.1, this.2.1, fun b hb => ho hx b (this.2.2 b hb)⟩
  | _ => rw [hxt] at this; exact this.elim
 | false =>
  simp only [Bool.false_and]
  exact h.rd.keep (fun b _ => rfl) fun b hb => ⟨hb.1, fun r hr => hb.2.1 r fun hm => hr (hg hx r hm), hb.2.2⟩
def handOf (P : Program) (M : Mdl) (S : St) (xs : List Operand) : Hand :=
 ⟨fun i => ((qAt P S xs i).bind M.bx).getD 0, fun i j b => ∃ q l x, qAt P S xs i = some q /\ S.box q = some (.cells l) /\ l[j]? = some x /\ owned x = true /\ inside M x.g b⟩
theorem qeB {l : List V} (h : apart [] l = true) : l.Pairwise fun x y => ∀ r ∈ x.g, r ∉ y.g := by
 rw [List.pairwise_iff_getElem]
 intro i j hi hj hij r hr hr'
 have := (qbw h).2 i j hij hj r
 simp only [List.getD_eq_getElem?_getD, List.getElem?_eq_getElem hi, List.getElem?_eq_getElem hj, Option.getD_some] at this
 exact this hr hr'
theorem qgE {qs : List Nat} (h : apart [] (ownedOf S qs) = true) (hn : nodupN qs = true) {q q' : Nat} {l l' : List V} {j j' : Nat} {x x' : V} (hq : q ∈ qs) (hq' : q' ∈ qs) (hl : S.box q = some (.cells l)) (hl' : S.box q' = some (.cells l'))
  (hx : l[j]? = some x) (hx' : l'[j']? = some x') (ho : owned x = true) (ho' : owned x' = true) {r : Id} (hr : r ∈ x.g) (hr' : r ∈ x'.g) : q = q' /\ j = j' := by
 have hp := qeB h
 unfold ownedOf at hp
 rw [List.pairwise_flatMap] at hp
 obtain ⟨p1, p2⟩ := hp
 by_cases hqq : q = q'
 ·subst hqq
  rw [hl] at hl'
  cases hl'
  have := p1 q hq
  rw [hl] at this
  simp only at this
  rw [List.pairwise_filter, List.pairwise_iff_getElem] at this
  obtain ⟨i1, e1⟩ := List.getElem?_eq_some_iff.1 hx
  obtain ⟨i2, e2⟩ := List.getElem?_eq_some_iff.1 hx'
  refine ⟨rfl, ?_⟩
  rcases Nat.lt_trichotomy j j' with hlt | heq | hlt
  ·exact (this j j' i1 i2 hlt (by rw [e1]; exact ho) (by rw [e2]; exact ho') r (by rw [e1]; exact hr) (by rw [e2]; exact hr')).elim
  ·exact heq
  ·exact (this j' j i2 i1 hlt (by rw [e2]; exact ho') (by rw [e1]; exact ho) r (by rw [e2]; exact hr') (by rw [e1]; exact hr)).elim
 ·exfalso
  have hm : x ∈ (match S.box q with | some (.cells l) => l.filter owned | _ => []) := by
   rw [hl]
   exact List.mem_filter.2 ⟨List.mem_of_getElem? hx, ho⟩
  have hm' : x' ∈ (match S.box q' with | some (.cells l) => l.filter owned | _ => []) := by
   rw [hl']
   exact List.mem_filter.2 ⟨List.mem_of_getElem? hx', ho'⟩
  obtain ⟨i1, hi1, e1⟩ := List.mem_iff_getElem.1 hq
  obtain ⟨i2, hi2, e2⟩ := List.mem_iff_getElem.1 hq'
  rw [List.pairwise_iff_getElem] at p2
  rcases Nat.lt_trichotomy i1 i2 with hlt | heq | hlt
  ·exact p2 i1 i2 hi1 hi2 hlt x (by rw [e1]; exact hm) x' (by rw [e2]; exact hm') r hr hr'
  ·subst heq
   exact hqq (e1.symm.trans e2)
  ·exact p2 i2 i1 hi2 hi1 hlt x' (by rw [e2]; exact hm') x (by rw [e1]; exact hm) r hr' hr
theorem qdt {qs : List Nat} {q : Nat} {l : List V} {x : V} {j : Nat} (hq : q ∈ qs) (hl : S.box q = some (.cells l)) (hx : l[j]? = some x) (ho : owned x = true) : x ∈ ownedOf S qs := by
 unfold ownedOf
 refine List.mem_flatMap.2 ⟨q, hq, ?_⟩
 rw [hl]
 exact List.mem_filter.2 ⟨List.mem_of_getElem? hx, ho⟩
structure HandOk (P : Program) (S : St) (xs : List Operand) (g : List Id) : Prop where
 nd : nodupN (qsOf P S xs) = true
 ap : apart [] (ownedOf S (qsOf P S xs)) = true
 nb : (gs (ownedOf S (qsOf P S xs))).all notB = true
 off : meets g (gs (ownedOf S (qsOf P S xs)) ++ (qsOf P S xs).map .b) = false
theorem qeG (hR : Rel P E M S a w) {xs : List Operand} {i q : Nat} {l : List V} (hq : qAt P S xs i = some q) (hl : S.box q = some (.cells l)) : M.bx q = some ((handOf P M S xs).bk i) /\ ∃ cs ty, w.heap[(handOf P M S xs).bk i]? = some (.cells cs ty (0, 0)) /\ VrL P M w l cs := by
 obtain ⟨b, h1, h2⟩ := hR.inv.boxes q _ hl
 have e : (handOf P M S xs).bk i = b := by simp [handOf, hq, h1]
 rw [e]
 obtain ⟨cs, ty, h3, h4⟩ := h2
 exact ⟨h1, cs, ty, h3, h4⟩
theorem qih (hR : Rel P E M S a w) {xs : List Operand} {ts : List TypeId} {as : List (Arg × List Id)} {caps : List T} {cg g : List Id} {cvs : Array Value} (hOk : HandOk P S xs g) (has : argsOf P S ts xs = some as) (hg1 : ∀ p ∈ as, ∀ r ∈ p.2, r ∈ g) (hg2 : ∀ r ∈ cg, r ∈ g)
  (hcn : cvs.size = caps.length) (hcr : ∀ i, i < caps.length -> Rd P w (avoid M w cg) (cvs.getD i undef) (caps.getD i .bad)) :
  (∀ i, isBox (as.map (·.1) ++ caps.map .v) i ↔ ∃ q, qAt P S xs i = some q) /\ ArgsR P w (avoid M w g) (handOf P M S xs) (as.map (·.1) ++ caps.map .v) ((xs.map a.eval).toArray ++ cvs) := by
 obtain ⟨hl, hget⟩ := qbi _ _ _ has
 have hB := hR.inv.base
 have hla : (as.map (·.1)).length = xs.length := by simpa using hl
 -- the argument at a place
 have hlow : ∀ i p, as[i]? = some p -> ∃ x, xs[i]? = some x /\ ∃ t, argOf S (ev P S t x) = some p := fun i p h => by
  obtain ⟨x, t, h1, h2⟩ := hget i p h
  exact ⟨x, h1, t, h2⟩
 have hbox : ∀ i, isBox (as.map (·.1) ++ caps.map .v) i ↔ ∃ q, qAt P S xs i = some q := fun i => by
  constructor
  ·rintro ⟨l, h⟩
   rw [List.getElem?_append] at h
   split at h
   ·rw [List.getElem?_map] at h
    cases hp : as[i]? with
    | none => rw [hp] at h; simp at h
    | some p =>
     rw [hp] at h
     simp at h
     obtain ⟨x, h1, t, h2⟩ := hlow i p hp
     obtain ⟨p1, p2⟩ := p
     simp only at h
     subst h
     obtain ⟨q, l, h3, _⟩ := qbB h2
     refine ⟨q, ?_⟩
     simp [qAt, h1, qfK h3]
   ·rw [List.getElem?_map] at h
    cases hp : caps[i - (as.map (·.1)).length]? with
    | none => rw [hp] at h; simp at h
    | some p => rw [hp] at h; simp at h
  ·rintro ⟨q, h⟩
   unfold qAt at h
   cases hx : xs[i]? with
   | none => simp [hx] at h
   | some x =>
    rw [hx] at h
    have hix : i < xs.length := (List.getElem?_eq_some_iff.1 hx).1
    have hia : i < as.length := by omega
    obtain ⟨x', h1, t, h2⟩ := hlow i as[i] (List.getElem?_eq_getElem hia)
    rw [hx] at h1
    cases h1
    simp only [Option.map_some] at h
    split at h
    ·rename_i q' he
     simp only [Option.some.injEq] at he
     have het : ev P S t x = .bp q' 0 := by
      cases x with
      | tmp k => exact he
      | const v =>
       exfalso
       have h' : constTV P 0 v = .bp q' 0 := he
       unfold constTV at h'
       split at h' <;> simp at h'
      | global gg => simp [ev] at he
      | func f => simp [ev] at he
     rw [het] at h2
     obtain ⟨l, h3⟩ := qiP h2
     refine ⟨l, ?_⟩
     rw [List.getElem?_append_left (by simpa using hia), List.getElem?_map, List.getElem?_eq_getElem hia]
     simp [h3]
    ·simp at h
 have hbox2 : ∀ i q, qAt P S xs i = some q -> ∃ l, S.box q = some (.cells l) := fun i q h => by
  obtain ⟨l', hl'⟩ := (hbox i).2 ⟨q, h⟩
  rw [List.getElem?_append] at hl'
  split at hl'
  ·rw [List.getElem?_map] at hl'
   cases hp : as[i]? with
   | none => rw [hp] at hl'; simp at hl'
   | some p =>
    rw [hp] at hl'
    simp at hl'
    obtain ⟨x, h1, t, h2⟩ := hlow i p hp
    obtain ⟨p1, p2⟩ := p
    simp only at hl'
    subst hl'
    obtain ⟨q', l, h3, h4, _⟩ := qbB h2
    have : qAt P S xs i = some q' := by simp [qAt, h1, qfK h3]
    rw [h] at this
    cases this
    exact ⟨l, h4⟩
  ·rw [List.getElem?_map] at hl'
   cases hp : caps[i - (as.map (·.1)).length]? with
   | none => rw [hp] at hl'; simp at hl'
   | some p => rw [hp] at hl'; simp at hl'
 have hbkβ : ∀ i q, qAt P S xs i = some q -> M.β (.b q) ((handOf P M S xs).bk i) := fun i q h => by
  obtain ⟨l, hl⟩ := hbox2 i q h
  exact hR.inv.bxβ q _ (qeG hR h hl).1
 have hcsβ : ∀ i j b, (handOf P M S xs).cs i j b -> ∃ r ∈ gs (ownedOf S (qsOf P S xs)), M.β r b := fun i j b ⟨q, l, x, h1, h2, h3, h4, r, hr, hβ⟩ => ⟨r, qac (qdt (qZ _ _ _ h1) h2 h3 h4) hr, hβ⟩
 have hoff := qU hOk.off
 refine ⟨hbox, by simp [hl, hcn], fun i y hy => ?_, fun b hb => ?_, hR.inv.gl.1, fun b hb => (hR.inv.gl.2 b hb).2 _, fun b hb => ⟨hb.1, fun hh => ?_⟩, fun i i' hi hi' e => ?_, fun i i' j j' b hi hi' hc hc' => ?_, fun i i' j hi hi' hc => ?_⟩
 ·rw [List.getElem?_append] at hy
  split at hy
  ·rename_i hlt
   rw [List.getElem?_map] at hy
   cases hp : as[i]? with
   | none => rw [hp] at hy; simp at hy
   | some p =>
    rw [hp] at hy
    simp at hy
    subst hy
    obtain ⟨x, h3, t, h4⟩ := hlow i p hp
    have e5 : ((xs.map a.eval).toArray ++ cvs).getD i undef = a.eval x := by
     rw [Array.getD_eq_getD_getElem?, Array.getElem?_append_left (by simp; omega)]
     simp [h3]
    rw [e5]
    obtain ⟨p1, p2⟩ := p
    cases p1 with
    | v y =>
     exact (qjx hR h4).keep (fun b hb => rfl) fun b hb => ⟨hb.1, fun r hr => hb.2.1 r fun hm => hr (hg1 _ (List.mem_of_getElem? hp) r hm), hb.2.2⟩
    | own y =>
     exfalso
     unfold argOf at h4
     split at h4
     ·split at h4 <;> simp at h4
     ·split at h4 <;> simp at h4
     ·split at h4
      ·split at h4 <;> simp at h4
      ·simp at h4
     ·simp at h4
    | box l' =>
     obtain ⟨q, l, q1, q2, q3, q4, q5⟩ := qbB h4
     have hq : qAt P S xs i = some q := by simp [qAt, h3, qfK q1]
     obtain ⟨hbx, cs, ty, hh, hcs⟩ := qeG hR hq q2
     have hv := ev_r hR t x
     rw [q1] at hv
     obtain ⟨b, hb1, hb2⟩ := hv
     rw [hbx] at hb1
     cases hb1
     refine ⟨hb2, cs, ty, hh, by rw [q4]; simp [hcs.1], fun j hj => ?_⟩
     rw [q4, List.length_map] at hj
     have e6 : l'.getD j (.bad, false) = ((l.getD j V.bad).t, owned (l.getD j V.bad)) := by
      rw [q4]
      simp [List.getD_eq_getElem?_getD, hj]
     rw [e6]
     have hjx : l[j]? = some (l.getD j V.bad) := by simp [List.getD_eq_getElem?_getD, hj]
     refine qfv (hcs.2 j hj (qbZ q3 hj)) (fun ho b hb => ⟨q, l, l.getD j V.bad, hq, q2, hjx, ho, hb⟩) fun ho r hr => hg1 _ (List.mem_of_getElem? hp) r ?_
     rw [q5]
     exact qac (List.mem_filter.2 ⟨List.mem_of_getElem? hjx, by simp only [ho, Bool.not_false]⟩) hr
  ·rename_i hge
   rw [List.getElem?_map] at hy
   cases hp : caps[i - (as.map (·.1)).length]? with
   | none => rw [hp] at hy; simp at hy
   | some p =>
    rw [hp] at hy
    simp at hy
    subst hy
    have hi2 : i - (as.map (·.1)).length < caps.length := (List.getElem?_eq_some_iff.1 hp).1
    have := hcr _ hi2
    have e6 : caps.getD (i - (as.map (·.1)).length) .bad = p := by rw [List.getD_eq_getElem?_getD, hp]; rfl
    rw [e6] at this
    have e5 : ((xs.map a.eval).toArray ++ cvs).getD i undef = cvs.getD (i - (as.map (·.1)).length) undef := by
     rw [Array.getD_eq_getD_getElem?, Array.getElem?_append_right (by simp; omega), Array.getD_eq_getD_getElem?]
     simp [hla]
    rw [e5]
    exact this.keep (fun b hb => rfl) fun b hb => ⟨hb.1, fun r hr => hb.2.1 r fun hm => hr (hg2 r hm), hb.2.2⟩
 ·obtain ⟨i, hi, hb⟩ := hb
  obtain ⟨q, hq⟩ := (hbox i).1 hi
  rcases hb with rfl | ⟨j, hj⟩
  ·exact hB.lt _ _ (hbkβ i q hq)
  ·obtain ⟨r, _, hβ⟩ := hcsβ i j b hj
   exact hB.lt _ _ hβ
 ·obtain ⟨i, hi, hb'⟩ := hh
  obtain ⟨q, hq⟩ := (hbox i).1 hi
  rcases hb' with rfl | ⟨j, hj⟩
  ·exact hb.2.1 (.b q) (fun hm => hoff _ hm (List.mem_append_right _ (List.mem_map.2 ⟨q, qZ _ _ _ hq, rfl⟩))) (hbkβ i q hq)
  ·obtain ⟨r, hr, hβ⟩ := hcsβ i j b hj
   exact hb.2.1 r (fun hm => hoff _ hm (List.mem_append_left _ hr)) hβ
 ·obtain ⟨q, hq⟩ := (hbox i).1 hi
  obtain ⟨q', hq'⟩ := (hbox i').1 hi'
  have h1 := hbkβ i q hq
  have h2 := hbkβ i' q' hq'
  rw [<- e] at h2
  have := hB.dis _ _ _ h1 h2
  simp at this
  subst this
  exact qeV xs i i' q hOk.nd hq hq'
 ·obtain ⟨q, l, x, h1, h2, h3, h4, r, hr, hβ⟩ := hc
  obtain ⟨q', l', x', h1', h2', h3', h4', r', hr', hβ'⟩ := hc'
  have := hB.dis _ _ _ hβ hβ'
  subst this
  obtain ⟨e1, e2⟩ := qgE hOk.ap hOk.nd (qZ _ _ _ h1) (qZ _ _ _ h1') h2 h2' h3 h3' h4 h4' hr hr'
  subst e1
  exact ⟨qeV xs i i' q hOk.nd h1 h1', e2⟩
 ·obtain ⟨q', hq'⟩ := (hbox i').1 hi'
  obtain ⟨r, hr, hβ⟩ := hcsβ i j _ hc
  have := hB.dis _ _ _ hβ (hbkβ i' q' hq')
  have hn := List.all_eq_true.1 hOk.nb r hr
  rw [this] at hn
  simp [notB] at hn
def Mdl.called (M : Mdl) (d : Nat) (ids : List Id) (G : Nat -> Nat -> Prop) (hv : Nat -> Value) : Mdl :=
 ⟨fun r b => (ofSite d r = true /\ ∃ j, r = .n d j /\ G j b) ∨ (ofSite d r = false /\ r ∉ ids /\ M.β r b), M.bx, fun id => match id with | .n d' j => if d' = d then hv j else M.hd id | id => M.hd id, M.ok⟩
theorem qaw {d : Nat} {ids : List Id} {G : Nat -> Nat -> Prop} {hv : Nat -> Value} (j : Nat) : (M.called d ids G hv).β (.n d j) = G j := by
 funext b
 simp only [Mdl.called, ofSite, beq_self_eq_true, true_and, Bool.true_eq_false, false_and, or_false, Id.n.injEq, eq_iff_iff]
 exact ⟨fun ⟨j', h1, h2⟩ => by rw [h1]; exact h2, fun h => ⟨j, rfl, h⟩⟩
theorem qbl {d : Nat} {ids : List Id} {G : Nat -> Nat -> Prop} {hv : Nat -> Value} {r : Id} (h : ofSite d r = false) {b : Nat} : (M.called d ids G hv).β r b ↔ r ∉ ids /\ M.β r b := by
 simp [Mdl.called, h]
theorem qiv {d : Nat} {ids : List Id} {G : Nat -> Nat -> Prop} {hv : Nat -> Value} {r : Id} (h : ofSite d r = false) : (M.called d ids G hv).hd r = M.hd r := by
 cases r with
 | n d' j => simp only [ofSite, beq_eq_false_iff_ne, ne_eq] at h; show (if d' = d then hv j else M.hd (.n d' j)) = _; rw [if_neg (Ne.symm h)]
 | _ => rfl
theorem qeX {d : Nat} {ids : List Id} {G : Nat -> Nat -> Prop} {hv : Nat -> Value} (j : Nat) : (M.called d ids G hv).hd (.n d j) = hv j := by simp [Mdl.called, hd_n]
def pCall (d : Nat) (hg : List Id) (r : Id) : Bool := hg.contains r || ofSite d r
structure Came (M : Mdl) (w w' : World) (Hd : Nat -> Prop) (bk : Nat -> Prop) (ids : List Id) (qs : List Nat) (G : Nat -> Nat -> Prop) : Prop where
 os : w'.os = w.os
 tape : w'.tape = w.tape
 output : w'.output = w.output
 size : w.heap.size <= w'.heap.size
 block : ∀ b, b < w.heap.size -> ¬ Hd b -> w'.heap[b]? = w.heap[b]?
 g : ∀ j b, G j b -> (w.heap.size <= b ∨ Hd b) /\ b < w'.heap.size /\ ¬ bk b
 dis : ∀ i j b, G i b -> G j b -> i = j
 hd : ∀ b, Hd b -> (bk b /\ ∃ q ∈ qs, M.β (.b q) b) ∨ ∃ r ∈ ids, M.β r b
 nb : ∀ r ∈ ids, notB r = true
variable {Hd' bk : Nat -> Prop} {ids : List Id} {qs : List Nat} {G : Nat -> Nat -> Prop} {d : Nat} {hv : Nat -> Value}
theorem Came.gcase (K : Came M w w' Hd' bk ids qs G) {j b : Nat} (h : G j b) : w.heap.size <= b ∨ ∃ r ∈ ids, M.β r b := by
 obtain ⟨h1, _, h3⟩ := K.g j b h
 rcases h1 with h1 | h1
 ·exact .inl h1
 ·rcases K.hd b h1 with ⟨h2, _⟩ | h2
  ·exact (h3 h2).elim
  ·exact .inr h2
theorem Came.turn (K : Came M w w' Hd' bk ids qs G) : TurnP M (M.called d ids G hv) w w' (pCall d (ids ++ qs.map .b)) := by
 have hp : ∀ {r}, pCall d (ids ++ qs.map .b) r = false -> r ∉ ids /\ ofSite d r = false := fun {r} h => by
  unfold pCall at h
  simp only [Bool.or_eq_false_iff] at h
  refine ⟨fun hm => ?_, h.2⟩
  have : (ids ++ qs.map Id.b).contains r = true := by simp [hm]
  rw [this] at h
  simp at h
 have hq : ∀ {r}, r ∈ ids ++ qs.map .b -> pCall d (ids ++ qs.map .b) r = true := fun {r} h => by
  unfold pCall
  have : (ids ++ qs.map Id.b).contains r = true := by simpa using h
  rw [this]
  rfl
 refine ⟨rfl, fun r hr => ?_, fun r hr => qiv (hp hr).2, fun r b hr hb hlt => ?_, fun b hb hr _ => K.block b hb fun hh => ?_, K.size⟩
 ·funext b
  rw [eq_iff_iff, qbl (hp hr).2]
  exact ⟨fun h => h.2, fun h => ⟨(hp hr).1, h⟩⟩
 ·cases hs : ofSite d r with
  | true =>
   obtain ⟨j, rfl⟩ := qK hs
   rw [qaw] at hb
   rcases K.gcase hb with h | ⟨r', h1, h2⟩
   ·omega
   ·exact ⟨r', hq (List.mem_append_left _ h1), h2⟩
  | false =>
   rw [qbl hs] at hb
   exact ⟨r, hr, hb.2⟩
 ·rcases K.hd b hh with ⟨_, q, h1, h2⟩ | ⟨r, h1, h2⟩
  ·exact hr _ (hq (List.mem_append_right _ (List.mem_map.2 ⟨q, h1, rfl⟩))) h2
  ·exact hr r (hq (List.mem_append_left _ h1)) h2
theorem Came.base (K : Came M w w' Hd' bk ids qs G) (hB : Base E M w) : Base E (M.called d ids G hv) w' := by
 have cs : ∀ r b, (M.called d ids G hv).β r b -> (∃ j, r = .n d j /\ G j b) ∨ (ofSite d r = false /\ r ∉ ids /\ M.β r b) := fun r b h => by
  cases hs : ofSite d r with
  | true =>
   obtain ⟨j, rfl⟩ := qK hs
   rw [qaw] at h
   exact .inl ⟨j, rfl, h⟩
  | false =>
   rw [qbl hs] at h
   exact .inr ⟨rfl, h⟩
 have hβ : ∀ b, Hd' b -> ∃ r, M.β r b := fun b h => by
  rcases K.hd b h with ⟨_, q, _, h2⟩ | ⟨r, _, h2⟩
  ·exact ⟨_, h2⟩
  ·exact ⟨_, h2⟩
 refine ⟨K.os.trans hB.os, K.tape.trans hB.tape, K.output.trans hB.output, Nat.le_trans hB.size K.size, fun b hb hu => ?_, fun r s b hr hs => ?_, fun r b hr => ?_, fun r b hr => ?_, fun q b hq => ?_, fun r b hr => ?_, hB.okN, hB.pin⟩
 ·rw [K.block b (Nat.lt_of_lt_of_le hb hB.size) fun hh => ?_]
  ·exact hB.old b hb hu
  ·obtain ⟨r, hr⟩ := hβ b hh
   rcases hB.new r b hr with h | h
   ·omega
   ·exact hu h
 ·rcases cs r b hr with ⟨i, rfl, p1⟩ | ⟨_, n1, p1⟩ <;> rcases cs s b hs with ⟨j, rfl, p2⟩ | ⟨_, n2, p2⟩
  ·rw [K.dis i j b p1 p2]
  ·rcases K.gcase p1 with h | ⟨r', h1, h2⟩
   ·have := hB.lt s b p2; omega
   ·rw [hB.dis _ _ _ p2 h2] at n2
    exact (n2 h1).elim
  ·rcases K.gcase p2 with h | ⟨r', h1, h2⟩
   ·have := hB.lt r b p1; omega
   ·rw [hB.dis _ _ _ p1 h2] at n1
    exact (n1 h1).elim
  ·exact hB.dis _ _ _ p1 p2
 ·rcases cs r b hr with ⟨i, rfl, p1⟩ | ⟨_, n1, p1⟩
  ·exact (K.g i b p1).2.1
  ·exact Nat.lt_of_lt_of_le (hB.lt _ _ p1) K.size
 ·rcases cs r b hr with ⟨i, rfl, p1⟩ | ⟨_, n1, p1⟩
  ·rcases K.gcase p1 with h | ⟨r', h1, h2⟩
   ·exact .inl (Nat.le_trans hB.size h)
   ·exact hB.new _ _ h2
  ·exact hB.new _ _ p1
 ·rw [qbl (by rfl)]
  refine ⟨fun hm => ?_, hB.bxβ q b hq⟩
  have := K.nb _ hm
  simp [notB] at this
 ·rcases cs r b hr with ⟨i, rfl, p1⟩ | ⟨_, n1, p1⟩
  ·rcases K.gcase p1 with h | ⟨r', h1, h2⟩
   ·exact hB.okN.1 b (Nat.le_trans hB.size h)
   ·exact hB.okβ _ _ h2
  ·exact hB.okβ _ _ p1
theorem Came.avoid (K : Came M w w' Hd' bk ids qs G) (hB : Base E M w) {g : List Id} (b : Nat) (h : (YthocpcfjfgnkgaaGreatRv.avoid M w g b ∨ w.heap.size <= b ∨ Hd' b) /\ b < w'.heap.size /\ (∀ j, ¬ G j b) /\ ¬ bk b) : YthocpcfjfgnkgaaGreatRv.avoid (M.called d ids G hv) w' g b := by
 obtain ⟨h1, h2, h3, h4⟩ := h
 have hids : Hd' b -> ∃ r ∈ ids, M.β r b := fun hh => by
  rcases K.hd b hh with ⟨h5, _⟩ | h5
  ·exact (h4 h5).elim
  ·exact h5
 refine ⟨h2, fun r hr hβ => ?_, ?_⟩
 ·cases hs : ofSite d r with
  | true =>
   obtain ⟨j, rfl⟩ := qK hs
   rw [qaw] at hβ
   exact h3 j hβ
  | false =>
   rw [qbl hs] at hβ
   rcases h1 with h1 | h1 | h1
   ·exact h1.2.1 r hr hβ.2
   ·have := hB.lt _ _ hβ.2; omega
   ·obtain ⟨r', h5, h6⟩ := hids h1
    rw [hB.dis _ _ _ hβ.2 h6] at hβ
    exact hβ.1 h5
 ·rcases h1 with h1 | h1 | h1
  ·exact h1.2.2
  ·exact hB.okN.1 b (Nat.le_trans hB.size h1)
  ·obtain ⟨r', _, h6⟩ := hids h1
   exact hB.okβ _ _ h6
theorem Came.rel (K : Came M w w' Hd' bk ids qs G) (hR : Rel P E M S a w) (hS : S.has (ofSite d) = false) :
  (∀ i, TVr P (M.called d ids G hv) w' ((S.map (kill (ids ++ qs.map .b))).tmp i) (a.tmps.getD i undef)) /\ ∀ q x, q ∉ qs -> (S.map (kill (ids ++ qs.map .b))).box q = some x -> ∃ b, M.bx q = some b /\ BoxR P (M.called d ids G hv) w' b x := by
 have hB := hR.inv.base
 have T := K.turn (d := d) (hv := hv)
 have e : S.map (kill (ids ++ qs.map .b)) = S.map (killP (pCall d (ids ++ qs.map .b))) := by
  refine qfH (p := ofSite d) (fun x hx => ?_) hS
  have : meets x.g (ids ++ qs.map .b) = x.g.any (pCall d (ids ++ qs.map .b)) := by
   unfold meets
   rw [Bool.eq_iff_iff, List.any_eq_true, List.any_eq_true]
   constructor
   ·rintro ⟨r, h1, h2⟩
    exact ⟨r, h1, by unfold pCall; rw [h2]; rfl⟩
   ·rintro ⟨r, h1, h2⟩
    refine ⟨r, h1, ?_⟩
    unfold pCall at h2
    have := List.any_eq_false.1 hx r h1
    simp only [Bool.or_eq_true] at h2
    rcases h2 with h2 | h2
    ·exact h2
    ·exact (this h2).elim
  unfold kill killP
  rw [this]
 rw [e]
 have F := Car.killP (P := P) T hB
 refine ⟨fun i => by rw [qD]; exact (hR.tmps i).car F fun q b _ h => h, fun q x hq hx => ?_⟩
 rw [qC] at hx
 cases hb : S.box q with
 | none => simp [hb] at hx
 | some y =>
  simp [hb] at hx
  subst hx
  obtain ⟨b, h1, h2⟩ := hR.inv.boxes q y hb
  have hβ := hR.inv.bxβ q b h1
  refine ⟨b, h1, h2.car F (K.block b (hR.inv.lt _ _ hβ) fun hh => ?_)⟩
  rcases K.hd b hh with ⟨_, q', h3, h4⟩ | ⟨r, h3, h4⟩
  ·have := hB.dis _ _ _ hβ h4
   simp at this
   exact hq (this ▸ h3)
  ·have := hB.dis _ _ _ hβ h4
   have hn := K.nb r h3
   rw [<- this] at hn
   simp [notB] at hn
end
section
variable {P : Program} {M M' : Mdl} {w w' : World} {S : St} {a : Act} {E : Env} {C : CallSem} {R : Type} {A A' : Nat -> Prop}
def outV (w' : World) (H : Hand) : Nat -> List Arg -> List Value
 | _, [] => []
 | i, .box _ :: as => (match w'.heap[H.bk i]? with | some (.cells cs _ _) => cs.toList | _ => []) ++ outV w' H (i + 1) as
 | i, _ :: as => outV w' H (i + 1) as
theorem qfP {H : Hand} {G : Nat -> Nat -> Prop} : ∀ (rest : List Arg) (k i : Nat) (outs : List (List (T × Bool))), (∀ x ∈ rest, ∃ t, x = .v t) -> OutsR P w' A' H G k i rest outs -> outs = []
 | [], _, _, [], _, _ => rfl
 | [], _, _, _ :: _, _, h => h.elim
 | x :: rest, k, i, outs, hr, h => by
  obtain ⟨t, rfl⟩ := hr x (by simp)
  unfold OutsR at h
  exact qfP rest k (i + 1) outs (fun y hy => hr y (by simp [hy])) h
theorem qbQ {xs0 : List Operand} {H : Hand} {G : Nat -> Nat -> Prop} {hv : Nat -> Value} {d : Nat} {g : List Id} (hnew : ∀ j, M'.β (.n d j) = G j) (hhd : ∀ j, M'.hd (.n d j) = hv j) (hokβ : ∀ r b, M'.β r b -> M'.ok b)
  (hdis : ∀ r s b, M'.β r b -> M'.β s b -> r = s) (hlt : ∀ j b, G j b -> b < w'.heap.size) (hA : ∀ b, A' b -> avoid M' w' g b) (hbk : ∀ i q, qAt P S xs0 i = some q -> M'.bx q = some (H.bk i)) :
  ∀ (xs : List Operand) (as rest : List Arg) (k i : Nat) (outs : List (List (T × Bool))) (S1 S' : St), as.length = xs.length -> (∀ j, qAt P S xs j = qAt P S xs0 (i + j)) -> (∀ j, isBox as j ↔ ∃ q, qAt P S xs j = some q) -> (∀ x ∈ rest, ∃ t, x = .v t) -> (∀ x ∈ as, ∀ t, x ≠ .own t) -> nodupN (qsOf P S xs) = true ->
   OutsR P w' A' H G k i (as ++ rest) outs -> backBoxes S1 d g k (qsOf P S xs) outs = some S' -> (∀ j, j < (outV w' H i as).length -> hv (k + j) = (outV w' H i as).getD j undef) ->
   S'.tmps = S1.tmps /\ S'.boxes.length = S1.boxes.length /\ (∀ q, q ∉ qsOf P S xs -> S'.box q = S1.box q) /\ ∀ q ∈ qsOf P S xs, ∀ x, S'.box q = some x -> ∃ b, M'.bx q = some b /\ BoxR P M' w' b x
 | [], [], rest, k, i, outs, S1, S', _, _, _, hrest, _, _, ho, hb, _ => by
  simp only [qsOf] at hb ⊢
  have : outs = [] := qfP rest k i outs hrest (by simpa using ho)
  subst this
  simp only [backBoxes, Option.some.injEq] at hb
  subst hb
  exact ⟨rfl, rfl, fun q _ => rfl, fun q hq => by simp at hq⟩
 | [], _ :: _, rest, k, i, outs, S1, S', hl, _, _, _, _, _, _, _, _ => by simp at hl
 | _ :: _, [], rest, k, i, outs, S1, S', hl, _, _, _, _, _, _, _, _ => by simp at hl
 | x :: xs, a1 :: as, rest, k, i, outs, S1, S', hl, hq, hbx, hrest, hown, hn, ho, hb, hhv => by
  have hq' : ∀ j, qAt P S xs j = qAt P S xs0 (i + 1 + j) := fun j => by
   have := hq (j + 1)
   rw [qaJ] at this
   rw [this]
   congr 1
   omega
  have hbx' : ∀ j, isBox as j ↔ ∃ q, qAt P S xs j = some q := fun j => by
   have := hbx (j + 1)
   rw [qaJ] at this
   rw [<- this]
   simp [isBox]
  have hl' : as.length = xs.length := by simpa using hl
  have hown' : ∀ x ∈ as, ∀ t, x ≠ .own t := fun y hy => hown y (by simp [hy])
  rw [qbA] at hn hb ⊢
  obtain ⟨n1, n2⟩ := qdB hn
  cases a1 with
  | own t => exact (hown _ (by simp) t rfl).elim
  | v t =>
   have hnone : qAt P S (x :: xs) 0 = none := by
    cases h : qAt P S (x :: xs) 0 with
    | none => rfl
    | some q =>
     obtain ⟨l, hl⟩ := (hbx 0).2 ⟨q, h⟩
     simp at hl
   rw [hnone] at hb ⊢
   simp only [List.nil_append] at hb ⊢
   have h2 : OutsR P w' A' H G k (i + 1) (as ++ rest) outs := by
    simp only [List.cons_append] at ho
    unfold OutsR at ho
    exact ho
   exact qbQ hnew hhd hokβ hdis hlt hA hbk xs as rest k (i + 1) outs S1 S' hl' hq' hbx' hrest hown' n1 h2 hb (fun j hj => by simpa [outV] using hhv j (by simpa [outV] using hj))
  | box l0 =>
   obtain ⟨q, hqq⟩ := (hbx 0).1 ⟨l0, rfl⟩
   rw [hqq] at hb n2 ⊢
   simp only [List.singleton_append] at hb ⊢
   cases outs with
   | nil => simp only [List.cons_append] at ho; unfold OutsR at ho; exact ho.elim
   | cons o os =>
    simp only [List.cons_append] at ho
    unfold OutsR at ho
    obtain ⟨o1, ⟨cs, ty, o2, o3, o4⟩, o5⟩ := ho
    simp only [backBoxes] at hb
    split at hb
    ·rename_i l hbox
     split at hb
     ·rename_i hlen
      have hvv : ∀ j, j < o.length -> hv (k + j) = cs.getD j undef := fun j hj => by
       have := hhv j (by simp only [outV, o2]; simp; omega)
       rw [this]
       simp only [outV, o2, List.getD_eq_getElem?_getD]
       rw [List.getElem?_append_left (by simp; omega)]
       simp [Array.getD_eq_getD_getElem?]
      obtain ⟨r1, r2, r3, r4⟩ := qbQ hnew hhd hokβ hdis hlt hA hbk xs as rest (k + o.length) (i + 1) os _ S' hl' hq' hbx' hrest hown' n1 o5 hb (fun j hj => by
       have := hhv (o.length + j) (by simp only [outV, o2]; simp; omega)
       rw [Nat.add_assoc, this]
       simp only [outV, o2, List.getD_eq_getElem?_getD]
       rw [List.getElem?_append_right (by simp; omega)]
       simp [o3])
      have hqn : q ∉ qsOf P S xs := n2 q (by simp)
      refine ⟨r1, by rw [r2]; simp [St.setBox], fun q' hq' => ?_, fun q' hq' y hy => ?_⟩
      ·simp only [List.mem_cons, not_or] at hq'
       rw [r3 q' hq'.2, qq, if_neg (by simp [Ne.symm hq'.1])]
      ·rcases List.mem_cons.1 hq' with rfl | hq'
       ·rw [r3 _ hqn, qq, if_pos ⟨rfl, qcX hbox⟩] at hy
        cases hy
        have hb0 := hq 0
        rw [hqq, Nat.add_zero] at hb0
        refine ⟨_, hbk i _ hb0.symm, cs, ty, o2, ?_⟩
        obtain ⟨b1, b2⟩ := qbJ d g o k
        refine ⟨by rw [b1, o3], fun j hj => ?_⟩
        rw [b1] at hj
        rw [b2 j hj]
        exact qbE hnew hhd hokβ hdis (o4 j hj) (hlt _) (hvv j hj) hA
       ·exact r4 q' hq' y hy
     ·simp at hb
    ·simp at hb
theorem qcI : ∀ (rs : List Ret), retLen rs = totLen rs
 | [] => rfl
 | .vals _ l :: r => by simp [retLen, totLen, Ret.len, qcI r]
 | .box l :: r => by simp [retLen, totLen, Ret.len, qcI r]
theorem qdo {n0 : Nat} {G : Nat -> Nat -> Prop} : ∀ (rs : List Ret) (vs : List Value) (k : Nat), RetsR P w' A' n0 G k rs vs -> (allVals rs vs).length = totLen rs
 | [], [], _, _ => rfl
 | [], _ :: _, _, h => h.elim
 | _ :: _, [], _, h => by cases h
 | r :: rs, v :: vs, k, h => by
  obtain ⟨h1, h2⟩ := h
  have ih := qdo rs vs _ h2
  cases r with
  | box l => simp [allVals, totLen, Ret.len, ih]
  | vals ag l =>
   cases ag with
   | false =>
    obtain ⟨c, rfl, _⟩ := h1
    simp [allVals, totLen, Ret.len, ih, Nat.add_comm]
   | true =>
    obtain ⟨us, rfl, hus, _⟩ := h1
    simp [allVals, totLen, Ret.len, ih, hus]
theorem qcL (d : Nat) (g : List Id) : ∀ (qs : List Nat) (os : List (List (T × Bool))) (S S' : St) (j : Nat), backBoxes S d g j qs os = some S' -> S'.np = S.np
 | [], [], S, S', j, h => by simp [backBoxes] at h; rw [h]
 | q :: qs, o :: os, S, S', j, h => by
  simp only [backBoxes] at h
  split at h
  ·split at h
   ·have := qcL d g qs os _ S' _ h
    exact this
   ·simp at h
  ·simp at h
 | [], _ :: _, S, S', j, h => by simp [backBoxes] at h
 | _ :: _, [], S, S', j, h => by simp [backBoxes] at h
theorem qij {tv : TV} {p : Arg × List Id} (h : argOf S tv = some p) (t : T) : p.1 ≠ .own t := by
 unfold argOf at h
 split at h
 ·split at h <;> simp at h; subst h; simp
 ·split at h <;> simp at h; subst h; simp
 ·split at h
  ·split at h <;> simp at h; subst h; simp
  ·simp at h
 ·simp at h
theorem qhS (hC : SoundC P C) {o : Oper} {f : Operand} {args : Array Operand} {ts : Array TypeId} {x : V} {g : FuncId} {caps : List T} (ho : o.op = .call { callee := .value f, args := args, argTypes := ts }) (hR : Rel P E M S a w)
  (hf : ev P S 0 f = .val x) (hx : x.t = .fn g caps) {K : St -> Option R} {r : R} (h : (callSt P S (o.dst.getD 0) o.dst g caps x.g ts.toList args.toList).go C K = some r) : StepR P E M a w o K r := by
 intro next Q hn
 have hB := hR.inv.base
 have hfr := ev_r hR 0 f
 rw [hf] at hfr
 have hfv := (hfr (by rw [hx]; simp)).rd
 rw [hx] at hfv
 generalize hfe : a.eval f = fv at hfv
 cases hfv with
 | fn _ cvs _ hcn hcr =>
 unfold callSt at h
 obtain ⟨c1, h1⟩ := qh h
 clear h
 simp only [Bool.and_eq_true, Bool.not_eq_true'] at c1
 obtain ⟨c1, hS⟩ := c1
 generalize hd : o.dst.getD 0 = d at h1 hS
 split at h1
 ·exact (qg h1).elim
 rename_i as has
 obtain ⟨c2, h2⟩ := qh h1
 clear h1
 simp only [Bool.and_eq_true, Bool.not_eq_true'] at c2
 obtain ⟨⟨⟨n1, n2⟩, n3⟩, n4⟩ := c2
 have hOk : HandOk P S args.toList (as.flatMap (·.2) ++ x.g) := ⟨n1, n2, n3, n4⟩
 simp only [Tr.go] at h2
 obtain ⟨x0, hx0, h3⟩ := Option.bind_eq_some_iff.1 h2
 have hres := Ans.val_some hx0
 generalize (C _ _).enc x0 = res at hres h3
 clear h2
 obtain ⟨hl, hget⟩ := qbi _ _ _ has
 obtain ⟨hbox, hargs⟩ := qih hR hOk has (fun p hp r hr => List.mem_append_left _ (List.mem_flatMap.2 ⟨p, hp, hr⟩)) (fun r hr => List.mem_append_right _ hr) hcn hcr
 have evs : (args.toList.map a.eval).toArray ++ cvs = args.map a.eval ++ cvs := by rw [<- Array.toList_map, Array.toArray_toList]
 rw [evs] at hargs
 have hcall := hC.1 g _ res hres w _ _ _ hargs
 unfold Oper.wp
 rw [qao ho hfe c1]
 unfold Oper.upon
 refine Calls.mono hcall fun e w' hafter => ?_
 obtain ⟨vs, G, Z, rfl, p1, p2, p3, p4, p5, p6, p7, p8, p9⟩ := hafter
 show next (a.put o.dst (retV vs)) w'
 generalize hgA : as.flatMap (·.2) ++ x.g = gA at *
 generalize hids : gs (ownedOf S (qsOf P S args.toList)) = ids at *
 generalize hqs : qsOf P S args.toList = qs at *
 let H := handOf P M S args.toList
 let bk : Nat -> Prop := fun b => ∃ i, isBox (as.map (·.1) ++ caps.map .v) i /\ b = H.bk i
 have hbkq : ∀ i, isBox (as.map (·.1) ++ caps.map .v) i -> ∃ q, qAt P S args.toList i = some q /\ M.bx q = some (H.bk i) := fun i hi => by
  obtain ⟨q, hq⟩ := (hbox i).1 hi
  have hl : ∃ l, S.box q = some (.cells l) := by
   obtain ⟨l', hl'⟩ := hi
   rw [List.getElem?_append] at hl'
   split at hl'
   ·rw [List.getElem?_map] at hl'
    cases hp : as[i]? with
    | none => rw [hp] at hl'; simp at hl'
    | some p =>
     rw [hp] at hl'
     simp at hl'
     obtain ⟨y, t, h1, h2⟩ := hget i p hp
     obtain ⟨p1, p2⟩ := p
     simp only at hl'
     subst hl'
     obtain ⟨q', l, h3, h4, _⟩ := qbB h2
     have h1' : args[i]? = some y := by simpa using h1
     have : qAt P S args.toList i = some q' := by simp [qAt, h1', qfK h3]
     rw [hq] at this
     cases this
     exact ⟨l, h4⟩
   ·rw [List.getElem?_map] at hl'
    cases hp : caps[i - (as.map (·.1)).length]? with
    | none => rw [hp] at hl'; simp at hl'
    | some p => rw [hp] at hl'; simp at hl'
  obtain ⟨l, hl⟩ := hl
  exact ⟨q, hq, (qeG hR hq hl).1⟩
 have K : Came M w w' (Handed (as.map (·.1) ++ caps.map .v) H) bk ids qs G := by
  refine ⟨p1, p2, p3, p4, p5, fun j b hb => ⟨(p6 j b hb).1, (p6 j b hb).2.1, fun ⟨i, hi, e⟩ => (p6 j b hb).2.2 i hi e⟩, p7, fun b hb => ?_, fun r hr => List.all_eq_true.1 n3 r hr⟩
  obtain ⟨i, hi, hb⟩ := hb
  rcases hb with hb | ⟨j, hj⟩
  ·obtain ⟨q, hq, hbx⟩ := hbkq i hi
   left
   exact ⟨⟨i, hi, hb⟩, q, by rw [<- hqs]; exact qZ _ _ _ hq, by rw [hb]; exact hB.bxβ q _ hbx⟩
  ·obtain ⟨q, l, y, y1, y2, y3, y4, r', hr', hβ⟩ := hj
   right
   exact ⟨r', by rw [<- hids]; exact qac (qdt (by rw [<- hqs]; exact qZ _ _ _ y1) y2 y3 y4) hr', hβ⟩
 let hv : Nat -> Value := fun j => (allVals res.rets vs ++ outV w' H 0 (as.map (·.1))).getD j undef
 have hB' : Base E (M.called d ids G hv) w' := K.base hB
 have hA' : ∀ b, restA w w' (avoid M w gA) H (as.map (·.1) ++ caps.map .v) G Z b -> avoid (M.called d ids G hv) w' gA b := fun b hb => K.avoid hB b ⟨hb.1, hb.2.1, hb.2.2.1, fun ⟨i, hi, e⟩ => hb.2.2.2.1 i hi e⟩
 have hGlt : ∀ j b, G j b -> b < w'.heap.size := fun j b hb => (p6 j b hb).2.1
 have hlenV := qdo _ _ _ p8
 split at h3
 ·rename_i l hrets
  obtain ⟨c5, h4⟩ := qh h3
  clear h3
  simp only [Bool.and_eq_true, decide_eq_true_eq, beq_iff_eq] at c5
  obtain ⟨⟨⟨⟨c6, c7⟩, c8⟩, c9⟩, c10⟩ := c5
  rw [hrets] at p8
  match vs, p8 with
  | [v], p8 =>
  obtain ⟨⟨b, cs, ty, hv1, hw2, hv3, hv4, hv5, hv6, hv7⟩, _⟩ := p8
  subst hv1
  have hnoH : ∀ q, ¬ Handed (as.map (·.1) ++ caps.map .v) H q := fun q ⟨i, hi, _⟩ => by
   obtain ⟨q', hq', _⟩ := hbkq i hi
   have := qZ _ _ _ hq'
   rw [hqs] at this
   have e : qs = [] := by simpa using c6
   rw [e] at this
   simp at this
  have hbel : Below w.heap.size w w' := ⟨p1, p2, p3, p4, fun q hq => p5 q hq (hnoH q)⟩
  have hGn : ∀ j q, G j q -> w.heap.size <= q := fun j q hq => (p6 j q hq).1.resolve_right (hnoH q)
  let hv2 : Nat -> Value := fun j => cs.getD j undef
  let M2 := (M.site d G hv2).boxed d b
  obtain ⟨q1, q2, q3, q4⟩ := qbL c8
  have hbl : b < w'.heap.size := (Array.getElem?_eq_some_iff.1 hv5).1
  have hR1 := hR.site (hv := hv2) hbel (fun j q hq => ⟨hGn j q hq, hGlt j q hq⟩) p7 hS
  have hB1 := hR1.inv.base
  have cs2 : ∀ r q, M2.β r q -> (isB d r = false /\ (M.site d G hv2).β r q) ∨ (r = .b d /\ q = b) := fun r q hr => by
   cases hs : isB d r with
   | false =>
    have hr' : ((M.site d G hv2).boxed d b).β r q := hr
    rw [qaE hs] at hr'
    exact .inl ⟨rfl, hr'⟩
   | true =>
    have e := qem hs
    subst e
    have hr' : ((M.site d G hv2).boxed d b).β (.b d) q := hr
    rw [qaX] at hr'
    exact .inr ⟨rfl, hr'⟩
  have hnb : ∀ r, isB d r = false -> ¬ (M.site d G hv2).β r b := fun r _ hr => by
   cases hs : ofSite d r with
   | true =>
    obtain ⟨j, rfl⟩ := qK hs
    rw [qN] at hr
    exact hv4 j hr
   | false =>
    rw [qak hs] at hr
    have := hB.lt _ _ hr
    omega
  have hB2 : Base E M2 w' := by
   refine ⟨hB1.os, hB1.tape, hB1.output, hB1.size, hB1.old, fun r s q hr hs => ?_, fun r q hr => ?_, fun r q hr => ?_, fun q q' hq => ?_, fun r q hr => ?_, hB1.okN, ⟨fun q b' hq => ⟨(hB1.pin.1 q b' hq).1, by
    have hqd : q ≠ d := fun e => by
     have := (hB1.pin.1 q b' hq).1
     have := hR.defers.2
     omega
    simpa [M2, Mdl.boxed, hqd] using (hB1.pin.1 q b' hq).2⟩, fun q b' hq => by
    by_cases hqd : q = d
    ·have hq' : some b = some b' := by simpa [M2, Mdl.boxed, hqd] using hq
     cases hq'
     exact .inr (Nat.le_trans hB.size hw2)
    ·exact hB1.pin.2 q b' (by simpa [M2, Mdl.boxed, hqd] using hq)⟩⟩
   ·rcases cs2 r q hr with ⟨i1, t1⟩ | ⟨rfl, t1⟩ <;> rcases cs2 s q hs with ⟨i2, t2⟩ | ⟨rfl, t2⟩
    ·exact hB1.dis _ _ _ t1 t2
    ·rw [t2] at t1; exact (hnb r i1 t1).elim
    ·rw [t1] at t2; exact (hnb s i2 t2).elim
    ·rfl
   ·rcases cs2 r q hr with ⟨_, t1⟩ | ⟨rfl, t1⟩
    ·exact hB1.lt _ _ t1
    ·rw [t1]; exact hbl
   ·rcases cs2 r q hr with ⟨_, t1⟩ | ⟨rfl, t1⟩
    ·exact hB1.new _ _ t1
    ·rw [t1]; exact .inl (Nat.le_trans hB.size hw2)
   ·by_cases hqd : q = d
    ·subst hqd
     have hq' : some b = some q' := by simpa [M2, Mdl.boxed] using hq
     cases hq'
     show ((M.site q G hv2).boxed q b).β (.b q) b
     rw [qaX]
    ·have hq' : M.bx q = some q' := by simpa [M2, Mdl.boxed, hqd, Mdl.site] using hq
     show ((M.site d G hv2).boxed d b).β (.b q) q'
     rw [qaE (by simp [isB, Ne.symm hqd])]
     exact hB1.bxβ q q' hq'
   ·rcases cs2 r q hr with ⟨_, t1⟩ | ⟨rfl, t1⟩
    ·exact hB1.okβ _ _ t1
    ·rw [t1]; exact hB1.okN.1 b (Nat.le_trans hB.size hw2)
  have hF : Fresh M M2 w (fun r => ofSite d r || isB d r) := by
   refine ⟨rfl, fun r hr => ?_, fun r hr => ?_, fun r q hr hq => ?_⟩
   ·simp only [Bool.or_eq_false_iff] at hr
    show ((M.site d G hv2).boxed d b).β r = M.β r
    rw [qaE hr.2, qak hr.1]
   ·simp only [Bool.or_eq_false_iff] at hr
    rw [show M2.hd r = (M.site d G hv2).hd r from qdF r]
    exact qhf (B := G) (h := hv2) hr.1
   ·rcases cs2 r q hq with ⟨t0, t1⟩ | ⟨rfl, t1⟩
    ·rw [t0, Bool.or_false] at hr
     obtain ⟨j, rfl⟩ := qK hr
     rw [qN] at t1
     exact hGn j q t1
    ·rw [t1]; exact hw2
  have hhas : S.has (fun r => ofSite d r || isB d r) = false := by
   have e : ∀ (p q : Id -> Bool), S.has p = false -> S.has q = false -> S.has (fun r => p r || q r) = false := fun p q hp hq => by
    have key : ∀ (y : V), y.g.any (fun r => p r || q r) = (y.g.any p || y.g.any q) := fun y => by
     rw [Bool.eq_iff_iff]
     simp only [List.any_eq_true, Bool.or_eq_true]
     constructor
     ·rintro ⟨r, h1, h2 | h2⟩
      ·exact .inl ⟨r, h1, h2⟩
      ·exact .inr ⟨r, h1, h2⟩
     ·rintro (⟨r, h1, h2⟩ | ⟨r, h1, h2⟩)
      ·exact ⟨r, h1, .inl h2⟩
      ·exact ⟨r, h1, .inr h2⟩
    have orL : ∀ (l : List V) (u v : V -> Bool), l.any u = false -> l.any v = false -> l.any (fun y => u y || v y) = false := fun l u v hu hv => by
     rw [List.any_eq_false] at *
     intro y hy
     have := hu y hy
     have := hv y hy
     simp_all
    have orT : ∀ (t : TV) (u v : V -> Bool), anyV u t = false -> anyV v t = false -> anyV (fun y => u y || v y) t = false := fun t u v hu hv => by
     cases t with
     | val y => simp_all [anyV]
     | agg l => exact orL l u v hu hv
     | tup l =>
      unfold anyV at *
      rw [List.any_eq_false] at *
      intro c hc
      have h1 := hu c hc
      have h2 := hv c hc
      simp only [Bool.not_eq_true] at h1 h2 ⊢
      exact orL c.2 u v h1 h2
     | ep y i o => simp_all [anyV]
     | pp y o => simp_all [anyV]
     | pt y x' i o =>
      simp only [anyV, Bool.or_eq_false_iff] at hu hv ⊢
      simp [hu.1, hu.2, hv.1, hv.2]
     | _ => rfl
    unfold St.has St.any at *
    simp only [Bool.or_eq_false_iff] at *
    have ek : (fun y : V => y.g.any (fun r => p r || q r)) = fun y => (y.g.any p || y.g.any q) := funext key
    refine ⟨?_, ?_⟩
    ·rw [List.any_eq_false]
     intro t ht
     have h1 := List.any_eq_false.1 hp.1 t ht
     have h2 := List.any_eq_false.1 hq.1 t ht
     simp only [Bool.not_eq_true] at h1 h2 ⊢
     rw [ek]
     exact orT t _ _ h1 h2
    ·rw [List.any_eq_false]
     intro bb hbb
     have h1 := List.any_eq_false.1 hp.2 bb hbb
     have h2 := List.any_eq_false.1 hq.2 bb hbb
     simp only [Bool.not_eq_true] at h1 h2 ⊢
     cases bb with
     | none => rfl
     | some bb =>
      cases bb with
      | arr k m l => rfl
      | cells l => simp only at h1 h2 ⊢; rw [ek]; exact orL l _ _ h1 h2
   exact e _ _ hS q1
  have hbx : BoxR P M2 w' b (.cells (backV d gA 0 l)) := by
   refine ⟨cs, ty, hv5, ?_⟩
   obtain ⟨b1, b2⟩ := qbJ d gA l 0
   refine ⟨by rw [b1]; exact hv6, fun j hj => ?_⟩
   rw [b1] at hj
   rw [b2 j hj]
   refine qbE (M := M2) (G := G) (hv := hv2) (fun j => ?_) (fun j => by rw [show M2.hd (.n d j) = (M.site d G hv2).hd (.n d j) from qdF _]; simp [Mdl.site, hd_n]) hB2.okβ hB2.dis (hv7 j hj) (fun q hq => hGlt _ q hq) (by simp [hv2]) fun q hq => ?_
   ·show ((M.site d G hv2).boxed d b).β (.n d j) = G j
    rw [qaE (by rfl), qN]
   ·obtain ⟨t1, t2, t3, t4⟩ := hq
    refine ⟨t2, fun r hr hβ => ?_, ?_⟩
    ·rcases cs2 r q hβ with ⟨_, t5⟩ | ⟨rfl, t5⟩
     ·cases hs : ofSite d r with
      | true =>
       obtain ⟨j', rfl⟩ := qK hs
       rw [qN] at t5
       exact t3 j' t5
      | false =>
       rw [qak hs] at t5
       rcases t1 with t1 | t1 | t1
       ·exact t1.2.1 r hr t5
       ·have := hB.lt _ _ t5; omega
       ·exact hnoH q t1
     ·subst t5
      exact hv3 ⟨t1, t2, t3, t4⟩
    ·rcases t1 with t1 | t1 | t1
     ·exact t1.2.2
     ·exact hB.okN.1 q (Nat.le_trans hB.size t1)
     ·exact (hnoH q t1).elim
  have hfin := hR.newBox hF hbel hB2 hhas q2 q3 c9 (fun q hq => by simp [M2, Mdl.boxed, hq, Mdl.site]) (by simp [M2, Mdl.boxed]) hbx
  rw [c10]
  exact hn M2 _ _ w' (qj h4) rfl hfin
 ·rename_i hnobox
  have hcomp := fun cs (hcs : backComps d gA 0 res.rets = some cs) => qbV (P := P) (M := M.called d ids G hv) (G := G) (hv := hv) (n0 := w.heap.size) (fun j => qaw j) (fun j => qeX j) hB'.okβ hB'.dis hGlt hA' res.rets vs 0 cs p8 hcs (fun i hi => by
   simp only [hv, Nat.zero_add, List.getD_eq_getElem?_getD]
   rw [List.getElem?_append_left hi])
  obtain ⟨r1, r2⟩ := K.rel (hv := hv) (d := d) hR hS
  have hback := fun S' (hS' : backBoxes (S.map (kill (ids ++ qs.map .b))) d gA (retLen res.rets) qs res.outs = some S') => by
   have hS2 := hS'
   rw [<- hqs, qcI] at hS2
   exact qbQ (M' := M.called d ids G hv) (P := P) (S := S) (xs0 := args.toList) (H := H) (G := G) (hv := hv) (fun j => qaw j) (fun j => qeX j) hB'.okβ hB'.dis hGlt hA' (fun i q hq => by
     obtain ⟨q', hq', hbx⟩ := hbkq i ((hbox i).2 ⟨q, hq⟩)
     rw [hq] at hq'
     cases hq'
     exact hbx) args.toList (as.map (·.1)) (caps.map .v) (totLen res.rets) 0 res.outs _ S' (by simpa using hl) (fun j => by simp) (fun j => by
      rw [<- hbox j]
      unfold isBox
      constructor
      ·rintro ⟨l, hl⟩
       exact ⟨l, by rw [List.getElem?_append_left (List.getElem?_eq_some_iff.1 hl).1]; exact hl⟩
      ·rintro ⟨l, hl⟩
       rw [List.getElem?_append] at hl
       split at hl
       ·exact ⟨l, hl⟩
       ·rw [List.getElem?_map] at hl
        cases hp : caps[j - (as.map (·.1)).length]? with
        | none => rw [hp] at hl; simp at hl
        | some p => rw [hp] at hl; simp at hl) (fun y hy => by
       obtain ⟨t, _, rfl⟩ := List.mem_map.1 hy
       exact ⟨t, rfl⟩) (fun y hy t => by
       obtain ⟨p, hp, rfl⟩ := List.mem_map.1 hy
       obtain ⟨i, hi, e⟩ := List.mem_iff_getElem.1 hp
       obtain ⟨_, _, _, h4⟩ := hget i p (by rw [List.getElem?_eq_getElem hi, e])
       exact qij h4 t) (by rw [hqs]; exact n1) p9 hS2 (fun j hj => by
       simp only [hv, List.getD_eq_getElem?_getD]
       rw [List.getElem?_append_right (by omega)]
       simp [hlenV])
  have hrel : ∀ S', backBoxes (S.map (kill (ids ++ qs.map .b))) d gA (retLen res.rets) qs res.outs = some S' -> Rel P E (M.called d ids G hv) S' a w' := fun S' hS' => by
   obtain ⟨s1, s2, s3, s4⟩ := hback S' hS'
   rw [hqs] at s1 s3 s4
   refine ⟨hB'.inv fun q y hy => ?_, ⟨hR.defers.1, (qcL _ _ _ _ _ _ _ hS').trans hR.defers.2⟩, by rw [hR.size, s1]; simp [St.map], fun i => ?_⟩
   ·by_cases hq : q ∈ qs
    ·exact s4 q hq y hy
    ·rw [s3 q hq] at hy
     exact r2 q y hq hy
   ·have e : S'.tmp i = (S.map (kill (ids ++ qs.map .b))).tmp i := by unfold St.tmp; rw [s1]
    rw [e]
    exact r1 i
  split at h3
  ·rename_i c S' hcs hS'
   obtain ⟨q1, q2, q3⟩ := hcomp _ hcs
   refine hn (M.called d ids G hv) _ _ w' (qj h3) rfl ((hrel S' hS').put o.dst _ _ ?_)
   have h0 := q3 0 (by simp)
   simp only [List.getD_cons_zero] at h0
   match vs, q1, h0 with
   | [v], _, h0 =>
    simp only [retV, List.getD_cons_zero] at h0 ⊢
    obtain ⟨ag, l⟩ := c
    cases ag with
    | true => exact h0
    | false =>
     match l, h0 with
     | [], _ => trivial
     | [y], h0 => exact h0
     | _ :: _ :: _, _ => trivial
  ·rename_i cs S' hne hcs hS'
   obtain ⟨q1, q2, q3⟩ := hcomp _ hcs
   refine hn (M.called d ids G hv) _ _ w' (qj h3) rfl ((hrel S' hS').put o.dst _ _ ?_)
   have hvs : retV vs = .tuple vs.toArray := by
    match vs, q1 with
    | [], _ => rfl
    | [v], q1 =>
     exfalso
     match cs, q1 with
     | [c], _ => exact hne c rfl
    | _ :: _ :: _, _ => rfl
   rw [hvs]
   refine ⟨vs.toArray, rfl, by simp [q1], fun i hi => ?_⟩
   have := q3 i hi
   simpa [Array.getD_eq_getD_getElem?, List.getD_eq_getElem?_getD] using this
  ·exact (qg h3).elim
theorem qaQ (ids : List Id) : ∀ (l : List V) (ts : List T) (y : V), markV ids l ts y = kill ids y ∨ ∃ (j : Nat) (x : V) (t : T), l[j]? = some x /\ ts[j]? = some t /\ owned x = true /\ y.own = x.own /\ y.t ≠ .bad /\ markV ids l ts y = ⟨t, x.own.toList, true, x.own⟩
 | [], _, y => .inl (by unfold markV; rfl)
 | x :: xs, [], y => .inl (by unfold markV; rfl)
 | x :: xs, t :: ts, y => by
  unfold markV
  cases h : owned x && y.own == x.own && !y.t.isBad with
  | true =>
   simp only [Bool.and_eq_true, beq_iff_eq, Bool.not_eq_true'] at h
   exact .inr ⟨0, x, t, rfl, rfl, h.1.1, h.1.2, qaU.1 h.2, rfl⟩
  | false =>
   rcases qaQ ids xs ts y with h | ⟨j, x', t', h1, h2, h3, h4, h5, h6⟩
   ·exact .inl h
   ·exact .inr ⟨j + 1, x', t', by simpa using h1, by simpa using h2, h3, h4, h5, h6⟩
theorem qbf : ∀ {l : List V} {o : List (T × Bool)}, sameEl l o = true -> o.length = l.length /\ ∀ (j : Nat) (x : V) (t : T), l[j]? = some x -> (o.map (·.1))[j]? = some t -> x.t.scalar = false -> t.scalar = false /\ elOf t = elOf x.t
 | [], [], _ => ⟨rfl, fun j x t h => by simp at h⟩
 | x :: xs, t :: ts, h => by
  simp only [sameEl, Bool.and_eq_true, Bool.or_eq_true, Bool.not_eq_true', beq_iff_eq] at h
  obtain ⟨h1, h2⟩ := qbf h.2
  refine ⟨by simp [h1], fun j x' t' hx ht hs => ?_⟩
  cases j with
  | zero =>
   simp at hx ht
   subst hx ht
   rcases h.1 with h | h
   ·rw [h.1] at hs; simp at hs
   ·exact h
  | succ j => exact h2 j x' t' (by simpa using hx) (by simpa using ht) hs
 | [], _ :: _, h => by simp [sameEl] at h
 | _ :: _, [], h => by simp [sameEl] at h
theorem qjJ {x : V} {v : Value} {id : Id} (h : VrG P M w x v) (ho : x.own = some id) : id ∈ x.g := (h.own id ho).1
def lentC (M : Mdl) (l : List V) (j b : Nat) : Prop := ∃ x, l[j]? = some x /\ owned x = true /\ inside M x.g b
theorem qgf (hB : Base E M w) {l : List V} (h : apart [] (l.filter owned) = true) : ∀ i j b, lentC M l i b -> lentC M l j b -> i = j := by
 have hp := qeB h
 rw [List.pairwise_filter, List.pairwise_iff_getElem] at hp
 intro i j b ⟨x, h1, h2, r, h3, h4⟩ ⟨y, k1, k2, s, k3, k4⟩
 have e := hB.dis _ _ _ h4 k4
 subst e
 obtain ⟨i1, e1⟩ := List.getElem?_eq_some_iff.1 h1
 obtain ⟨i2, e2⟩ := List.getElem?_eq_some_iff.1 k1
 rcases Nat.lt_trichotomy i j with hlt | heq | hlt
 ·exact (hp i j i1 i2 hlt (by rw [e1]; exact h2) (by rw [e2]; exact k2) r (by rw [e1]; exact h3) (by rw [e2]; exact k3)).elim
 ·exact heq
 ·exact (hp j i i2 i1 hlt (by rw [e2]; exact k2) (by rw [e1]; exact h2) r (by rw [e2]; exact k3) (by rw [e1]; exact h3)).elim
theorem qaG {l : List V} {j b : Nat} (h : lentC M l j b) : ∃ r ∈ gs l, M.β r b := by
 obtain ⟨x, h1, _, r, h2, h3⟩ := h
 exact ⟨r, qac (List.mem_of_getElem? h1) h2, h3⟩
theorem qfd {l : List V} {us : Array Value} (hl : VrL P M w l us) (hlent : l.all lentV = true) (hbad : l.any (·.t.isBad) = false) {j : Nat} (hj : j < l.length) :
  CellR P w (fun _ => False) (lentC M l j) ((l.map (·.t)).getD j .bad, true) (us.getD j undef) := by
 rw [qG _ _ hj]
 have hjx : l[j]? = some (l.getD j V.bad) := by simp [List.getD_eq_getElem?_getD, hj]
 have hm : l.getD j V.bad ∈ l := List.mem_of_getElem? hjx
 have hne := qbZ hbad hj
 have hv := hl.2 j hj hne
 have hle := List.all_eq_true.1 hlent _ hm
 generalize hx : l.getD j V.bad = x at *
 unfold lentV at hle
 cases hs : x.t.scalar with
 | true => unfold CellR; simp only [hs, Bool.not_true, Bool.and_false]; exact hv.rd.any hs _
 | false =>
  rw [hs] at hle
  have hle' : owned x = true := by simpa using hle
  have := qfv (g := []) (B := lentC M l j) hv (fun ho b hb => ⟨x, hjx, ho, hb⟩) (fun h => by rw [hle'] at h; simp at h)
  unfold CellR at this ⊢
  simp only [hle', hs, Bool.not_false, Bool.and_self] at this ⊢
  exact this
def Mdl.lent (M : Mdl) (l : List V) (cs' : Nat -> Nat -> Prop) : Mdl :=
 ⟨fun r b => (r ∈ gs l /\ ∃ j x, l[j]? = some x /\ owned x = true /\ x.own = some r /\ cs' j b) ∨ (r ∉ gs l /\ M.β r b), M.bx, M.hd0, M.ok⟩
theorem qdj {M' : Mdl} (h : M'.hd0 = M.hd0) (ho : M'.ok = M.ok) (r : Id) : M'.hd r = M.hd r := by
 cases r with
 | h j => show M'.ok.arg j = M.ok.arg j; rw [ho]
 | _ => exact congrFun h _
theorem qgv {l : List V} {us : Array Value} {cs' : Nat -> Nat -> Prop} {o : List (T × Bool)} (hR : Rel P E M S a w) (hl : VrL P M w l us) (hap : apart [] (l.filter owned) = true) (hnb : (gs l).all notB = true) (hsame : sameEl l o = true) (hbad : l.any (·.t.isBad) = false)
  (hos : w'.os = w.os) (htape : w'.tape = w.tape) (hout : w'.output = w.output) (hsize : w.heap.size <= w'.heap.size) (hblock : ∀ b, b < w.heap.size -> (∀ j, ¬ lentC M l j b) -> w'.heap[b]? = w.heap[b]?)
  (hcs : ∀ j b, cs' j b -> (w.heap.size <= b ∨ ∃ i, lentC M l i b) /\ b < w'.heap.size) (hdis : ∀ i j b, cs' i b -> cs' j b -> i = j)
  (hcell : ∀ j, j < l.length -> ((o.map fun c => c.1).getD j T.bad).scalar = false -> CellR P w' (fun _ => False) (cs' j) ((o.map (·.1)).getD j .bad, true) (us.getD j undef)) :
  Rel P E (M.lent l cs') (S.map (markV (gs l) l (o.map (·.1)))) a w' := by
 have hB := hR.inv.base
 obtain ⟨hlen, hel⟩ := qbf hsame
 have hin : ∀ {r b}, r ∈ gs l -> (M.lent l cs').β r b -> ∃ j x, l[j]? = some x /\ owned x = true /\ x.own = some r /\ cs' j b := fun {r b} hr h => by
  rcases h with h | h
  ·exact h.2
  ·exact (h.1 hr).elim
 have hout' : ∀ {r b}, r ∉ gs l -> ((M.lent l cs').β r b ↔ M.β r b) := fun {r b} hr => ⟨fun h => by
  rcases h with h | h
  ·exact (hr h.1).elim
  ·exact h.2, fun h => .inr ⟨hr, h⟩⟩
 have hcase : ∀ {j b}, cs' j b -> w.heap.size <= b ∨ ∃ r ∈ gs l, M.β r b := fun {j b} h => by
  rcases (hcs j b h).1 with h | ⟨i, h⟩
  ·exact .inl h
  ·exact .inr (qaG h)
 have T : Turn M (M.lent l cs') w w' (gs l) := by
  refine ⟨rfl, fun r hr => ?_, fun r _ => qdj rfl rfl r, fun r b hr hb hlt => ?_, fun b hb hr _ => hblock b hb fun j hj => ?_, hsize⟩
  ·funext b
   exact propext (hout' hr)
  ·obtain ⟨j, x, _, _, _, hc⟩ := hin hr hb
   rcases hcase hc with h | h
   ·omega
   ·exact h
  ·obtain ⟨r, h1, h2⟩ := qaG hj
   exact hr r h1 h2
 have cs : ∀ r b, (M.lent l cs').β r b -> (r ∈ gs l /\ ∃ j x, l[j]? = some x /\ owned x = true /\ x.own = some r /\ cs' j b) ∨ (r ∉ gs l /\ M.β r b) := fun r b h => h
 have hB' : Base E (M.lent l cs') w' := by
  refine ⟨hos.trans hB.os, htape.trans hB.tape, hout.trans hB.output, Nat.le_trans hB.size hsize, fun b hb hu => ?_, fun r s b hr hs => ?_, fun r b hr => ?_, fun r b hr => ?_, fun q b hq => ?_, fun r b hr => ?_, hB.okN, hB.pin⟩
  ·rw [hblock b (Nat.lt_of_lt_of_le hb hB.size) fun j hj => ?_]
   ·exact hB.old b hb hu
   ·obtain ⟨r, _, h2⟩ := qaG hj
    rcases hB.new r b h2 with h | h
    ·omega
    ·exact hu h
  ·rcases cs r b hr with ⟨n1, i, x, x1, x2, x3, p1⟩ | ⟨n1, p1⟩ <;> rcases cs s b hs with ⟨n2, j, y, y1, y2, y3, p2⟩ | ⟨n2, p2⟩
   ·have e := hdis i j b p1 p2
    subst e
    rw [x1] at y1
    cases y1
    rw [x3] at y3
    cases y3
    rfl
   ·rcases hcase p1 with h | ⟨r', h1, h2⟩
    ·have := hB.lt s b p2; omega
    ·rw [hB.dis _ _ _ p2 h2] at n2
     exact (n2 h1).elim
   ·rcases hcase p2 with h | ⟨r', h1, h2⟩
    ·have := hB.lt r b p1; omega
    ·rw [hB.dis _ _ _ p1 h2] at n1
     exact (n1 h1).elim
   ·exact hB.dis _ _ _ p1 p2
  ·rcases cs r b hr with ⟨n1, i, x, x1, x2, x3, p1⟩ | ⟨n1, p1⟩
   ·exact (hcs _ _ p1).2
   ·exact Nat.lt_of_lt_of_le (hB.lt _ _ p1) hsize
  ·rcases cs r b hr with ⟨n1, i, x, x1, x2, x3, p1⟩ | ⟨n1, p1⟩
   ·rcases hcase p1 with h | ⟨r', h1, h2⟩
    ·exact .inl (Nat.le_trans hB.size h)
    ·exact hB.new _ _ h2
   ·exact hB.new _ _ p1
  ·refine (hout' fun hm => ?_).2 (hB.bxβ q b hq)
   have := List.all_eq_true.1 hnb _ hm
   simp [notB] at this
  ·rcases cs r b hr with ⟨n1, i, x, x1, x2, x3, p1⟩ | ⟨n1, p1⟩
   ·rcases hcase p1 with h | ⟨r', h1, h2⟩
    ·exact hB.okN.1 b (Nat.le_trans hB.size h)
    ·exact hB.okβ _ _ h2
   ·exact hB.okβ _ _ p1
 have K : Car P M (M.lent l cs') w w' (YthocpcfjfgnkgaaGreatRv.kill (gs l)) := Car.kill T hB
 have atj : ∀ {j x}, l[j]? = some x -> owned x = true -> VrG P M w x (us.getD j undef) /\ j < l.length /\ x.t.scalar = false := fun {j x} h ho => by
  have hj : j < l.length := (List.getElem?_eq_some_iff.1 h).1
  have e : l.getD j V.bad = x := by rw [List.getD_eq_getElem?_getD, h]; rfl
  have := hl.2 j hj (qbZ hbad hj)
  rw [e] at this
  obtain ⟨id, h1, h2, h3⟩ := qaZ ho
  exact ⟨this, hj, h3⟩
 have F : Car P M (M.lent l cs') w w' (markV (gs l) l (o.map (·.1))) := by
  refine ⟨fun y v h => ?_, fun y hy => ?_, fun y ad n cap h hy => ?_⟩
  ·rcases qaQ (gs l) l (o.map (·.1)) y with h3 | ⟨j, x, t, h1, h2, h4, h5, h6, h7⟩
   ·rw [h3]; exact K.vr y v h
   ·rw [h7]
    intro _
    obtain ⟨hx, hj, hsc⟩ := atj h1 h4
    obtain ⟨id, i1, i2, i3⟩ := qaZ h4
    have e1 := ((h h6).own id (by rw [h5]; exact i1)).2.1
    have e2 := (hx.own id i1).2.1
    obtain ⟨hts, _⟩ := hel j x t h1 h2 hsc
    have e3 : (o.map (·.1)).getD j .bad = t := by rw [List.getD_eq_getElem?_getD, h2]; rfl
    have hc := hcell j hj (by rw [e3]; exact hts)
    rw [e3, <- e2, e1] at hc
    unfold CellR at hc
    simp only [hts, Bool.not_false, Bool.and_self] at hc
    rw [i1]
    have hidg : id ∈ gs l := qac (List.mem_of_getElem? h1) (qjJ hx i1)
    exact qcz hB'.okβ hB'.dis hc.1 hc.2.1 hc.2.2 (by simp) (fun b hb => .inl ⟨hidg, j, x, h1, h4, i1, hb⟩) (fun b hb => (hcs j b hb).2) (by rw [qdj rfl rfl]; exact e1)
  ·rcases qaQ (gs l) l (o.map (·.1)) y with h3 | ⟨j, x, t, h1, h2, h4, h5, h6, h7⟩
   ·rw [h3] at hy; exact K.ne y hy
   ·exact h6
  ·rcases qaQ (gs l) l (o.map (·.1)) y with h3 | ⟨j, x, t, h1, h2, h4, h5, h6, h7⟩
   ·rw [h3] at hy ⊢; exact K.el y ad n cap h hy
   ·rw [h7]
    obtain ⟨hx, hj, hsc⟩ := atj h1 h4
    obtain ⟨id, i1, i2, i3⟩ := qaZ h4
    have ho : y.own = some id := by rw [h5]; exact i1
    have e1 := (h.own id ho).2.1
    have e2 := (hx.own id i1).2.1
    rw [e1] at e2
    obtain ⟨b, cur, e, e3, _, q3, q4, _⟩ := qam h ho rfl
    obtain ⟨b', cur', e', e3', _, q3', q4', _⟩ := qam hx i1 e2.symm
    rw [e3] at e3'
    cases e3'
    rw [q4] at q4'
    cases q4'
    show elOf t = elOf y.t
    rw [(hel j x t h1 h2 hsc).2, q3, q3']
 obtain ⟨h1, h2⟩ := hR.car F T fun _ => rfl
 refine ⟨hB'.inv fun q y hy => h2 q y (fun hm => ?_) hy, hR.defers, by rw [hR.size]; simp [St.map], h1⟩
 have := List.all_eq_true.1 hnb _ hm
 simp [notB] at this
theorem qhZ {B : Nat -> Prop} {v : Value} {t : T} (h : Sep P w B v t) (ht : rowT P t = true) : Hd P w B v t := by
 cases h with
 | scalar _ _ _ h => cases t <;> first | (simp [rowT] at ht; done) | simp [T.scalar] at h
 | nilN _ e k z => exact ⟨World.ownsRow_nil _ _ _ _, by simpa [rowT] using ht, fun b hb => by simp [Value.ownBlock] at hb⟩
 | nilS _ e z => exact ⟨⟨[], World.ownsRow_nil _ _ _ _⟩, Nat.pos_of_ne_zero (by simpa [rowT] using ht), fun b hb => by simp [Value.ownBlock] at hb⟩
 | nums _ ad n cap e k z l cur te hn hb hsp hh hf ho => exact ⟨ho.1, ho.2, fun b hb' => by
   have e : ad.block = b := by simpa [Value.ownBlock] using hb'
   exact e ▸ hb⟩
 | sl _ ad n cap e z l cur te c Bs hn hb hsp hh hf ho hc hsub hdis hr => exact ⟨ho.1, ho.2, fun b hb' => by
   have e : ad.block = b := by simpa [Value.ownBlock] using hb'
   exact e ▸ hb⟩
 | agg _ vs l Bs hn hsub hdis hr => simp [rowT] at ht
theorem _root_.Go.World.ownsRow.cellAt' {base e size n cap : Nat} {ad : Addr} {xs : List Value} (h : w.ownsRow base e size (.slice (some ad) n cap) n xs) (j : Nat) (hj : j < n * size) : w.cell? (ad.add j) = xs[j]? := by
 rcases h.2 with ⟨h', _⟩ | ⟨b', cap', cur', h', _⟩
 ·simp at h'
 ·simp only [Value.slice.injEq, Option.some.injEq] at h'
  obtain ⟨rfl, _, _⟩ := h'
  rw [qdc]
  exact h.cellAt j hj
theorem qjC {t : T} (h : rowT P t = true) : t.scalar = false := by cases t <;> first | rfl | simp [rowT] at h
theorem qhR {ty : TypeId} {t : T} (h : ok1 P ty t = true) : (∃ e, P.underlying ty = some (.slice e)) ↔ ((∃ e k z l, t = .nums e k z l) ∨ ∃ e z l, t = .sl e z l) := by
 unfold ok1 at h
 split at h <;> simp_all
theorem qke {ty : TypeId} {x t : T} (h1 : ok1 P ty x = true) (hr : rowT P x = true) (h2 : ok1 P ty t = true) : t.scalar = false := by
 have hx : (∃ e k z l, x = .nums e k z l) ∨ ∃ e z l, x = .sl e z l := by
  cases x <;> first | (simp [rowT] at hr; done) | exact .inl ⟨_, _, _, _, rfl⟩ | exact .inr ⟨_, _, _, rfl⟩
 rcases (qhR h2).1 ((qhR h1).2 hx) with ⟨e, k, z, l, rfl⟩ | ⟨e, z, l, rfl⟩ <;> rfl
def Mdl.parted (M : Mdl) (w : World) (id : Id) (c : Nat -> Prop) : Mdl := ⟨fun r b => M.β r b ∨ (r = id /\ w.heap.size <= b /\ c b), M.bx, M.hd0, M.ok⟩
theorem qjn {x y : V} {i : Int} {off : Nat} {v : Value} {id : Id} {e : TypeId} {z : Bool} {l : List T} {ty : TypeId} (hR : Rel P E M S a w) (hL : Lies P M w y x i off v) (ho : x.own = some id) (hx : x.t = .sl e z l) (hs : x.sep = true) (hnb : x.g.all notB = true)
  (hy : rowT P y.t = true) (hty : (cellTys P depth e)[off]? = some ty) :
  ∃ B : Nat -> Prop, CellR P w (fun _ => False) B (y.t, true) v /\ (∀ b, B b -> inside M x.g b) /\
   ∀ (w' : World) (t : T) (B' : Nat -> Prop), ok1 P ty t = true -> w'.os = w.os -> w'.tape = w.tape -> w'.output = w.output -> w.heap.size <= w'.heap.size -> (∀ b, b < w.heap.size -> ¬ B b -> w'.heap[b]? = w.heap[b]?) -> (∀ b, B' b -> (w.heap.size <= b ∨ B b) /\ b < w'.heap.size) -> (t.scalar = false -> CellR P w' (fun _ => False) B' (t, true) v) ->
    ∃ M', M'.ok = M.ok /\ Rel P E M' (S.map (rewrite id x.g (.sl e z (l.set i.toNat (setEl P e (l.getD i.toNat .bad) off [t]))) x.g true)) a w' := by
 have hB := hR.inv.base
 obtain ⟨ad, n, cap, e', z', l', hG, hx', h0, hin, hoff, hcell, hyt⟩ := hL
 rw [hx] at hx'
 cases hx'
 obtain ⟨o1, o2, o3⟩ := hG.own id ho
 rw [hx] at o3
 obtain ⟨cs, q1, q2, q3, q4⟩ := o3
 have hsep := hG.sep hs
 have hrd := hG.rd
 rw [hx] at hsep hrd
 have hnl : i.toNat < n := by omega
 cases hsep with
 | scalar _ _ _ h => simp [T.scalar] at h
 | sl _ _ _ _ _ _ _ cur te c Bs hn hb hsp hh hf hown hc hsub hdis hr =>
 cases hrd with
 | sl _ _ _ _ _ _ c2 hn2 hz2 hm2 hcap2 hnc2 hsz2 hok2 hp2 hr2 =>
 obtain ⟨ad', e1, hav, hc2⟩ := hp2 (by omega)
 cases e1
 have hmul : ∀ i' j, i' < n -> j < szOf P e -> i' * szOf P e + j < n * szOf P e := fun i' j hi' hj => by
  have : (i' + 1) * szOf P e <= n * szOf P e := Nat.mul_le_mul_right _ hi'
  rw [Nat.add_mul, Nat.one_mul] at this
  omega
 have hcc : ∀ q, q < n * szOf P e -> c2 q = c q := fun q hq => by
  have h1 := hc q hq
  rw [hc2 q hq] at h1
  exact Option.some.inj h1
 let q0 := i.toNat * szOf P e + off
 have hq0 : q0 < n * szOf P e := hmul _ _ hnl hoff
 have hv : c q0 = v := by
  have h1 := hc q0 hq0
  rw [hcell] at h1
  exact (Option.some.inj h1).symm
 have hS0 := hr i.toNat off hnl hoff
 have hR0 := hr2 i.toNat off hnl hoff
 rw [hcc _ hq0] at hR0
 rw [show c (i.toNat * szOf P e + off) = v from hv, <- hyt] at hS0 hR0
 have hysc := qjC hy
 have hlt : i.toNat < l.length := by omega
 have hmem : l.getD i.toNat .bad ∈ l := by rw [List.getD_eq_getElem?_getD, List.getElem?_eq_getElem hlt]; simp
 have hokx := hok2 _ hmem
 have hoky := (qcd hokx).2 off ty hty
 rw [<- hyt] at hoky
 refine ⟨Bs q0, ?_, fun b hb => (hsub q0 b hb).1, ?_⟩
 ·unfold CellR
  simp only [hysc, Bool.not_false, Bool.and_self]
  exact ⟨hR0.inside hS0, hS0, qhZ hS0 hy⟩
 intro w' t B' hokt hos htape hout hsize hblock hB' hcell'
 have htsc := qke hoky hy hokt
 replace hcell' := hcell' htsc
 unfold CellR at hcell'
 simp only [htsc, Bool.not_false, Bool.and_self] at hcell'
 obtain ⟨k1, k2, k3⟩ := hcell'
 have hbin : ∀ b, Bs q0 b -> inside M x.g b := fun b hb => (hsub q0 b hb).1
 let M' := M.parted w id B'
 have β' : ∀ {r b}, M'.β r b -> M.β r b ∨ (r = id /\ w.heap.size <= b /\ B' b) := fun h => h
 have hsm : ∀ b, b < w.heap.size -> (∀ r ∈ x.g, ¬ M.β r b) -> w'.heap[b]? = w.heap[b]? := fun b hb hr => hblock b hb fun hq => by
  obtain ⟨r, h1, h2⟩ := hbin b hq
  exact hr r h1 h2
 have TT : Turn M M' w w' (id :: x.g) := by
  refine ⟨rfl, fun r hr => ?_, fun r _ => qdj rfl rfl r, fun r b hr hb hlt => ?_, fun b hb hr _ => hsm b hb fun r hm => hr r (by simp [hm]), hsize⟩
  ·simp only [List.mem_cons, not_or] at hr
   funext b
   exact propext ⟨fun h => (β' h).resolve_right fun h => hr.1 h.1, .inl⟩
  ·rcases β' hb with h | h
   ·exact ⟨r, hr, h⟩
   ·omega
 have hβin : ∀ b, B' b -> M'.β id b ∨ Bs q0 b := fun b hb => by
  rcases (hB' b hb).1 with h | h
  ·exact .inl (.inr ⟨rfl, h, hb⟩)
  ·exact .inr h
 have hBM : Base E M' w' := by
  refine ⟨hos.trans hB.os, htape.trans hB.tape, hout.trans hB.output, Nat.le_trans hB.size hsize, fun b hb hu => ?_, fun r s b hr hs => ?_, fun r b hr => ?_, fun r b hr => ?_, fun q b hq => .inl (hB.bxβ q b hq), fun r b hr => ?_, hB.okN, hB.pin⟩
  ·rw [hblock b (Nat.lt_of_lt_of_le hb hB.size) fun hq => ?_]
   ·exact hB.old b hb hu
   ·obtain ⟨r, _, h2⟩ := hbin b hq
    rcases hB.new r b h2 with h | h
    ·omega
    ·exact hu h
  ·rcases β' hr with p1 | ⟨p1, p1', _⟩ <;> rcases β' hs with p2 | ⟨p2, p2', _⟩
   ·exact hB.dis _ _ _ p1 p2
   ·have := hB.lt r b p1; omega
   ·have := hB.lt s b p2; omega
   ·rw [p1, p2]
  ·rcases β' hr with p1 | ⟨_, _, p1⟩
   ·exact Nat.lt_of_lt_of_le (hB.lt _ _ p1) hsize
   ·exact (hB' b p1).2
  ·rcases β' hr with p1 | ⟨_, p1, _⟩
   ·exact hB.new _ _ p1
   ·exact .inl (Nat.le_trans hB.size p1)
  ·rcases β' hr with p1 | ⟨_, p1, _⟩
   ·exact hB.okβ _ _ p1
   ·exact hB.okN.1 b (Nat.le_trans hB.size p1)
 have hins : ∀ b, inside M x.g b -> inside M' x.g b := fun b ⟨r, h1, h2⟩ => ⟨r, h1, .inl h2⟩
 have hinsB : ∀ b, B' b -> inside M' x.g b := fun b hb => by
  rcases hβin b hb with h | h
  ·exact ⟨id, o1, h⟩
  ·exact hins b (hbin b h)
 have havI : ∀ b, inside M' x.g b -> avoid M' w' x.g b := fun b ⟨r, h1, h2⟩ => qby hBM.okβ hBM.dis h1 h2 (hBM.lt _ _ h2)
 -- the row itself
 have hadb : ∀ b, Value.ownBlock (.slice (some ad) n cap) = some b -> ad.block = b := fun b hb => by simpa [Value.ownBlock] using hb
 have hbl : ad.block < w.heap.size := (Array.getElem?_eq_some_iff.1 hh).1
 have hrow : w'.heap[ad.block]? = w.heap[ad.block]? := hblock _ hbl fun hq => (hsub q0 _ hq).2 rfl
 have hneB : ∀ b, B' b -> b ≠ ad.block := fun b hb e => by
  rcases (hB' b hb).1 with h | h
  ·omega
  ·exact (hsub q0 b h).2 e
 have hcsq : ∀ q, q < n * szOf P e -> cs.getD q undef = c q := fun q hq => by
  rcases q1.2 with ⟨h, _⟩ | ⟨b', cap', cur', h, _⟩
  ·simp at h
  ·have q1' := q1
   rw [hn] at q1'
   have h1 := q1'.cellAt' q hq
   have h2 := hc q hq
   rw [h1] at h2
   rw [List.getD_eq_getElem?_getD, h2]
   rfl
 obtain ⟨s1, s2, s3⟩ := qfW (off := off) (ys := [t]) (ts := [ty]) hokx (by simp [oks, hokt]) (by
  apply List.ext_getElem?
  intro j
  simp only [List.length_singleton, List.getElem?_take, List.getElem?_drop]
  cases j with
  | zero => simpa using hty
  | succ j => simp) (by simp)
 have sk : ∀ i' j, ((l.set i.toNat (setEl P e (l.getD i.toNat .bad) off [t])).getD i' .bad).cells.getD j .bad = if i' = i.toNat /\ j = off then t else (l.getD i' .bad).cells.getD j .bad := fun i' j => by
  by_cases hii : i' = i.toNat
  ·subst hii
   have e1 : (l.set i.toNat (setEl P e (l.getD i.toNat .bad) off [t])).getD i.toNat .bad = setEl P e (l.getD i.toNat .bad) off [t] := by simp [List.getD_eq_getElem?_getD, hlt]
   have s4 := qdg T.bad (l.getD i.toNat .bad).cells [t] off s3 j
   rw [e1, s2, s4]
   by_cases hj : j = off
   ·subst hj; simp
   ·rw [if_neg (by simp; omega), if_neg (by simp [hj])]
  ·rw [if_neg fun h => hii h.1]
   congr 2
   simp [List.getD_eq_getElem?_getD, List.getElem?_set, Ne.symm hii]
 have hqq : ∀ i' j, i' < n -> j < szOf P e -> i' * szOf P e + j = q0 -> i' = i.toNat /\ j = off := fun i' j hi' hj he => by
  have he' : i' * szOf P e + j = i.toNat * szOf P e + off := he
  have hii : i' = i.toNat := by
   rcases Nat.lt_trichotomy i' i.toNat with h | h | h
   ·have : (i' + 1) * szOf P e <= i.toNat * szOf P e := Nat.mul_le_mul_right _ h
    rw [Nat.add_mul, Nat.one_mul] at this
    omega
   ·exact h
   ·have : (i.toNat + 1) * szOf P e <= i' * szOf P e := Nat.mul_le_mul_right _ h
    rw [Nat.add_mul, Nat.one_mul] at this
    omega
  subst hii
  exact ⟨rfl, by omega⟩
 have hkeep : ∀ q, q ≠ q0 -> Same (Bs q) w w' := fun q hq b hb => by
  obtain ⟨r, _, hβ⟩ := (hsub q b hb).1
  exact hblock b (hB.lt _ _ hβ) fun h => hq (hdis _ _ b hb h)
 have hnew : VrG P M' w' ⟨.sl e z (l.set i.toNat (setEl P e (l.getD i.toNat .bad) off [t])), x.g, true, some id⟩ (.slice (some ad) n cap) := by
  refine qcK (cs := cs) hBM.okβ hBM.dis q2 (hsz2 (by omega)) (fun y' hy' => ?_) (by rw [List.length_set]; exact qdO q1 hrow) o1 (fun b hb => .inl (q3 b hb)) (by rw [qdj rfl rfl]; exact o2) (by rw [hz2]; simp) (fun i' j hi' hj => ?_) (fun _ => ⟨fun q b => if q = q0 then B' b else Bs q b, fun q b hb => ?_, fun q q' b hb hb' => ?_, fun i' j hi' hj => ?_⟩)
  ·rcases List.mem_or_eq_of_mem_set hy' with h | rfl
   ·exact hok2 _ h
   ·exact s1
  ·rw [List.length_set, hn] at hi'
   rw [hcsq _ (hmul i' j hi' hj), sk]
   by_cases hc0 : i' = i.toNat /\ j = off
   ·rw [if_pos hc0, hc0.1, hc0.2, show c (i.toNat * szOf P e + off) = v from hv]
    exact k1.keep (fun _ _ => rfl) fun b hb => ⟨havI b (hinsB b hb), fun he => hneB b hb (hadb b he).symm⟩
   ·rw [if_neg hc0]
    have h1 := hr2 i' j hi' hj
    rw [hcc _ (hmul i' j hi' hj)] at h1
    exact (h1.inside (hr i' j hi' hj)).keep (hkeep _ fun he => hc0 (hqq i' j hi' hj he)) fun b hb => ⟨havI b (hins b (hsub _ b hb).1), fun he => (hsub _ b hb).2 (hadb b he).symm⟩
  ·dsimp only at hb
   by_cases hq : q = q0
   ·rw [if_pos hq] at hb
    exact ⟨hinsB b hb, fun he => hneB b hb (hadb b he).symm⟩
   ·rw [if_neg hq] at hb
    exact ⟨hins b (hsub _ b hb).1, fun he => (hsub _ b hb).2 (hadb b he).symm⟩
  ·dsimp only at hb hb'
   have hx : ∀ q, q ≠ q0 -> ∀ b, B' b -> Bs q b -> False := fun q hq b h1 h2 => by
    rcases (hB' b h1).1 with h | h
    ·obtain ⟨r, _, hβ⟩ := (hsub q b h2).1
     have := hB.lt _ _ hβ
     omega
    ·exact hq (hdis _ _ b h2 h)
   by_cases hq : q = q0 <;> by_cases hq' : q' = q0
   ·rw [hq, hq']
   ·rw [if_pos hq] at hb; rw [if_neg hq'] at hb'
    exact (hx q' hq' b hb hb').elim
   ·rw [if_neg hq] at hb; rw [if_pos hq'] at hb'
    exact (hx q hq b hb' hb).elim
   ·rw [if_neg hq] at hb; rw [if_neg hq'] at hb'
    exact hdis _ _ b hb hb'
  ·rw [List.length_set, hn] at hi'
   rw [hcsq _ (hmul i' j hi' hj), sk]
   by_cases hc0 : i' = i.toNat /\ j = off
   ·rw [if_pos hc0, hc0.1, hc0.2, show c (i.toNat * szOf P e + off) = v from hv]
    exact k2.mono fun b hb => by show (if _ then _ else _); rw [if_pos rfl]; exact hb
   ·rw [if_neg hc0]
    have hq : i' * szOf P e + j ≠ q0 := fun he => hc0 (hqq i' j hi' hj he)
    exact ((hr i' j hi' hj).keep (hkeep _ hq)).mono fun b hb => by show (if _ then _ else _); rw [if_neg hq]; exact hb
 have hel : ∀ b, (M.hd id).ownBlock = some b -> ∃ cur e', w.heap[b]? = some (.cells cur e' (0, 0)) /\ elOf (.sl e z (l.set i.toNat (setEl P e (l.getD i.toNat .bad) off [t]))) = some e' := fun b hb => by
  rcases q1.2 with ⟨h, _⟩ | ⟨b', cap', cur', h, _, hh', _⟩
  ·simp at h
  ·rw [o2, h] at hb
   have : b' = b := by simpa [Value.ownBlock] using hb
   subst this
   exact ⟨cur', e, hh', rfl⟩
 have F : Car P M M' w w' (rewrite id x.g (.sl e z (l.set i.toNat (setEl P e (l.getD i.toNat .bad) off [t]))) x.g true) := Car.rewriteG TT hB (by rw [o2]; exact hnew) hel
 obtain ⟨h1, h2⟩ := hR.car F TT fun _ => rfl
 refine ⟨M', rfl, hBM.inv fun q y hy => h2 q y (fun hm => ?_) hy, hR.defers, by rw [hR.size]; simp [St.map], h1⟩
 have hm' : Id.b q ∈ x.g := by
  rcases List.mem_cons.1 hm with h | h
  ·rw [h]; exact o1
  ·exact h
 have := List.all_eq_true.1 hnb _ hm'
 simp [notB] at this
theorem qdT : ∀ {o : List (T × Bool)}, o.all (·.2) = true -> (o.map (·.1)).map (fun t => (t, true)) = o
 | [], _ => rfl
 | (t, b) :: o, h => by
  simp only [List.all_cons, Bool.and_eq_true] at h
  obtain ⟨rfl, h⟩ := h
  exact congrArg ((t, true) :: ·) (qdT h)
theorem qfe {res : Res} {m : Int} {o : List (T × Bool)} (h1 : res.rets = [.vals false [(.int .i64 m, true)]]) (h2 : res.outs = [o]) (h3 : o.all (·.2) = true) : res = markRes (o.map (·.1)) m := by
 obtain ⟨a, b⟩ := res
 simp only at h1 h2
 subst h1 h2
 simp only [markRes]
 rw [qdT h3]
theorem qdI : ∀ l : List T, ((l.map fun t => (t, true)).map (·.1)) = l
 | [] => rfl
 | x :: xs => congrArg (x :: ·) (qdI xs)
theorem qiX {x : V} {v : Value} (h : VrG P M w x v) (hl : lentV x = true) : agOf x.t = false /\ x.t.cells = [x.t] := by
 unfold lentV at hl
 cases hs : x.t.scalar with
 | true => cases hx : x.t <;> first | exact ⟨rfl, rfl⟩ | (rw [hx] at hs; simp [T.scalar] at hs)
 | false =>
  rw [hs] at hl
  obtain ⟨id, h1, _, _⟩ := qaZ (by simpa using hl : owned x = true)
  have := (h.own id h1).2.2
  cases hx : x.t <;> rw [hx] at this <;> first | exact this.elim | exact ⟨rfl, rfl⟩
theorem qfl (hC : SoundC P C) {o : Oper} {f s y : Operand} {ts : Array TypeId} {g : FuncId} {args : Array Operand} (ho : o.op = .call { callee := .value f, args := args, argTypes := ts }) (ha : args = #[s, y]) (hR : Rel P E M S a w)
  (hfe : a.eval f = .func (.func g) #[] #[]) {n : Int} (hy : a.eval y = .int .i64 n) {ag : Bool} {l : List V} {us : Array Value} (hl : VrL P M w l us) (hs : a.eval s = (match ag with | true => .agg us | false => us.getD 0 undef)) (h1 : ag = false -> l.length = 1)
  {K : St -> Option R} {r : R} (h : (lendSt P S o.dst g ag l n).go C K = some r) : StepR P E M a w o K r := by
 intro next Q hn
 unfold lendSt at h
 obtain ⟨c, h2⟩ := qh h
 clear h
 simp only [Bool.and_eq_true, Bool.not_eq_true'] at c
 obtain ⟨⟨⟨⟨c1, c2⟩, c3⟩, c4⟩, c5⟩ := c
 simp only [Tr.go] at h2
 obtain ⟨x0, hx0, h3⟩ := Option.bind_eq_some_iff.1 h2
 have hres := Ans.val_some hx0
 generalize (C _ _).enc x0 = res at hres h3
 clear h2
 split at h3
 ·rename_i m oo hrets houts
  obtain ⟨c6, h4⟩ := qh h3
  clear h3
  simp only [Bool.and_eq_true] at c6
  rw [qfe hrets houts c6.2] at hres
  have hmk := (hC.2 g).1 _ n _ m hres
  have hform : agOf (lendT ag l) = ag /\ (lendT ag l).cells = l.map (·.t) := by
   cases ag with
   | true => exact ⟨rfl, rfl⟩
   | false =>
    match l, h1 rfl, hl, c2, c3 with
    | [x], _, hl, c2, c3 =>
     have hv := hl.2 0 (by simp) (qbZ c2 (i := 0) (by simp))
     exact qiX (by simpa using hv) (by simpa using c3)
  rw [hform.1, hform.2] at hmk
  have hB := hR.inv.base
  have hcall := hmk w us (lentC M l) (by rw [hl.1]; simp) (fun j hj => qfd hl c3 c2 (by simpa using hj)) (fun j b hb => by
   obtain ⟨r, _, h2⟩ := qaG hb
   exact hB.lt _ _ h2) (qgf hB c4) ⟨hR.inv.gl.1, fun b hb => ⟨((hR.inv.gl.2 b hb).2 []).1, fun j hj => by
   obtain ⟨r, _, h2⟩ := qaG hj
   exact (hR.inv.gl.2 b hb).1 r h2⟩⟩
  have hargs : args.map a.eval ++ #[] = #[(match ag with | true => Value.agg us | false => us.getD 0 undef), .int .i64 n] := by
   rw [ha]
   simp [hs, hy]
  unfold Oper.wp
  rw [qao ho hfe c1, hargs]
  unfold Oper.upon
  refine Calls.mono hcall fun e w' ⟨he, p1, p2, p3, p4, p5, cs', p6, p7, p8⟩ => ?_
  subst he
  show next (a.put o.dst (.int .i64 m)) w'
  have hR' := qgv (o := oo) hR hl c4 c5 c6.1 c2 p1 p2 p3 p4 p5 p6 p7 (fun j hj hs => p8 j (by have := (qbf c6.1).1; simp; omega) hs)
  exact hn (M.lent l cs') _ _ w' (qj h4) rfl (hR'.put o.dst _ _ (vr_s (A := fun _ => True) (.int .i64 m) rfl))
 ·exact (qg h3).elim
theorem qhU {res : Res} {o : List (T × Bool)} (h1 : res.rets = []) (h2 : res.outs = [o]) (h3 : o.all (·.2) = true) : res = sortRes (o.map (·.1)) := by
 obtain ⟨a, b⟩ := res
 simp only at h1 h2
 subst h1 h2
 simp only [sortRes]
 rw [qdT h3]
theorem qig (hC : SoundC P C) {o : Oper} {f s : Operand} {ts : Array TypeId} {g : FuncId} {args : Array Operand} (ho : o.op = .call { callee := .value f, args := args, argTypes := ts }) (ha : args = #[s]) (hR : Rel P E M S a w)
  (hfe : a.eval f = .func (.func g) #[] #[]) {x : V} (hs : Vr P M w x (a.eval s))
  {K : St -> Option R} {r : R} (h : (sortSt P S o.dst g x).go C K = some r) : StepR P E M a w o K r := by
 intro next Q hn
 unfold sortSt at h
 obtain ⟨c, h2⟩ := qh h
 clear h
 simp only [Bool.and_eq_true, Bool.not_eq_true'] at c
 obtain ⟨⟨⟨⟨c1, c2⟩, c3⟩, c4⟩, c5⟩ := c
 simp only [Tr.go] at h2
 obtain ⟨x0, hx0, h3⟩ := Option.bind_eq_some_iff.1 h2
 have hres := Ans.val_some hx0
 generalize (C _ _).enc x0 = res at hres h3
 clear h2
 split at h3
 ·rename_i oo hrets houts
  obtain ⟨c6, h4⟩ := qh h3
  clear h3
  simp only [Bool.and_eq_true] at c6
  rw [qhU hrets houts c6.2] at hres
  have hmk := (hC.2 g).2.1 _ _ hres
  have hl : VrL P M w [x] #[a.eval s] := ⟨rfl, fun i hi => by
   obtain rfl : i = 0 := by simpa using hi
   exact hs⟩
  have hbad : [x].any (·.t.isBad) = false := by simpa using c2
  have hlent : [x].all lentV = true := by simpa using c3
  have hB := hR.inv.base
  have hcall := hmk w #[a.eval s] (lentC M [x]) (by simp) (fun j hj => qfd hl hlent hbad (by simpa using hj)) (fun j b hb => by
   obtain ⟨r, _, h2⟩ := qaG hb
   exact hB.lt _ _ h2) (qgf hB c4) ⟨hR.inv.gl.1, fun b hb => ⟨((hR.inv.gl.2 b hb).2 []).1, fun j hj => by
   obtain ⟨r, _, h2⟩ := qaG hj
   exact (hR.inv.gl.2 b hb).1 r h2⟩⟩
  have hargs : args.map a.eval ++ #[] = #[(#[a.eval s] : Array Value).getD 0 undef] := by
   rw [ha]
   simp
  unfold Oper.wp
  rw [qao ho hfe c1, hargs]
  unfold Oper.upon
  refine Calls.mono hcall fun e w' ⟨he, p1, p2, p3, p4, p5, cs', p6, p7, p8⟩ => ?_
  subst he
  show next (a.put o.dst (.tuple #[])) w'
  have hR' := qgv (o := oo) hR hl c4 c5 c6.1 hbad p1 p2 p3 p4 p5 p6 p7 (fun j hj hs => p8 j (by have := (qbf c6.1).1; simp; omega) hs)
  exact hn (M.lent [x] cs') _ _ w' (qj h4) rfl (hR'.put o.dst _ _ ⟨#[], rfl, rfl, by simp⟩)
 ·rename_i e' k' z' l' hrets houts
  unfold cutGo at h3
  split at h3
  rotate_left
  ·exact (qg h3).elim
  rename_i id e k z l d hown hxt hd
  obtain ⟨c6, h4⟩ := qh h3
  clear h3
  simp only [Bool.and_eq_true, beq_iff_eq, Bool.not_eq_true'] at c6
  obtain ⟨⟨⟨⟨i1, i2⟩, rfl⟩, rfl⟩, i5⟩ := c6
  have hx := hs (by rw [hxt]; simp)
  obtain ⟨o1, o2, o3⟩ := hx.own id hown
  have hrx := hx.rd
  rw [hxt] at o3 hrx hres
  obtain ⟨_, _, _, _, _, hzx⟩ := qaK hrx
  have hB := hR.inv.base
  have hform : res = cutRes (.nums e k z' l') := by
   obtain ⟨p, q⟩ := res
   simp only at hrets houts
   rw [hrets, houts]
   rfl
  rw [hform] at hres
  have hcall := (hC.2 g).2.2 _ _ _ _ _ _ hres w (a.eval s) o3.1 hzx i5 ⟨hR.inv.gl.1, fun b hb => ⟨((hR.inv.gl.2 b hb).2 []).1, fun hj => (hR.inv.gl.2 b hb).1 id (o3.2.2 b hj)⟩⟩
  have hargs : args.map a.eval ++ #[] = #[a.eval s] := by
   rw [ha]
   simp
  unfold Oper.wp
  rw [qao ho hfe c1, hargs]
  unfold Oper.upon
  refine Calls.mono hcall fun y w' ⟨v', he, p1, p2, p3, p4⟩ => ?_
  subst he
  show next (a.put o.dst v') w'
  rw [hd]
  have hR' := hR.grown (d := d) (mg := []) (t := .val ⟨.nums e k z' l', [id], true, some id⟩) (v := a.eval s) (v' := v') ⟨p1, p2, fun b hb => (p3.lt b hb).2⟩ o3.2.2 i2 i1 (by simp) fun hB' => fun _ => qaH hB'.okβ hB'.dis i5 p3 (by simp) (fun b hb => by simp [Mdl.join, hb]) (by rw [qdh i1, if_pos rfl]) p4
  exact hn (M.join id [] v') _ _ w' (qj h4) rfl hR'
 ·exact (qg h3).elim
theorem qhV (hC : SoundC P C) {o : Oper} {f s y : Operand} {ts : Array TypeId} {g : FuncId} {args : Array Operand} (ho : o.op = .call { callee := .value f, args := args, argTypes := ts }) (ha : args = #[s, y]) (hR : Rel P E M S a w)
  (hfe : a.eval f = .func (.func g) #[] #[]) {n : Int} (hy : a.eval y = .int .i64 n) {p x : V} {i : Int} {off : Nat} (hs : TVr P M w (.pt p x i off) (a.eval s))
  {K : St -> Option R} {r : R} (h : (partSt P S o.dst g p x i off n).go C K = some r) : StepR P E M a w o K r := by
 intro next Q hn
 unfold partSt at h
 split at h
 ·rename_i id e z l hown hxt
  obtain ⟨c, h2⟩ := qh h
  clear h
  simp only [Bool.and_eq_true] at c
  obtain ⟨⟨⟨c1, c2⟩, c3⟩, c4⟩ := c
  simp only [Tr.go] at h2
  obtain ⟨x0, hx0, h3⟩ := Option.bind_eq_some_iff.1 h2
  have hres := Ans.val_some hx0
  generalize (C _ _).enc x0 = res at hres h3
  clear h2
  split at h3
  rotate_left
  ·exact (qg h3).elim
  rename_i m t hrets houts
  have hres' : res = markRes [t] m := qfe hrets houts rfl
  rw [hres'] at hres
  have hmk := (hC.2 g).1 _ n _ m hres
  have hag : agOf p.t = false /\ p.t.cells = [p.t] := by cases hp : p.t <;> rw [hp] at c4 <;> first | exact ⟨rfl, rfl⟩ | simp [rowT] at c4
  rw [hag.1, hag.2] at hmk
  obtain ⟨c6, h4⟩ := qh h3
  clear h3
  split at c6
  ·rename_i ty hty
   have hL := hs.2 (by rw [hxt]; simp)
   obtain ⟨B, b1, b2, b3⟩ := qjn hR hL hown hxt c2 c3 c4 hty
   have hB := hR.inv.base
   have hcall := hmk w #[a.eval s] (fun j b => j = 0 /\ B b) rfl (fun j hj => by
    obtain rfl : j = 0 := by simpa using hj
    have e0 : (fun b => (0 : Nat) = 0 /\ B b) = B := by funext b; simp
    rw [e0]
    exact b1) (fun j b hb => by
    obtain ⟨r, _, h2⟩ := b2 b hb.2
    exact hB.lt _ _ h2) (fun i j b hi hj => by rw [hi.1, hj.1]) ⟨hR.inv.gl.1, fun b hb => ⟨((hR.inv.gl.2 b hb).2 []).1, fun j hj => by
    obtain ⟨r, _, h2⟩ := b2 b hj.2
    exact (hR.inv.gl.2 b hb).1 r h2⟩⟩
   have hargs : args.map a.eval ++ #[] = #[(match false with | true => Value.agg #[a.eval s] | false => (#[a.eval s] : Array Value).getD 0 undef), .int .i64 n] := by
    rw [ha]
    simp [hy]
   unfold Oper.wp
   rw [qao ho hfe c1, hargs]
   unfold Oper.upon
   refine Calls.mono hcall fun e' w' ⟨he, p1, p2, p3, p4, p5, cs', p6, p7, p8⟩ => ?_
   subst he
   show next (a.put o.dst (.int .i64 m)) w'
   obtain ⟨M', hM', hR'⟩ := b3 w' t (cs' 0) c6 p1 p2 p3 p4 (fun b hb hnb => p5 b hb fun j hj => hnb hj.2) (fun b hb => ⟨(p6 0 b hb).1.imp (fun h => h) fun ⟨j, hj⟩ => hj.2, (p6 0 b hb).2⟩) (fun hs => p8 0 (by simp) hs)
   exact hn M' _ _ w' (qj h4) hM' (hR'.put o.dst _ _ (vr_s (A := fun _ => True) (.int .i64 m) rfl))
  ·simp at c6
 ·exact (qg h).elim
theorem qiA (hC : SoundC P C) {o : Oper} {f : Operand} {args : Array Operand} {ts : Array TypeId} {x : V} {g : FuncId} (ho : o.op = .call { callee := .value f, args := args, argTypes := ts }) (hR : Rel P E M S a w)
  (hf : ev P S 0 f = .val x) (hx : x.t = .fn g []) {K : St -> Option R} {r : R} (h : (markSt P S o.dst g ts.toList args.toList).go C K = some r) : StepR P E M a w o K r := by
 have hfr := ev_r hR 0 f
 rw [hf] at hfr
 have hfv := (hfr (by rw [hx]; simp)).rd
 rw [hx] at hfv
 have hfe : a.eval f = .func (.func g) #[] #[] := by
  generalize a.eval f = fv at hfv
  cases hfv with
  | fn _ cvs _ hcn hcr =>
  have : cvs = #[] := Array.eq_empty_of_size_eq_zero hcn
  rw [this]
 unfold markSt at h
 split at h
 ·rename_i s hargs
  have ha : args = #[.tmp s] := by rw [<- Array.toArray_toList (xs := args), hargs]
  have hs := hR.tmps s
  split at h
  ·rename_i x' e1
   rw [e1] at hs
   exact qig hC ho ha hR hfe hs h
  ·exact (qg h).elim
 ·rename_i s y hargs
  have ha : args = #[.tmp s, y] := by rw [<- Array.toArray_toList (xs := args), hargs]
  have hs := hR.tmps s
  split at h
  ·rename_i p x' i off b e1 e2
   split at h
   ·rename_i n hb
    rw [e1] at hs
    have hyr := ev_r hR (ts.toList.getD 1 0) y
    rw [e2] at hyr
    exact qhV hC ho ha hR hfe (qy hyr hb) hs h
   ·exact (qg h).elim
  ·rename_i x' b e1 e2
   split at h
   ·rename_i n hb
    rw [e1] at hs
    have hyr := ev_r hR (ts.toList.getD 1 0) y
    rw [e2] at hyr
    refine qfl (ag := false) (us := #[a.tmps.getD s undef]) hC ho ha hR hfe (qy hyr hb) ⟨rfl, fun i hi => ?_⟩ rfl (fun _ => rfl) h
    obtain rfl : i = 0 := by simpa using hi
    exact hs
   ·exact (qg h).elim
  ·rename_i l b e1 e2
   split at h
   ·rename_i n hb
    rw [e1] at hs
    have hyr := ev_r hR (ts.toList.getD 1 0) y
    rw [e2] at hyr
    obtain ⟨us, hv, hl⟩ := hs
    exact qfl (ag := true) (us := us) hC ho ha hR hfe (qy hyr hb) hl hv (fun h => by simp at h) h
   ·exact (qg h).elim
  ·exact (qg h).elim
 ·exact (qg h).elim
end
section
variable {P : Program} {M M' : Mdl} {w w' : World} {S : St} {a : Act} {E : Env} {C : CallSem} {R : Type}
theorem qcx (hC : SoundC P C) {o : Oper} (hR : Rel P E M S a w) (hm : makes o = true -> S.has (ofSite (o.dst.getD 0)) = false) {K : St -> Option R} {r : R} (h : ((quiet P S o).bind fun v => .ret (S.put o.dst v)).go C K = some r) : StepR P E M a w o K r := by
 intro next Q hn
 rw [qcg] at h
 exact qbP hC hR hm h next Q fun M' tv v w' h1 h2 h3 h4 => hn M' _ _ w' (qj h1) h2 (h3.put o.dst tv v h4)
theorem qct (hC : SoundC P C) {o : Oper} (hR : Rel P E M S a w) {K : St -> Option R} {r : R} (h : (step P S o).go C K = some r) : StepR P E M a w o K r := by
 unfold step at h
 split at h
 ·rename_i t ho
  split at h
  ·rename_i d hd
   exact qho ho hd hR h
  ·exact (qg h).elim
 ·rename_i t x ho
  split at h
  ·rename_i d vs hd hv
   exact qiN ho hd hR hv h
  ·exact (qg h).elim
 ·rename_i t p x ho
  split at h
  ·rename_i vs hd hv
   exact qhB ho hd hR hv h
  ·exact (qg h).elim
 ·rename_i args ts ho
  split at h
  ·rename_i x y d ha hd
   split at h
   ·rename_i va vb e1 e2
    exact qgA ho ha hd hR e1 e2 h
   ·exact (qg h).elim
  ·exact (qg h).elim
 ·rename_i args ts ho
  split at h
  ·rename_i x y ha
   split at h
   ·rename_i vb e2
    obtain ⟨c, h1⟩ := qh h
    exact qio ho ha hR (of_decide_eq_true c) e2 h1
   ·exact (qg h).elim
  ·exact (qg h).elim
 ·rename_i f args ts ho
  split at h
  ·rename_i x e
   split at h
   ·rename_i g caps hx
    split at h
    ·rename_i hm
     simp only [Bool.and_eq_true, List.isEmpty_iff] at hm
     rw [hm.2] at hx
     exact qiA hC ho hR e hx h
    ·exact qhS hC ho hR e hx h
   ·exact (qg h).elim
  ·exact (qg h).elim
 ·obtain ⟨c, h1⟩ := qh h
  exact qcx hC hR (fun _ => by simpa using c) h1
 ·obtain ⟨c, h1⟩ := qh h
  exact qcx hC hR (fun _ => by simpa using c) h1
 ·refine qcx hC hR (fun hm => ?_) h
  exfalso
  unfold makes at hm
  split at hm <;> simp_all
def RelE (P : Program) (E : Env) (K : OkT) (S : St) (a : Act) (w : World) : Prop := ∃ M : Mdl, M.ok = K /\ Rel P E M S a w
theorem qiW (S : St) (d : Nat) : S.put (some d) (S.tmp d) = S := by
 unfold St.put St.tmp
 simp only
 congr 1
 rw [List.getD_eq_getElem?_getD]
 apply List.ext_getElem?
 intro i
 rw [List.getElem?_set]
 by_cases h : d = i
 ·subst h
  by_cases hl : d < S.tmps.length
  ·simp [hl]
  ·simp [hl, List.getElem?_eq_none (Nat.le_of_not_lt hl)]
 ·simp [h]
theorem qaR (ops : Array Oper) (i : Nat) (S : St) (K : St -> Option R) : decideAt ops i S K = K S := by
 unfold decideAt
 split
 ·rfl
 ·split
  ·rfl
  ·rename_i d hd
   split
   ·rename_i b g sep own he
    have := qiW S d
    rw [he] at this
    cases b
    ·simp only [cond_false, this]
    ·simp only [cond_true, this]
   ·rfl
theorem qcE (hR : Rel P E M S a w) {ops : Array Oper} {j : Nat} {y : Option Bool} (h : yieldedA S ops j = some y) : yielded ops a.tmps j = y := by
 unfold yieldedA at h
 unfold yielded
 cases hd : (ops[j]?).bind (·.dst) with
 | none => rw [hd] at h; simp at h; subst h; rfl
 | some d =>
  rw [hd] at h
  simp only at h
  have ht := hR.tmps d
  simp only [Option.bind_some]
  have e : a.tmps.getD d undef = (a.tmps[d]?).getD undef := Array.getD_eq_getD_getElem?
  rw [e] at ht
  split at h
  ·rename_i x ex
   rw [ex] at ht
   split at h
   ·rename_i b hb
    simp at h
    subst h
    have hv := qdf ht hb
    cases hdd : a.tmps[d]? with
    | none => rw [hdd] at hv; simp [undef] at hv
    | some v => rw [hdd] at hv; simp at hv; rw [hv]
   ·simp at h
  ·rename_i ex
   rw [ex] at ht
   simp at h
   subst h
   obtain ⟨vs, hv, _⟩ := ht
   cases hdd : a.tmps[d]? with
   | none => rfl
   | some v => rw [hdd] at hv; simp at hv; rw [hv]
  ·simp at h
theorem qcN : TVr P M w skipped undef := ⟨#[], rfl, rfl, fun i hi => by simp at hi⟩
theorem qbN (hC : SoundC P C) {ops : Array Oper} {Q : Exit -> Act -> World -> Prop} {ok : OkT} {K : St -> Option R} {r : R} (hK : ∀ S' a' w', K S' = some r -> RelE P E ok S' a' w' -> Q .normal a' w') :
  ∀ (l : List Nat) (S : St) (a : Act) (w : World), RelE P E ok S a w -> runOps P C ops l S K = some r -> wpOps P ops Q l a w
 | [], S, a, w, hR, h => hK S a w h hR
 | i :: rest, S, a, w, hR, h => by
  simp only [runOps] at h
  simp only [wpOps]
  obtain ⟨M, hM, hR⟩ := hR
  cases ho : ops[i]? with
  | none =>
   rw [ho] at h
   exact qbN hC hK rest S a w ⟨M, hM, hR⟩ h
  | some o =>
   rw [ho] at h
   simp only at h ⊢
   have go : (step P S o).go C (fun S' => decideAt ops i S' fun S'' => runOps P C ops rest S'' K) = some r -> o.wp P a w (wpOps P ops Q rest) Q := fun h => by
    refine qct hC hR h _ _ fun M' S' a' w' h1 h2 h3 => ?_
    rw [qaR] at h1
    exact qbN hC hK rest S' a' w' ⟨M', h2.trans hM, h3⟩ h1
   split at h
   ·rename_i hg
    have hw : Region.wanted o (yielded ops a.tmps) = true := by simp [Region.wanted, hg]
    rw [if_pos hw]
    exact .inl (go h)
   ·rename_i j want hg
    split at h
    ·simp at h
    ·rename_i y hy
     have hyy := qcE hR hy
     have hw : Region.wanted o (yielded ops a.tmps) = (y == some want) := by simp only [Region.wanted, hg, hyy]
     split at h
     ·rename_i hb
      rw [if_pos (by rw [hw, hb])]
      exact .inl (go h)
     ·rename_i hb
      rw [if_neg (by rw [hw, hb]; simp)]
      exact qbN hC hK rest _ _ w ⟨M, hM, hR.put o.dst _ _ qcN⟩ h
end
section
variable {P : Program} {S S' : St} {C : CallSem} {R : Type}
def Alike (S S' : St) (xs : List Operand) : Prop := (∀ x ∈ xs, ∀ i, x = .tmp i -> ∀ d, (S.tmp i).at d = true -> S.box d = S'.box d) /\ ∀ x ∈ xs, ∀ i, x = .tmp i -> S.tmp i = S'.tmp i
theorem qky {x : Operand} {t : TypeId} {d : Nat} (h : (ev P S t x).at d = true) : ∃ i, x = .tmp i /\ (S.tmp i).at d = true := by
 cases x with
 | tmp i =>
  refine ⟨i, rfl, ?_⟩
  simp only [ev] at h
  cases e : S.tmp i <;> rw [e] at h <;> simp_all [TV.plain, TV.at]
 | const v =>
  exfalso
  simp only [ev] at h
  unfold constTV at h
  split at h <;> simp [TV.at] at h
 | func f => simp [ev, TV.at] at h
 | global g => simp [ev, TV.at] at h
theorem qi {x : Operand} (h : ∀ i, x = .tmp i -> S.tmp i = S'.tmp i) (t : TypeId) : ev P S t x = ev P S' t x := by
 cases x with
 | tmp i => exact congrArg TV.plain (h i rfl)
 | _ => rfl
theorem qfb {xs : List Operand} (h : Alike S S' xs) {x : Operand} (hx : x ∈ xs) (t : TypeId) (d : Nat) (hd : (ev P S t x).at d = true) : S.box d = S'.box d := by
 obtain ⟨i, e, h2⟩ := qky hd
 exact h.1 x hx i e d h2
theorem qdw (place : Nat -> Option (Nat × TypeId)) : ∀ (parts : List (Nat × Operand)) (l : List V), (∀ p ∈ parts, ∀ i, p.2 = .tmp i -> S.tmp i = S'.tmp i) -> buildCells P S place l parts = buildCells P S' place l parts
 | [], l, h => rfl
 | (i, x) :: rest, l, h => by
  have ex : ∀ t, ev P S t x = ev P S' t x := fun t => qi (h (i, x) (by simp)) t
  have ih : ∀ l, buildCells P S place l rest = buildCells P S' place l rest := fun l => qdw place rest l fun p hp => h p (by simp [hp])
  simp only [buildCells, ih, ex]
theorem qeZ (e : TypeId) : ∀ (parts : List (Nat × Operand)) (n : Nat), (∀ p ∈ parts, ∀ i, p.2 = .tmp i -> S.tmp i = S'.tmp i) -> litElems P S e parts n = litElems P S' e parts n
 | [], n, h => rfl
 | (i, x) :: rest, n, h => by
  simp only [litElems]
  rw [qi (h (i, x) (by simp)) e, qeZ e rest (n + 1) fun p hp => h p (by simp [hp])]
theorem qgM (tv : TV) (hb : ∀ d, tv.at d = true -> S.box d = S'.box d) : argOf S tv = argOf S' tv := by
 cases tv with
 | bp d off => cases off with
  | zero => simp only [argOf]; rw [hb d (by simp [TV.at])]
  | succ n => rfl
 | _ => rfl
theorem qcC : ∀ (ts : List TypeId) (xs : List Operand), (∀ x ∈ xs, ∀ t d, (ev P S t x).at d = true -> S.box d = S'.box d) -> (∀ x ∈ xs, ∀ i, x = .tmp i -> S.tmp i = S'.tmp i) -> argsOf P S ts xs = argsOf P S' ts xs
 | _, [], hb, h => rfl
 | ts, x :: xs, hb, h => by
  simp only [argsOf]
  rw [qgM _ (hb x (by simp) (ts.headD 0)), qi (h x (by simp)), qcC ts.tail xs (fun y hy => hb y (by simp [hy])) fun y hy => h y (by simp [hy])]
theorem qev : ∀ (xs : List Operand), (∀ x ∈ xs, ∀ t d, (ev P S t x).at d = true -> S.box d = S'.box d) -> (∀ x ∈ xs, ∀ i, x = .tmp i -> S.tmp i = S'.tmp i) -> capsTr P S xs = capsTr P S' xs
 | [], hb, h => rfl
 | x :: xs, hb, h => by
  have hx := hb x (by simp) 0
  simp only [capsTr]
  rw [qev xs (fun y hy => hb y (by simp [hy])) fun y hy => h y (by simp [hy])]
  have e : ev P S 0 x = ev P S' 0 x := qi (h x (by simp)) 0
  rw [e] at hx ⊢
  revert hx
  generalize ev P S' 0 x = tv
  generalize capsTr P S' xs = cr
  intro hx
  cases cr with
  | none => rfl
  | some p =>
   obtain ⟨ts, g⟩ := p
   cases tv with
   | bp d off => cases off with
    | zero => simp only [hx d (by simp [TV.at])]
    | succ n => rfl
   | pp v off => cases off <;> rfl
   | _ => rfl
theorem qhI (t : TypeId) (tv : TV) (hb : ∀ d, tv.at d = true -> S.box d = S'.box d) : loadTV P S t tv = loadTV P S' t tv := by
 cases tv with
 | bp d off => simp only [loadTV]; rw [hb d (by simp [TV.at])]
 | ap d m i => simp only [loadTV]; rw [hb d (by simp [TV.at])]
 | _ => rfl
theorem qfr {o : Option Operand} (h : ∀ x, o = some x -> ∀ i, x = .tmp i -> S.tmp i = S'.tmp i) (z : Int) (K : Int -> Tr TV) : bndTr P S o z K = bndTr P S' o z K := by
 cases o with
 | none => rfl
 | some x => simp only [bndTr]; rw [qi (h x rfl)]
theorem qhX {lo hi : Option Operand} (h1 : ∀ x, lo = some x -> ∀ i, x = .tmp i -> S.tmp i = S'.tmp i) (h2 : ∀ x, hi = some x -> ∀ i, x = .tmp i -> S.tmp i = S'.tmp i) (n : Nat) (K : Nat -> Nat -> Tr TV) : cutTr P S lo hi n K = cutTr P S' lo hi n K := by
 unfold cutTr
 rw [qfr h2]
 congr 1
 funext h
 rw [qfr h1]
theorem qdy {o : Oper} (h : Alike S S' o.op.operands.toList) : quiet P S o = quiet P S' o := by
 have hb : ∀ x ∈ o.op.operands.toList, ∀ t d, (ev P S t x).at d = true -> S.box d = S'.box d := fun x hx t d => qfb h hx t d
 have ht := h.2
 unfold quiet
 cases ho : o.op <;> rw [ho] at ht hb <;> simp only [Op.operands] at ht hb
 case move x => simp only; rw [qi (ht x (by simp))]
 case assign x => simp only; rw [qi (ht x (by simp))]
 case pick c x y => simp only; rw [qi (ht c (by simp)), qi (ht x (by simp)), qi (ht y (by simp))]
 case binOp op xt x y yt => simp only; rw [qi (ht x (by simp)), qi (ht y (by simp))]
 case unOp op t x => simp only; rw [qi (ht x (by simp))]
 case convert s t x => simp only; rw [qi (ht x (by simp))]
 case extract x i => simp only; rw [qi (ht x (by simp))]
 case field t x f => simp only; rw [qi (ht x (by simp))]
 case fieldAddr s x f => simp only; rw [qi (ht x (by simp))]
 case nilCheck x => simp only; rw [qi (ht x (by simp))]
 case indexAddr t x i =>
  have hx := hb x (by simp) t
  simp only
  rw [qi (ht x (by simp)), qi (ht i (by simp))]
  have e : ev P S t x = ev P S' t x := qi (ht x (by simp)) t
  rw [e] at hx
  revert hx
  generalize ev P S' t x = tv
  generalize ev P S' 0 i = ti
  intro hx
  cases tv with
  | bp d off => cases off with
   | zero => cases ti <;> first | rfl | simp only [hx d (by simp [TV.at])]
   | succ n => cases ti <;> rfl
  | _ => cases ti <;> rfl
 case index t x i => simp only; rw [qi (ht x (by simp)), qi (ht i (by simp))]
 case load t x =>
  have hx := hb x (by simp) 0
  have e : ev P S 0 x = ev P S' 0 x := qi (ht x (by simp)) 0
  simp only
  rw [e] at hx ⊢
  split <;> first | rfl | exact qhI _ _ hx
 case slice t x lo hi mx =>
  cases mx with
  | none =>
   have hx := hb x (by simp) t
   have e : ev P S t x = ev P S' t x := qi (ht x (by simp)) t
   simp only
   rw [e] at hx ⊢
   have h1 : ∀ y, lo = some y -> ∀ i, y = .tmp i -> S.tmp i = S'.tmp i := fun y hy => ht y (by simp [hy])
   have h2 : ∀ y, hi = some y -> ∀ i, y = .tmp i -> S.tmp i = S'.tmp i := fun y hy => ht y (by simp [hy])
   simp only [qhX h1 h2]
   revert hx
   generalize ev P S' t x = tv
   intro hx
   cases tv with
   | bp d off => cases off with
    | zero => simp only [hx d (by simp [TV.at])]
    | succ n => rfl
   | pp v off => cases off <;> rfl
   | _ => rfl
  | some m => rfl
 case build t parts =>
  simp only
  have hp : ∀ p ∈ parts.toList, ∀ i, p.2 = .tmp i -> S.tmp i = S'.tmp i := fun p hp => ht p.2 (by simp; exact ⟨p.1, by simpa using hp⟩)
  simp only [qdw _ _ _ hp]
 case buildSlice t n parts =>
  simp only
  have hp : ∀ p ∈ parts.toList, ∀ i, p.2 = .tmp i -> S.tmp i = S'.tmp i := fun p hp => ht p.2 (by simp; exact ⟨p.1, by simpa using hp⟩)
  simp only [qeZ _ _ _ hp]
 case makeSlice t x y => simp only; rw [qi (ht x (by simp)), qi (ht y (by simp))]
 case makeFunc f first caps =>
  cases f with
  | func f =>
   simp only
   rw [qev _ (fun y hy => hb y (by simp at hy ⊢; exact .inr hy)) fun y hy => ht y (by simp at hy ⊢; exact .inr hy)]
  | _ => rfl
 case call c =>
  obtain ⟨callee, args, ts⟩ := c
  simp only [Call.operands] at ht hb
  have ha : ∀ x ∈ args.toList, ∀ i, x = .tmp i -> S.tmp i = S'.tmp i := fun x hx => ht x (by simp at hx ⊢; exact .inr hx)
  cases callee with
  | builtin b =>
   cases b with
   | len =>
    simp only
    split
    ·rename_i x hx
     rw [qi (ha x (by rw [hx]; simp))]
    ·rfl
   | min =>
    simp only
    split
    ·rename_i x y hx
     rw [qi (ha x (by rw [hx]; simp)), qi (ha y (by rw [hx]; simp))]
    ·rfl
   | max =>
    simp only
    split
    ·rename_i x y hx
     rw [qi (ha x (by rw [hx]; simp)), qi (ha y (by rw [hx]; simp))]
    ·rfl
   | _ => rfl
  | value f =>
   simp only
   rw [qi (ht f (by simp))]
   split
   ·split
    ·unfold callTV
     rw [qcC _ _ (fun y hy => hb y (by simp at hy ⊢; exact .inr hy)) ha]
    ·rfl
   ·rfl
  | _ => rfl
 all_goals rfl
end
end Go.Proofs.YthocpcfjfgnkgaaGreatRv
