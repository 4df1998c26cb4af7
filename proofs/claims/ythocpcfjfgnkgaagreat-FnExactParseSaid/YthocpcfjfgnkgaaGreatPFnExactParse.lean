/- What the printed forms answer, over numbers and lists alone. Each lemma names its conditions. -/
import Derived.Test.YthocpcfjfgnkgaaGreatQFnExactParse
namespace Go.Proofs.YthocpcfjfgnkgaaGreatG
open Go Go.Proofs.YthocpcfjfgnkgaaGreatRv Go.RowKit
set_option linter.unusedVariables false
set_option linter.unusedSimpArgs false
theorem Yad.ev0 (N x1 x2 x3 x4 view : Int) (z : Bool) (b : List Int) (hb : niceB b) (n : Nat) (hn : n <= 1152921504606846975) : ∀ (m i : Nat) (prev : Int) (a : Nat) (c : Int) (acc : List En), i + m = n -> a <= b.length -> acc.length = i -> (n <= 1000 ∨ c ≠ 0) ->
  Ev (fun k => Yad.l0 k (n : Int) prev (i : Int) z b (a : Int) c N x1 x2 x3 x4 view acc.isEmpty (acc.map En.t)) (view, (acc ++ (entsR b N view m prev a c).1).isEmpty, (acc ++ (entsR b N view m prev a c).1).map En.t, z, b, ((entsR b N view m prev a c).2.1 : Int), (entsR b N view m prev a c).2.2) := by
 intro m
 induction m with
 | zero =>
  intro i prev a c acc hi ha hl hc
  simp only [entsR, List.append_nil]
  refine qb ?_
  simp only [Yad.l0]
  exact qe (by omega) (qd rfl)
 | succ m ih =>
  intro i prev a c acc hi ha hl hc
  refine qb ?_
  simp only [Yad.l0, List.length_map]
  by_cases h : c = 0
  ·have hn1 : n <= 1000 := by
    rcases hc with h' | h'
    ·exact h'
    ·exact (h' h).elim
   rw [entsR, if_pos h]
   have k := qip hb N view prev ha c
   have i2 := ih (i + 1) (entR b N view prev a c).e.who (entR b N view prev a c).a (entR b N view prev a c).c (acc ++ [(entR b N view prev a c).e]) (by omega) k.2 (by simp [hl]) (.inl hn1)
   rw [List.append_assoc, List.cons_append, List.nil_append] at i2
   rw [qdA, List.map_append (l₂ := [(entR b N view prev a c).e]), List.map_cons, List.map_nil] at i2
   rw [qn i (by omega)]
   have n1 := qk hb ha c
   have e1 := Yai.ev z b hb a ha c N 5
   have n2 := qk hb n1.2 (mustR (decide ((numR b a c).1 > prev)) 6 (mustR (decide ((numR b a c).1 < N)) 5 (numR b a c).2.2))
   have e2 := Yai.ev z b hb _ n1.2 (mustR (decide ((numR b a c).1 > prev)) 6 (mustR (decide ((numR b a c).1 < N)) 5 (numR b a c).2.2)) view 6
   have e3 := Yah.ev z b hb _ n2.2 (mustR (decide ((numR b (numR b a c).2.1 (mustR (decide ((numR b a c).1 > prev)) 6 (mustR (decide ((numR b a c).1 < N)) 5 (numR b a c).2.2))).1 < view)) 6 (numR b (numR b a c).2.1 (mustR (decide ((numR b a c).1 > prev)) 6 (mustR (decide ((numR b a c).1 < N)) 5 (numR b a c).2.2))).2.2)
   exact qa (by omega) (qa h (Ev.bind e1 (Ev.bind (XD.ev _ _ _ _ _ _) (Ev.bind e2 (Ev.bind e3 (qa (by omega) i2))))))
  ·rw [entsR, if_neg h, List.append_nil]
   exact qa (by omega) (qe h (qd rfl))
theorem qhu (a n : Int) : decide (a <= n) = !decide (a > n) := by
 by_cases h : a > n
 ·rw [decide_eq_true h, decide_eq_false (by omega)]; rfl
 ·rw [decide_eq_false h, decide_eq_true (by omega)]; rfl
theorem XU.ev0 (N x1 x2 x3 x4 view : Int) (z : Bool) (b : List Int) (hb : niceB b) (n : Nat) (hn : n <= 1152921504606846975) : ∀ (m i : Nat) (prev : Int) (a : Nat) (c : Int) (acc : List En), i + m = n -> a <= b.length -> acc.length = i -> (n <= 1000 ∨ c ≠ 0) ->
  Ev (fun k => XU.l0 k (n : Int) prev (i : Int) z b (a : Int) c N x1 x2 x3 x4 view acc.isEmpty (acc.map En.t)) (view, (acc ++ (entsR b N view m prev a c).1).isEmpty, (acc ++ (entsR b N view m prev a c).1).map En.t, z, b, ((entsR b N view m prev a c).2.1 : Int), (entsR b N view m prev a c).2.2) := by
 intro m
 induction m with
 | zero =>
  intro i prev a c acc hi ha hl hc
  simp only [entsR, List.append_nil]
  refine qb ?_
  simp only [XU.l0]
  exact qe (by omega) (qd rfl)
 | succ m ih =>
  intro i prev a c acc hi ha hl hc
  refine qb ?_
  simp only [XU.l0, List.length_map]
  by_cases h : c = 0
  ·have hn1 : n <= 1000 := by
    rcases hc with h' | h'
    ·exact h'
    ·exact (h' h).elim
   rw [entsR, if_pos h]
   have k := qip hb N view prev ha c
   have i2 := ih (i + 1) (entR b N view prev a c).e.who (entR b N view prev a c).a (entR b N view prev a c).c (acc ++ [(entR b N view prev a c).e]) (by omega) k.2 (by simp [hl]) (.inl hn1)
   rw [List.append_assoc, List.cons_append, List.nil_append] at i2
   rw [qdA, List.map_append (l₂ := [(entR b N view prev a c).e]), List.map_cons, List.map_nil] at i2
   rw [qn i (by omega)]
   have n1 := qk hb ha c
   have e1 := Xr.ev z b hb a ha c
   have n2 := qk hb n1.2 (mustR (decide ((numR b a c).1 > prev)) 6 (mustR (decide ((numR b a c).1 < N)) 5 (numR b a c).2.2))
   have e2 := Xr.ev z b hb _ n1.2 (mustR (decide ((numR b a c).1 > prev)) 6 (mustR (decide ((numR b a c).1 < N)) 5 (numR b a c).2.2))
   have e3 := Yaa.ev z b hb _ n2.2 (mustR (decide ((numR b (numR b a c).2.1 (mustR (decide ((numR b a c).1 > prev)) 6 (mustR (decide ((numR b a c).1 < N)) 5 (numR b a c).2.2))).1 < view)) 6 (numR b (numR b a c).2.1 (mustR (decide ((numR b a c).1 > prev)) 6 (mustR (decide ((numR b a c).1 < N)) 5 (numR b a c).2.2))).2.2)
   exact qa (by omega) (qa h (Ev.bind e1 (Ev.bind (Xt.evd z b _ _ _ _ (qay _ _) 5) (Ev.bind (Xt.evd z b _ _ _ _ (qhu _ _) 6) (Ev.bind e2 (Ev.bind (Xt.evd z b _ _ _ _ (qay _ _) 6) (Ev.bind e3 (qa (by omega) i2))))))))
  ·rw [entsR, if_neg h, List.append_nil]
   exact qa (by omega) (qe h (qd rfl))
theorem Yad.ev (N tx txs fr hd : Int) (hN : 1 <= N /\ N <= 10) (z : Bool) (b : List Int) (hb : niceB b) (a : Nat) (ha : a <= b.length) (c : Int) : Ev (fun k => Yad.f k N tx txs fr hd z b (a : Int) c) (tcTup z b (tcR b N a c)) := by
 have w1 : wrap64 (N + 1) = N + 1 := w64 (by omega) (by omega)
 refine qb ?_
 simp only [Yad.f, w1]
 unfold tcR
 simp only
 have n1 := qk hb ha c
 have e1 := XF.ev z b hb a ha c
 generalize numR b a c = v1 at *
 have n2 := qk hb n1.2 v1.2.2
 have e2 := Yai.ev z b hb _ n1.2 v1.2.2 (N + 1) 3
 generalize numR b v1.2.1 v1.2.2 = v2 at *
 have hs : v2.1.toNat <= 1000 ∨ mustR (decide (v2.1 < N + 1)) 3 v2.2.2 ≠ 0 := by
  by_cases h : mustR (decide (v2.1 < N + 1)) 3 v2.2.2 = 0
  ·have := (qA h (by decide)).1
   have := of_decide_eq_true this
   left; omega
  ·exact .inr h
 have K := Yad.ev0 N tx txs fr hd v1.1 z b hb v2.1.toNat (by omega) v2.1.toNat 0 (-1) v2.2.1 (mustR (decide (v2.1 < N + 1)) 3 v2.2.2) [] (by omega) n2.2 rfl hs
 rw [show ((v2.1.toNat : Nat) : Int) = v2.1 by omega] at K
 exact Ev.bind e1 (Ev.bind e2 K)
theorem qgG (a n : Int) : decide (a > n) = !decide (a < n + 1) := by
 by_cases h : a < n + 1
 ·rw [decide_eq_true h, decide_eq_false (by omega)]; rfl
 ·rw [decide_eq_false h, decide_eq_true (by omega)]; rfl
theorem XU.ev (N tx txs fr hd : Int) (hN : 1 <= N /\ N <= 10) (z : Bool) (b : List Int) (hb : niceB b) (a : Nat) (ha : a <= b.length) (c : Int) : Ev (fun k => XU.f k z b (a : Int) c N tx txs fr hd) (tcTup z b (tcR b N a c)) := by
 refine qb ?_
 simp only [XU.f]
 unfold tcR
 simp only
 have n1 := qk hb ha c
 have e1 := Xr.ev z b hb a ha c
 generalize numR b a c = v1 at *
 have n2 := qk hb n1.2 v1.2.2
 have e2 := Xr.ev z b hb _ n1.2 v1.2.2
 generalize numR b v1.2.1 v1.2.2 = v2 at *
 have hs : v2.1.toNat <= 1000 ∨ mustR (decide (v2.1 < N + 1)) 3 v2.2.2 ≠ 0 := by
  by_cases h : mustR (decide (v2.1 < N + 1)) 3 v2.2.2 = 0
  ·have := (qA h (by decide)).1
   have := of_decide_eq_true this
   left; omega
  ·exact .inr h
 have K := XU.ev0 N tx txs fr hd v1.1 z b hb v2.1.toNat (by omega) v2.1.toNat 0 (-1) v2.2.1 (mustR (decide (v2.1 < N + 1)) 3 v2.2.2) [] (by omega) n2.2 rfl hs
 rw [show ((v2.1.toNat : Nat) : Int) = v2.1 by omega] at K
 exact Ev.bind e1 (Ev.bind e2 (Ev.bind (Xt.evd z b _ _ _ _ (qgG _ _) 3) K))
def headsR (b : List Int) (N : Int) : Nat -> Nat -> Int -> List Head × Nat × Int
 | 0, a, c => ([], a, c)
 | m + 1, a, c => if c = 0 then ((headR b N a c).1 :: (headsR b N m (headR b N a c).2.1 (headR b N a c).2.2).1, (headsR b N m (headR b N a c).2.1 (headR b N a c).2.2).2) else ([], a, c)
theorem qcj {b : List Int} (hb : niceB b) (N : Int) : ∀ (m : Nat) {a : Nat} (ha : a <= b.length) (c : Int), ((headsR b N m a c).1.length <= m /\ ((headsR b N m a c).2.2 = 0 -> (headsR b N m a c).1.length = m)) /\ (headsR b N m a c).2.1 <= b.length /\ ∀ x ∈ (headsR b N m a c).1, ∃ a' c', HeadRk b (x, a', c')
 | 0, a, ha, c => ⟨⟨by simp [headsR], fun _ => rfl⟩, ha, by intro x hx; simp [headsR] at hx⟩
 | m + 1, a, ha, c => by
  have k := qcf hb N ha c
  obtain ⟨h1, h2, h3⟩ := qcj hb N m k.at_ (headR b N a c).2.2
  unfold headsR
  split
  ·refine ⟨⟨by rw [List.length_cons]; omega, fun h => by rw [List.length_cons, h1.2 h]⟩, h2, fun x hx => ?_⟩
   rcases List.mem_cons.1 hx with rfl | hx
   ·exact ⟨_, _, k⟩
   ·exact h3 x hx
  ·rename_i hc
   exact ⟨⟨by simp, fun h => (hc h).elim⟩, ha, by intro x hx; simp at hx⟩
theorem qdz (b : List Int) (N : Int) (m a : Nat) {c : Int} (h : c ≠ 0) : headsR b N m a c = ([], a, c) := by
 cases m with
 | zero => rfl
 | succ m => rw [headsR, if_neg h]
theorem qdp (acc : List Head) (x : Head) : (acc ++ [x]).isEmpty = false := by simp
def proofR (b : List Int) (N hd : Int) (a : Nat) (c : Int) : Pf × Nat × Int :=
 let x := numR b a c; let t := headsR b N x.1.toNat x.2.1 (mustR (decide (x.1 <= hd)) 3 (mustR (decide (x.1 >= 3)) 5 x.2.2)); let q := qcR b N t.2.1 t.2.2
 let p : Pf := ⟨t.1.isEmpty, t.1, q.1⟩
 (p, q.2.1, mustR (closes p) 6 q.2.2)
def pfTup (z : Bool) (b : List Int) (r : Pf × Nat × Int) : Bool × List T × Int × Int × Bool × List Int × Bool × List Int × Bool × List T × Bool × List Int × Int × Int :=
 (r.1.hz, r.1.heads.map Head.t, r.1.q.v, r.1.q.h, r.1.q.bz, r.1.q.blk, r.1.q.mz, r.1.q.bits, r.1.q.tz, r.1.q.tags.map By.t, z, b, (r.2.1 : Int), r.2.2)
theorem qfp (b : List Int) : ∀ (m a : Nat) {c : Int}, c ≠ 0 -> (tagsR b m a c).2 = (a, c)
 | 0, a, c, h => rfl
 | m + 1, a, c, h => by
  have r : rawR b a c = (true, [], a, c) := by unfold rawR; rw [if_neg h]
  have ih := qfp b m a h
  unfold tagsR
  rw [r]
  exact ih
theorem qgV (b : List Int) (N : Int) (a : Nat) {c : Int} (h : c ≠ 0) : (qcR b N a c).2 = (a, c) := by
 have n : numR b a c = (0, a, c) := by unfold numR; rw [if_neg h]
 have r : rawR b a c = (true, [], a, c) := by unfold rawR; rw [if_neg h]
 unfold qcR
 simp only [n, r]
 rw [if_neg h]
theorem qfa {l : List Head} (h : 1 <= l.length) (hl : l.length <= 1048576) : wrap64 ((l.length : Int) - 1) = ((l.length - 1 : Nat) : Int) /\ ((l.map Head.t).getD (l.length - 1) .bad) = (headN l 1).t := qhQ (m := 1) h (by omega) hl
theorem YaZ.ev (p : Pf) (h : 1 <= p.heads.length) (hl : p.heads.length <= 1048576) : Ev (fun k => YaZ.f k p.hz (p.heads.map Head.t) p.q.v p.q.h p.q.bz p.q.blk p.q.mz p.q.bits p.q.tz (p.q.tags.map By.t)) (closes p) := by
 obtain ⟨w, e⟩ := qfa h hl
 refine qb ?_
 simp only [YaZ.f, List.length_map, w, Int.toNat_natCast, e, Head.c0, Head.c1]
 unfold closes
 refine qa (by omega) (qa (by omega) (qf (fun c => qd ?_) (fun c => qd ?_)))
 ·rw [decide_eq_true c, Bool.true_and]
 ·rw [decide_eq_false c, Bool.false_and]
theorem YaQ.ev (p : Pf) (h : 1 <= p.heads.length) (hl : p.heads.length <= 1048576) : Ev (fun k => YaQ.f k p.hz (p.heads.map Head.t) p.q.v p.q.h p.q.bz p.q.blk p.q.mz p.q.bits p.q.tz (p.q.tags.map By.t)) (closes p) := by
 obtain ⟨w, e⟩ := qfa h hl
 refine qb ?_
 simp only [YaQ.f, List.length_map, w, Int.toNat_natCast, e, Head.c0, Head.c1]
 unfold closes
 refine qa (by omega) (qa (by omega) (qf (fun c => qd ?_) (fun c => qd ?_)))
 ·rw [decide_eq_true c, Bool.true_and]
 ·rw [decide_eq_false c, Bool.false_and]
theorem XA.ev1 (N tx txs fr hd : Int) (hN : 1 <= N /\ N <= 10) (z : Bool) (b : List Int) (hb : niceB b) (a : Nat) (ha : a <= b.length) (c : Int) (hs : List Head) (hh : c = 0 -> 1 <= hs.length) (hl : hs.length <= 1048576) : Ev (fun k => XA.l1 k z b (a : Int) c N tx txs fr hd hs.isEmpty (hs.map Head.t)) (pfTup z b (⟨hs.isEmpty, hs, (qcR b N a c).1⟩, (qcR b N a c).2.1, mustR (closes ⟨hs.isEmpty, hs, (qcR b N a c).1⟩) 6 (qcR b N a c).2.2)) := by
 have e1 := XG.ev N tx txs fr hd hN z b hb a ha c
 have st := fun h : c ≠ 0 => qgV b N a h
 generalize qcR b N a c = q at *
 refine qb ?_
 simp only [XA.l1]
 refine Ev.bind e1 (qf (fun h => ?_) (fun h => ?_))
 ·have h : q.2.2 ≠ 0 := by simpa [qcTup] using h
  rw [qbn _ _ h]
  refine Ev.bind (XD.ev _ _ _ _ _ _) (qd ?_)
  rw [qdG]
  rfl
 ·have h : q.2.2 = 0 := by simpa [qcTup] using h
  have hc : c = 0 := by
   by_cases hc : c = 0
   ·exact hc
   ·have := st hc
    rw [this] at h
    exact h
  exact Ev.bind (YaZ.ev ⟨hs.isEmpty, hs, q.1⟩ (hh hc) hl) (Ev.bind (XD.ev _ _ _ _ _ _) (qd rfl))
theorem Xx.ev1 (N tx txs fr hd : Int) (hN : 1 <= N /\ N <= 10) (z : Bool) (b : List Int) (hb : niceB b) (a : Nat) (ha : a <= b.length) (c : Int) (hs : List Head) (hh : c = 0 -> 1 <= hs.length) (hl : hs.length <= 1048576) : Ev (fun k => Xx.l1 k z b (a : Int) c N tx txs fr hd hs.isEmpty (hs.map Head.t)) (pfTup z b (⟨hs.isEmpty, hs, (qcR b N a c).1⟩, (qcR b N a c).2.1, mustR (closes ⟨hs.isEmpty, hs, (qcR b N a c).1⟩) 6 (qcR b N a c).2.2)) := by
 have e1 := Xl.ev N tx txs fr hd hN z b hb a ha c
 have st := fun h : c ≠ 0 => qgV b N a h
 generalize qcR b N a c = q at *
 refine qb ?_
 simp only [Xx.l1]
 refine Ev.bind e1 (qf (fun h => ?_) (fun h => qd ?_))
 ·have h : q.2.2 = 0 := h
  have hc : c = 0 := by
   by_cases hc : c = 0
   ·exact hc
   ·have := st hc
    rw [this] at h
    exact h
  exact Ev.bind (YaQ.ev ⟨hs.isEmpty, hs, q.1⟩ (hh hc) hl) (Ev.bind (Xt.ev _ _ _ _ _ _) (qd rfl))
 ·have h : q.2.2 ≠ 0 := h
  rw [qbn _ _ h]
  rfl
theorem XA.ev0 (N tx txs fr hd : Int) (hN : 1 <= N /\ N <= 10) (z : Bool) (b : List Int) (hb : niceB b) (n : Nat) (hn : n <= 1152921504606846975) {R : Bool × List T × Int × Int × Bool × List Int × Bool × List Int × Bool × List T × Bool × List Int × Int × Int} : ∀ (m i : Nat) (a : Nat) (c : Int) (acc : List Head), i + m = n -> a <= b.length -> acc.length = i -> (n <= 1000 ∨ c ≠ 0) ->
  Ev (fun k => XA.l1 k z b ((headsR b N m a c).2.1 : Int) (headsR b N m a c).2.2 N tx txs fr hd (acc ++ (headsR b N m a c).1).isEmpty ((acc ++ (headsR b N m a c).1).map Head.t)) R ->
  Ev (fun k => XA.l0 k (n : Int) (i : Int) z b (a : Int) c N tx txs fr hd acc.isEmpty (acc.map Head.t)) R := by
 intro m
 induction m with
 | zero =>
  intro i a c acc hi ha hl hc K
  simp only [headsR, List.append_nil] at K
  refine qb ?_
  simp only [XA.l0]
  exact qe (by omega) K
 | succ m ih =>
  intro i a c acc hi ha hl hc K
  have k := qcf hb N ha c
  refine qb ?_
  simp only [XA.l0, List.length_map]
  by_cases h : c = 0
  ·have hn1 : n <= 1000 := by
    rcases hc with h' | h'
    ·exact h'
    ·exact (h' h).elim
   have i2 := ih (i + 1) (headR b N a c).2.1 (headR b N a c).2.2 (acc ++ [(headR b N a c).1]) (by omega) k.at_ (by simp [hl]) (.inl hn1)
   rw [headsR, if_pos h] at K
   rw [List.append_assoc, List.cons_append, List.nil_append] at i2
   have i3 := i2 K
   rw [qdp, List.map_append, List.map_cons, List.map_nil] at i3
   rw [qn i (by omega)]
   exact qa (by omega) (qa h (Ev.bind (Yar.ev N tx txs fr hd hN z b hb a ha c) (qa (by omega) i3)))
  ·rw [headsR, if_neg h, List.append_nil] at K
   exact qa (by omega) (qe h K)
theorem Xx.ev0 (N tx txs fr hd : Int) (hN : 1 <= N /\ N <= 10) (z : Bool) (b : List Int) (hb : niceB b) (n : Nat) (hn : n <= 1152921504606846975) {R : Bool × List T × Int × Int × Bool × List Int × Bool × List Int × Bool × List T × Bool × List Int × Int × Int} : ∀ (m i : Nat) (a : Nat) (c : Int) (acc : List Head), i + m = n -> a <= b.length -> acc.length = i -> (n <= 1000 ∨ c ≠ 0) ->
  Ev (fun k => Xx.l1 k z b ((headsR b N m a c).2.1 : Int) (headsR b N m a c).2.2 N tx txs fr hd (acc ++ (headsR b N m a c).1).isEmpty ((acc ++ (headsR b N m a c).1).map Head.t)) R ->
  Ev (fun k => Xx.l0 k (n : Int) (i : Int) z b (a : Int) c N tx txs fr hd acc.isEmpty (acc.map Head.t)) R := by
 intro m
 induction m with
 | zero =>
  intro i a c acc hi ha hl hc K
  simp only [headsR, List.append_nil] at K
  refine qb ?_
  simp only [Xx.l0]
  exact qe (by omega) K
 | succ m ih =>
  intro i a c acc hi ha hl hc K
  have k := qcf hb N ha c
  refine qb ?_
  simp only [Xx.l0, List.length_map]
  by_cases h : c = 0
  ·have hn1 : n <= 1000 := by
    rcases hc with h' | h'
    ·exact h'
    ·exact (h' h).elim
   have i2 := ih (i + 1) (headR b N a c).2.1 (headR b N a c).2.2 (acc ++ [(headR b N a c).1]) (by omega) k.at_ (by simp [hl]) (.inl hn1)
   rw [headsR, if_pos h] at K
   rw [List.append_assoc, List.cons_append, List.nil_append] at i2
   have i3 := i2 K
   rw [qdp, List.map_append, List.map_cons, List.map_nil] at i3
   rw [qn i (by omega)]
   exact qa (by omega) (qa h (Ev.bind (Yap.ev N tx txs fr hd hN z b hb a ha c) (qa (by omega) i3)))
  ·rw [headsR, if_neg h, List.append_nil] at K
   exact qa (by omega) (qe h K)
theorem qdC {N hd : Int} {b : List Int} (hb : niceB b) (hh : hd <= 5) {v : Int × Nat × Int} (h0 : 0 <= v.1) (hv : v.2.1 <= b.length) : (v.1.toNat <= 1000 ∨ mustR (decide (v.1 <= hd)) 3 (mustR (decide (v.1 >= 3)) 5 v.2.2) ≠ 0) /\ (headsR b N v.1.toNat v.2.1 (mustR (decide (v.1 <= hd)) 3 (mustR (decide (v.1 >= 3)) 5 v.2.2))).1.length <= 1000 /\ ((headsR b N v.1.toNat v.2.1 (mustR (decide (v.1 <= hd)) 3 (mustR (decide (v.1 >= 3)) 5 v.2.2))).2.2 = 0 -> 1 <= (headsR b N v.1.toNat v.2.1 (mustR (decide (v.1 <= hd)) 3 (mustR (decide (v.1 >= 3)) 5 v.2.2))).1.length) := by
 obtain ⟨⟨k1, k2⟩, _, _⟩ := qcj hb N v.1.toNat hv (mustR (decide (v.1 <= hd)) 3 (mustR (decide (v.1 >= 3)) 5 v.2.2))
 by_cases h : mustR (decide (v.1 <= hd)) 3 (mustR (decide (v.1 >= 3)) 5 v.2.2) = 0
 ·have m1 := qA h (by decide)
  have m2 := qA m1.2 (by decide)
  have d1 := of_decide_eq_true m1.1
  have d2 := of_decide_eq_true m2.1
  exact ⟨.inl (by omega), by omega, fun h3 => by rw [k2 h3]; omega⟩
 ·rw [qdz b N _ _ h]
  exact ⟨.inr h, by simp, fun h3 => (h h3).elim⟩
theorem XA.ev (N tx txs fr hd : Int) (L : limitsOk N tx txs fr hd = true) (z : Bool) (b : List Int) (hb : niceB b) (a : Nat) (ha : a <= b.length) (c : Int) : Ev (fun k => XA.f k N tx txs fr hd z b (a : Int) c) (pfTup z b (proofR b N hd a c)) := by
 have hN := qJ L
 have hL : (1 <= N /\ N <= 10) /\ (0 <= tx /\ tx <= 40) /\ (0 <= txs /\ txs <= 8) /\ (1 <= fr /\ fr <= 4000) /\ (3 <= hd /\ hd <= 5) := by simpa [limitsOk] using L
 refine qb ?_
 simp only [XA.f]
 unfold proofR
 simp only
 have n1 := qk hb ha c
 have e1 := XF.ev z b hb a ha c
 generalize numR b a c = v1 at *
 obtain ⟨hs, h2, h3⟩ := qdC (N := N) (hd := hd) hb (by omega) n1.1.1 n1.2
 obtain ⟨_, k2, _⟩ := qcj hb N v1.1.toNat n1.2 (mustR (decide (v1.1 <= hd)) 3 (mustR (decide (v1.1 >= 3)) 5 v1.2.2))
 have K := XA.ev0 N tx txs fr hd hN z b hb v1.1.toNat (by omega) v1.1.toNat 0 v1.2.1 (mustR (decide (v1.1 <= hd)) 3 (mustR (decide (v1.1 >= 3)) 5 v1.2.2)) [] (by omega) n1.2 rfl hs (XA.ev1 N tx txs fr hd hN z b hb _ k2 _ _ h3 (by show (headsR b N v1.1.toNat v1.2.1 _).1.length <= _; omega))
 rw [show ((v1.1.toNat : Nat) : Int) = v1.1 by omega] at K
 exact Ev.bind e1 (Ev.bind (XD.ev _ _ _ _ _ _) (Ev.bind (XD.ev _ _ _ _ _ _) K))
theorem qjN (a : Int) : decide (a < 3) = !decide (a >= 3) := by
 by_cases h : a < 3
 ·rw [decide_eq_true h, decide_eq_false (by omega)]; rfl
 ·rw [decide_eq_false h, decide_eq_true (by omega)]; rfl
theorem qiB (a n : Int) : decide (a > n) = !decide (a <= n) := by
 by_cases h : a > n
 ·rw [decide_eq_true h, decide_eq_false (by omega)]; rfl
 ·rw [decide_eq_false h, decide_eq_true (by omega)]; rfl
theorem Xx.ev (N tx txs fr hd : Int) (L : limitsOk N tx txs fr hd = true) (z : Bool) (b : List Int) (hb : niceB b) (a : Nat) (ha : a <= b.length) (c : Int) : Ev (fun k => Xx.f k z b (a : Int) c N tx txs fr hd) (pfTup z b (proofR b N hd a c)) := by
 have hN := qJ L
 have hL : (1 <= N /\ N <= 10) /\ (0 <= tx /\ tx <= 40) /\ (0 <= txs /\ txs <= 8) /\ (1 <= fr /\ fr <= 4000) /\ (3 <= hd /\ hd <= 5) := by simpa [limitsOk] using L
 refine qb ?_
 simp only [Xx.f]
 unfold proofR
 simp only
 have n1 := qk hb ha c
 have e1 := Xr.ev z b hb a ha c
 generalize numR b a c = v1 at *
 obtain ⟨hs, h2, h3⟩ := qdC (N := N) (hd := hd) hb (by omega) n1.1.1 n1.2
 obtain ⟨_, k2, _⟩ := qcj hb N v1.1.toNat n1.2 (mustR (decide (v1.1 <= hd)) 3 (mustR (decide (v1.1 >= 3)) 5 v1.2.2))
 have K := Xx.ev0 N tx txs fr hd hN z b hb v1.1.toNat (by omega) v1.1.toNat 0 v1.2.1 (mustR (decide (v1.1 <= hd)) 3 (mustR (decide (v1.1 >= 3)) 5 v1.2.2)) [] (by omega) n1.2 rfl hs (Xx.ev1 N tx txs fr hd hN z b hb _ k2 _ _ h3 (by show (headsR b N v1.1.toNat v1.2.1 _).1.length <= _; omega))
 rw [show ((v1.1.toNat : Nat) : Int) = v1.1 by omega] at K
 exact Ev.bind e1 (Ev.bind (Xt.evd z b _ _ _ _ (qjN _) 5) (Ev.bind (Xt.evd z b _ _ _ _ (qiB _ _) 3) K))
def noInc : Inc := ⟨0, 0, 0, true, [], true, []⟩
def inclR (b : List Int) (tx txs : Int) (a : Nat) (c : Int) : Inc × Nat × Int :=
 let x := numR b a c; let y := numR b x.2.1 x.2.2; let w := numR b y.2.1 (mustR (decide (y.1 <= txs)) 3 (mustR (decide (y.1 > 0)) 5 y.2.2)); let t := textR b w.2.1 (mustR (decide (w.1 < y.1)) 5 w.2.2) tx
 let n := pathV (y.1.toNat + 1) w.1.toNat y.1.toNat
 if t.2.2.2 = 0 then let g := tagsR b n t.2.2.1 t.2.2.2; (⟨x.1, y.1, w.1, t.1, t.2.1, decide (n = 0), g.1⟩, g.2.1, g.2.2)
 else (⟨x.1, y.1, w.1, t.1, t.2.1, true, []⟩, t.2.2.1, t.2.2.2)
def icTup (z : Bool) (b : List Int) (r : Inc × Nat × Int) : Int × Int × Int × Bool × List Int × Bool × List T × Bool × List Int × Int × Int := (r.1.h, r.1.n, r.1.at_, r.1.xz, r.1.tx, r.1.pz, r.1.path.map By.t, z, b, (r.2.1 : Int), r.2.2)
theorem Yae.ev0 (z : Bool) (b : List Int) (hb : niceB b) (cnt : Nat) (hc : cnt <= 16777216) (p q r : Int) (y1 : Bool) (l1 : List Int) : ∀ (m i : Nat) (a : Nat) (c : Int) (w : Bool) (acc : List By), i + m = cnt -> a <= b.length -> acc.length = i ->
  Ev (fun k => Yae.l0 k (cnt : Int) (i : Int) z b (a : Int) c p q r y1 l1 w (acc.map By.t)) (p, q, r, y1, l1, (if m = 0 then w else false), acc.map By.t ++ (tagsR b m a c).1.map By.t, z, b, ((tagsR b m a c).2.1 : Int), (tagsR b m a c).2.2) := by
 intro m
 induction m with
 | zero =>
  intro i a c w acc hi ha hl
  refine qb ?_
  simp only [Yae.l0]
  exact qe (by omega) (qd (by simp [tagsR]))
 | succ m ih =>
  intro i a c w acc hi ha hl
  have k := qE hb ha c
  have i2 := ih (i + 1) (rawR b a c).2.2.1 (rawR b a c).2.2.2 false (acc ++ [⟨(rawR b a c).1, (rawR b a c).2.1⟩]) (by omega) k.at_ (by simp [hl])
  have e : (if m = 0 then false else false) = false := by split <;> rfl
  rw [e, List.map_append, List.map_cons, List.map_nil, qdD] at i2
  refine qb ?_
  simp only [Yae.l0, qn i (by omega), List.length_map]
  rw [if_neg (by omega)]
  exact qa (by omega) (Ev.bind (Yah.ev z b hb a ha c) (qa (by omega) i2))
theorem XV.ev0 (z : Bool) (b : List Int) (hb : niceB b) (cnt : Nat) (hc : cnt <= 16777216) (p : Int) (n r : Nat) (hn : n <= 1000) (hr : r <= 1000) (hp : pathV (n + 1) r n = cnt) (y1 : Bool) (l1 : List Int) : ∀ (m i : Nat) (a : Nat) (c : Int) (w : Bool) (acc : List By), i + m = cnt -> a <= b.length -> acc.length = i ->
  ∃ w' l', Ev (fun k => XV.l0 k (i : Int) z b (a : Int) c p (n : Int) (r : Int) y1 l1 w (acc.map By.t)) (p, (n : Int), (r : Int), y1, l1, w', List.map By.t l', z, b, ((tagsR b m a c).2.1 : Int), (tagsR b m a c).2.2) /\ ((tagsR b m a c).2.2 = 0 -> w' = (if m = 0 then w else false) /\ l' = acc ++ (tagsR b m a c).1) := by
 have P := Yal.ev (n + 1) r n (by omega) (by omega) (by omega) (by omega)
 rw [hp] at P
 intro m
 induction m with
 | zero =>
  intro i a c w acc hi ha hl
  refine ⟨w, acc, ?_, fun _ => ⟨rfl, by simp [tagsR]⟩⟩
  refine qb ?_
  simp only [XV.l0]
  exact qf (fun _ => Ev.bind P (qe (by omega) (qd rfl))) (fun _ => qd rfl)
 | succ m ih =>
  intro i a c w acc hi ha hl
  by_cases h : c = 0
  ·have k := qE hb ha c
   obtain ⟨w', l', i2, i3⟩ := ih (i + 1) (rawR b a c).2.2.1 (rawR b a c).2.2.2 false (acc ++ [⟨(rawR b a c).1, (rawR b a c).2.1⟩]) (by omega) k.at_ (by simp [hl])
   have e : (if m = 0 then false else false) = false := by split <;> rfl
   rw [e, List.append_assoc, List.cons_append, List.nil_append] at i3
   rw [List.map_append, List.map_cons, List.map_nil] at i2
   refine ⟨w', l', ?_, fun q => ?_⟩
   ·refine qb ?_
    simp only [XV.l0, qn i (by omega), List.length_map]
    exact qa h (Ev.bind P (qa (by omega) (Ev.bind (Yaa.ev z b hb a ha c) (qa (by omega) i2))))
   ·rw [if_neg (by omega)]
    exact i3 q
  ·have t := qfp b (m + 1) a h
   refine ⟨w, acc, ?_, fun q => (h (by rw [t] at q; exact q)).elim⟩
   rw [t]
   refine qb ?_
   simp only [XV.l0]
   exact qe h (qd rfl)
theorem qeF {b : List Int} (hb : niceB b) {tx txs : Int} {y w : Int × Nat × Int} {t : Rw} (w0 : 0 <= w.1)
  (ew : w = numR b y.2.1 (mustR (decide (y.1 <= txs)) 3 (mustR (decide (y.1 > 0)) 5 y.2.2))) (et : t = textR b w.2.1 (mustR (decide (w.1 < y.1)) 5 w.2.2) tx) (h : t.2.2.2 = 0) : 1 <= y.1 /\ y.1 <= txs /\ w.1 < y.1 := by
 have s1 : ∀ {c : Int} (a : Nat), c ≠ 0 -> (textR b a c tx).2.2.2 ≠ 0 := fun a h => by unfold textR; rw [if_neg h]; exact h
 have s2 : ∀ {c : Int} (a : Nat), c ≠ 0 -> (numR b a c).2.2 ≠ 0 := fun a h => by unfold numR; rw [if_neg h]; exact h
 have h1 : mustR (decide (w.1 < y.1)) 5 w.2.2 = 0 := by
  by_cases q : mustR (decide (w.1 < y.1)) 5 w.2.2 = 0
  ·exact q
  ·exact (s1 _ q (et ▸ h)).elim
 obtain ⟨d1, h2⟩ := qA h1 (by decide)
 have h3 : mustR (decide (y.1 <= txs)) 3 (mustR (decide (y.1 > 0)) 5 y.2.2) = 0 := by
  by_cases q : mustR (decide (y.1 <= txs)) 3 (mustR (decide (y.1 > 0)) 5 y.2.2) = 0
  ·exact q
  ·exact (s2 _ q (ew ▸ h2)).elim
 obtain ⟨d2, h4⟩ := qA h3 (by decide)
 obtain ⟨d3, h5⟩ := qA h4 (by decide)
 have d1 := of_decide_eq_true d1
 have d2 := of_decide_eq_true d2
 have d3 := of_decide_eq_true d3
 exact ⟨by omega, d2, d1⟩
theorem Yae.ev (N tx txs fr hd : Int) (ht : txs <= 8) (z : Bool) (b : List Int) (hb : niceB b) (a : Nat) (ha : a <= b.length) (c : Int) : Ev (fun k => Yae.f k N tx txs fr hd z b (a : Int) c) (icTup z b (inclR b tx txs a c)) := by
 refine qb ?_
 simp only [Yae.f]
 unfold inclR
 simp only
 have n1 := qk hb ha c
 have e1 := XF.ev z b hb a ha c
 generalize numR b a c = v1 at *
 have n2 := qk hb n1.2 v1.2.2
 have e2 := XF.ev z b hb _ n1.2 v1.2.2
 generalize numR b v1.2.1 v1.2.2 = v2 at *
 have n3 := qk hb n2.2 (mustR (decide (v2.1 <= txs)) 3 (mustR (decide (v2.1 > 0)) 5 v2.2.2))
 have e3 := Yai.ev z b hb _ n2.2 (mustR (decide (v2.1 <= txs)) 3 (mustR (decide (v2.1 > 0)) 5 v2.2.2)) v2.1 5
 have I := fun t et => qeF hb (tx := tx) (txs := txs) (y := v2) (t := t) n3.1.1 rfl et
 generalize numR b v2.2.1 (mustR (decide (v2.1 <= txs)) 3 (mustR (decide (v2.1 > 0)) 5 v2.2.2)) = v3 at *
 have n4 := qce hb n3.2 (mustR (decide (v3.1 < v2.1)) 5 v3.2.2) tx
 have e4 := Yax.ev z b hb _ n3.2 (mustR (decide (v3.1 < v2.1)) 5 v3.2.2) tx
 have I := I _ rfl
 generalize textR b v3.2.1 (mustR (decide (v3.1 < v2.1)) 5 v3.2.2) tx = v4 at *
 refine Ev.bind e1 (Ev.bind e2 (Ev.bind (XD.ev _ _ _ _ _ _) (Ev.bind (XD.ev _ _ _ _ _ _) (Ev.bind e3 (Ev.bind e4 (qf (fun h => ?_) (fun h => qd ?_)))))))
 ·have h : v4.2.2.2 = 0 := h
  obtain ⟨i1, i2, i3⟩ := I h
  rw [if_pos h]
  have P := Yam.ev (v2.1.toNat + 1) v3.1.toNat v2.1.toNat (by omega) (by omega) (by omega) (by omega)
  have pl := qW (v2.1.toNat + 1) v3.1.toNat v2.1.toNat
  rw [show ((v3.1.toNat : Nat) : Int) = v3.1 by omega, show ((v2.1.toNat : Nat) : Int) = v2.1 by omega] at P
  generalize pathV (v2.1.toNat + 1) v3.1.toNat v2.1.toNat = n at *
  have L := Yae.ev0 z b hb n (by omega) v1.1 v2.1 v3.1 v4.1 v4.2.1 n 0 v4.2.2.1 v4.2.2.2 true [] (by omega) n4.at_ rfl
  rw [qdi] at L
  exact Ev.bind P L
 ·have h : v4.2.2.2 ≠ 0 := h
  rw [if_neg h]
  rfl
theorem qjF {a : Int} (h : 0 <= a) : decide (a = 0) = !decide (a > 0) := by
 by_cases q : a = 0
 ·rw [decide_eq_true q, decide_eq_false (by omega)]; rfl
 ·rw [decide_eq_false q, decide_eq_true (by omega)]; rfl
theorem XV.ev (N tx txs fr hd : Int) (ht : txs <= 8) (z : Bool) (b : List Int) (hb : niceB b) (a : Nat) (ha : a <= b.length) (c : Int) : ∃ x : Inc, Ev (fun k => XV.f k z b (a : Int) c N tx txs fr hd) (icTup z b (x, (inclR b tx txs a c).2)) /\ ((inclR b tx txs a c).2.2 = 0 -> x = (inclR b tx txs a c).1) := by
 suffices S : ∀ R, R = inclR b tx txs a c -> ∃ x : Inc, Ev (fun k => XV.f k z b (a : Int) c N tx txs fr hd) (icTup z b (x, R.2)) /\ (R.2.2 = 0 -> x = R.1) from S _ rfl
 intro R eR
 unfold inclR at eR
 simp only at eR
 have n1 := qk hb ha c
 have e1 := Xr.ev z b hb a ha c
 generalize numR b a c = v1 at *
 have n2 := qk hb n1.2 v1.2.2
 have e2 := Xr.ev z b hb _ n1.2 v1.2.2
 generalize numR b v1.2.1 v1.2.2 = v2 at *
 have n3 := qk hb n2.2 (mustR (decide (v2.1 <= txs)) 3 (mustR (decide (v2.1 > 0)) 5 v2.2.2))
 have e3 := Xr.ev z b hb _ n2.2 (mustR (decide (v2.1 <= txs)) 3 (mustR (decide (v2.1 > 0)) 5 v2.2.2))
 have I := fun t et => qeF hb (tx := tx) (txs := txs) (y := v2) (t := t) n3.1.1 rfl et
 generalize numR b v2.2.1 (mustR (decide (v2.1 <= txs)) 3 (mustR (decide (v2.1 > 0)) 5 v2.2.2)) = v3 at *
 have n4 := qce hb n3.2 (mustR (decide (v3.1 < v2.1)) 5 v3.2.2) tx
 have e4 := Yaw.ev z b hb _ n3.2 (mustR (decide (v3.1 < v2.1)) 5 v3.2.2) tx
 have I := I _ rfl
 generalize textR b v3.2.1 (mustR (decide (v3.1 < v2.1)) 5 v3.2.2) tx = v4 at *
 have run : ∀ {w l a' c'}, Ev (fun k => XV.l0 k 0 z b (v4.2.2.1 : Int) v4.2.2.2 v1.1 v2.1 v3.1 v4.1 v4.2.1 true []) (v1.1, v2.1, v3.1, v4.1, v4.2.1, w, l, z, b, a', c') -> Ev (fun k => XV.f k z b (a : Int) c N tx txs fr hd) (v1.1, v2.1, v3.1, v4.1, v4.2.1, w, l, z, b, a', c') := fun {w l a' c'} L => by
  refine qb ?_
  simp only [XV.f]
  exact Ev.bind e1 (Ev.bind e2 (Ev.bind (Xt.evd z b _ _ _ _ (qjF n2.1.1) 5) (Ev.bind (Xt.evd z b _ _ _ _ (qiB _ _) 3) (Ev.bind e3 (Ev.bind (Xt.evd z b _ _ _ _ (qay _ _) 5) (Ev.bind e4 L))))))
 by_cases h : v4.2.2.2 = 0
 ·obtain ⟨i1, i2, i3⟩ := I h
  rw [if_pos h] at eR
  have pl := qW (v2.1.toNat + 1) v3.1.toNat v2.1.toNat
  obtain ⟨w, l, L, K⟩ := XV.ev0 z b hb _ (by omega) v1.1 v2.1.toNat v3.1.toNat (by omega) (by omega) rfl v4.1 v4.2.1 (pathV (v2.1.toNat + 1) v3.1.toNat v2.1.toNat) 0 v4.2.2.1 v4.2.2.2 true [] (by omega) n4.at_ rfl
  rw [show ((v3.1.toNat : Nat) : Int) = v3.1 by omega, show ((v2.1.toNat : Nat) : Int) = v2.1 by omega] at L
  rw [qdi] at K
  subst eR
  refine ⟨⟨v1.1, v2.1, v3.1, v4.1, v4.2.1, w, l⟩, run L, fun q => ?_⟩
  obtain ⟨k1, k2⟩ := K q
  rw [k1, k2]
  rfl
 ·rw [if_neg h] at eR
  subst eR
  refine ⟨⟨v1.1, v2.1, v3.1, v4.1, v4.2.1, true, []⟩, run (l := []) ?_, fun _ => rfl⟩
  refine qb ?_
  simp only [XV.l0]
  exact qe h (qd rfl)
def noBk : Blk := ⟨noHd, true, []⟩
def noTc : TcV := ⟨0, true, []⟩
def noPf : Pf := ⟨true, [], noQc⟩
def qcGet (r : QcV × Nat × Int) : Int × Int × Bool × List Int × Bool × List Int × Bool × List T × Int × Int := (r.1.v, r.1.h, r.1.bz, r.1.blk, r.1.mz, r.1.bits, r.1.tz, r.1.tags.map By.t, (r.2.1 : Int), r.2.2)
theorem YaU.ev {N tx txs fr hd : Int} (L : limitsOk N tx txs fr hd = true) (z : Bool) (b : List Int) (hb : niceB b) (a : Nat) (ha : a <= b.length) : Ev (fun k => YaU.f k N tx txs fr hd z b (a : Int)) (qcGet (getV noQc (qcR b N a 0))) := by
 have hN := qJ L
 have e := XG.ev N tx txs fr hd hN z b hb a ha 0
 have l := XE.ev N tx txs fr hd
 rw [L] at l
 refine qb ?_
 simp only [YaU.f]
 refine Ev.bind (a := qcGet (getV noQc (qcR b N a 0))) ?_ (qd rfl)
 refine qb ?_
 simp only [YbG.f]
 unfold getV
 generalize qcR b N a 0 = v at *
 refine Ev.bind l (qe (by simp) (Ev.bind e (qf (fun h => qd ?_) (fun h => qd ?_))))
 ·rw [if_neg (by simpa [qcTup] using h)]
  rfl
 ·rw [if_pos (by simpa [qcTup] using h)]
  rfl
def headGet (r : Head × Nat × Int) : Int × Int × Int × Bool × List Int × Bool × List Int × Int × Int × Bool × List Int × Bool × List Int × Bool × List T × Int × Int := (r.1.v, r.1.h, r.1.p, r.1.az, r.1.par, r.1.rz, r.1.root, r.1.q.v, r.1.q.h, r.1.q.bz, r.1.q.blk, r.1.q.mz, r.1.q.bits, r.1.q.tz, r.1.q.tags.map By.t, (r.2.1 : Int), r.2.2)
theorem YaV.ev {N tx txs fr hd : Int} (L : limitsOk N tx txs fr hd = true) (z : Bool) (b : List Int) (hb : niceB b) (a : Nat) (ha : a <= b.length) : Ev (fun k => YaV.f k N tx txs fr hd z b (a : Int)) (headGet (getV noHd (headR b N a 0))) := by
 have hN := qJ L
 have e := Yar.ev N tx txs fr hd hN z b hb a ha 0
 have l := XE.ev N tx txs fr hd
 rw [L] at l
 refine qb ?_
 simp only [YaV.f]
 refine Ev.bind (a := headGet (getV noHd (headR b N a 0))) ?_ (qd rfl)
 refine qb ?_
 simp only [YbI.f]
 unfold getV
 generalize headR b N a 0 = v at *
 refine Ev.bind l (qe (by simp) (Ev.bind e (qf (fun h => qd ?_) (fun h => qd ?_))))
 ·rw [if_neg (by simpa [headTup'] using h)]
  rfl
 ·rw [if_pos (by simpa [headTup'] using h)]
  rfl
def blkGet (r : Blk × Nat × Int) : Int × Int × Int × Bool × List Int × Bool × List Int × Int × Int × Bool × List Int × Bool × List Int × Bool × List T × Bool × List T × Int × Int := (r.1.hd.v, r.1.hd.h, r.1.hd.p, r.1.hd.az, r.1.hd.par, r.1.hd.rz, r.1.hd.root, r.1.hd.q.v, r.1.hd.q.h, r.1.hd.q.bz, r.1.hd.q.blk, r.1.hd.q.mz, r.1.hd.q.bits, r.1.hd.q.tz, r.1.hd.q.tags.map By.t, r.1.tz, r.1.txs.map By.t, (r.2.1 : Int), r.2.2)
theorem YaX.ev {N tx txs fr hd : Int} (L : limitsOk N tx txs fr hd = true) (z : Bool) (b : List Int) (hb : niceB b) (a : Nat) (ha : a <= b.length) : Ev (fun k => YaX.f k N tx txs fr hd z b (a : Int)) (blkGet (getV noBk (blockR b N tx txs a 0))) := by
 have e := Xz.ev N tx txs fr hd L z b hb a ha 0
 have l := XE.ev N tx txs fr hd
 rw [L] at l
 refine qb ?_
 simp only [YaX.f]
 refine Ev.bind (a := blkGet (getV noBk (blockR b N tx txs a 0))) ?_ (qd rfl)
 refine qb ?_
 simp only [YbK.f]
 unfold getV
 generalize blockR b N tx txs a 0 = v at *
 refine Ev.bind l (qe (by simp) (Ev.bind e (qf (fun h => qd ?_) (fun h => qd ?_))))
 ·rw [if_neg (by simpa [blkTup] using h)]
  rfl
 ·rw [if_pos (by simpa [blkTup] using h)]
  rfl
def tcGet (r : TcV × Nat × Int) : Int × Bool × List T × Int × Int := (r.1.v, r.1.ez, r.1.ents.map En.t, (r.2.1 : Int), r.2.2)
theorem YaY.ev {N tx txs fr hd : Int} (L : limitsOk N tx txs fr hd = true) (z : Bool) (b : List Int) (hb : niceB b) (a : Nat) (ha : a <= b.length) : Ev (fun k => YaY.f k N tx txs fr hd z b (a : Int)) (tcGet (getV noTc (tcR b N a 0))) := by
 have hN := qJ L
 have e := Yad.ev N tx txs fr hd hN z b hb a ha 0
 have l := XE.ev N tx txs fr hd
 rw [L] at l
 refine qb ?_
 simp only [YaY.f]
 refine Ev.bind (a := tcGet (getV noTc (tcR b N a 0))) ?_ (qd rfl)
 refine qb ?_
 simp only [YbL.f]
 unfold getV
 generalize tcR b N a 0 = v at *
 refine Ev.bind l (qe (by simp) (Ev.bind e (qf (fun h => qd ?_) (fun h => qd ?_))))
 ·rw [if_neg (by simpa [tcTup] using h)]
  rfl
 ·rw [if_pos (by simpa [tcTup] using h)]
  rfl
def pfGet (r : Pf × Nat × Int) : Bool × List T × Int × Int × Bool × List Int × Bool × List Int × Bool × List T × Int × Int := (r.1.hz, r.1.heads.map Head.t, r.1.q.v, r.1.q.h, r.1.q.bz, r.1.q.blk, r.1.q.mz, r.1.q.bits, r.1.q.tz, r.1.q.tags.map By.t, (r.2.1 : Int), r.2.2)
theorem Yba.ev {N tx txs fr hd : Int} (L : limitsOk N tx txs fr hd = true) (z : Bool) (b : List Int) (hb : niceB b) (a : Nat) (ha : a <= b.length) : Ev (fun k => Yba.f k N tx txs fr hd z b (a : Int)) (pfGet (getV noPf (proofR b N hd a 0))) := by
 have e := XA.ev N tx txs fr hd L z b hb a ha 0
 have l := XE.ev N tx txs fr hd
 rw [L] at l
 refine qb ?_
 simp only [Yba.f]
 refine Ev.bind (a := pfGet (getV noPf (proofR b N hd a 0))) ?_ (qd rfl)
 refine qb ?_
 simp only [YbM.f]
 unfold getV
 generalize proofR b N hd a 0 = v at *
 refine Ev.bind l (qe (by simp) (Ev.bind e (qf (fun h => qd ?_) (fun h => qd ?_))))
 ·rw [if_neg (by simpa [pfTup] using h)]
  rfl
 ·rw [if_pos (by simpa [pfTup] using h)]
  rfl
def icGet (r : Inc × Nat × Int) : Int × Int × Int × Bool × List Int × Bool × List T × Int × Int := (r.1.h, r.1.n, r.1.at_, r.1.xz, r.1.tx, r.1.pz, r.1.path.map By.t, (r.2.1 : Int), r.2.2)
theorem Ybb.ev {N tx txs fr hd : Int} (L : limitsOk N tx txs fr hd = true) (z : Bool) (b : List Int) (hb : niceB b) (a : Nat) (ha : a <= b.length) : Ev (fun k => Ybb.f k N tx txs fr hd z b (a : Int)) (icGet (getV noInc (inclR b tx txs a 0))) := by
 have hL : (1 <= N /\ N <= 10) /\ (0 <= tx /\ tx <= 40) /\ (0 <= txs /\ txs <= 8) /\ (1 <= fr /\ fr <= 4000) /\ (3 <= hd /\ hd <= 5) := by simpa [limitsOk] using L
 have ht : txs <= 8 := by omega
 have e := Yae.ev N tx txs fr hd ht z b hb a ha 0
 have l := XE.ev N tx txs fr hd
 rw [L] at l
 refine qb ?_
 simp only [Ybb.f]
 refine Ev.bind (a := icGet (getV noInc (inclR b tx txs a 0))) ?_ (qd rfl)
 refine qb ?_
 simp only [YbN.f]
 unfold getV
 generalize inclR b tx txs a 0 = v at *
 refine Ev.bind l (qe (by simp) (Ev.bind e (qf (fun h => qd ?_) (fun h => qd ?_))))
 ·rw [if_neg (by simpa [icTup] using h)]
  rfl
 ·rw [if_pos (by simpa [icTup] using h)]
  rfl
def noMg : Mg := ⟨0, noVt, noQc, noHd, noBk, noTc, noPf, noInc⟩
def mgTup (x : Mg) (c : Int) : Int × Int × Int × Bool × List Int × Int × Bool × List Int × Int × Int × Bool × List Int × Bool × List Int × Bool × List T × Int × Int × Int × Bool × List Int × Bool × List Int × Int × Int × Bool × List Int × Bool × List Int × Bool × List T × Int × Int × Int × Bool × List Int × Bool × List Int × Int × Int × Bool × List Int × Bool × List Int × Bool × List T × Bool × List T × Int × Bool × List T × Bool × List T × Int × Int × Bool × List Int × Bool × List Int × Bool × List T × Int × Int × Int × Bool × List Int × Bool × List T × Int := (x.k, x.vt.v, x.vt.h, x.vt.bz, x.vt.blk, x.vt.who, x.vt.tz, x.vt.tag, x.qc.v, x.qc.h, x.qc.bz, x.qc.blk, x.qc.mz, x.qc.bits, x.qc.tz, x.qc.tags.map By.t, x.hd.v, x.hd.h, x.hd.p, x.hd.az, x.hd.par, x.hd.rz, x.hd.root, x.hd.q.v, x.hd.q.h, x.hd.q.bz, x.hd.q.blk, x.hd.q.mz, x.hd.q.bits, x.hd.q.tz, x.hd.q.tags.map By.t, x.bk.hd.v, x.bk.hd.h, x.bk.hd.p, x.bk.hd.az, x.bk.hd.par, x.bk.hd.rz, x.bk.hd.root, x.bk.hd.q.v, x.bk.hd.q.h, x.bk.hd.q.bz, x.bk.hd.q.blk, x.bk.hd.q.mz, x.bk.hd.q.bits, x.bk.hd.q.tz, x.bk.hd.q.tags.map By.t, x.bk.tz, x.bk.txs.map By.t, x.tc.v, x.tc.ez, x.tc.ents.map En.t, x.pf.hz, x.pf.heads.map Head.t, x.pf.q.v, x.pf.q.h, x.pf.q.bz, x.pf.q.blk, x.pf.q.mz, x.pf.q.bits, x.pf.q.tz, x.pf.q.tags.map By.t, x.ic.h, x.ic.n, x.ic.at_, x.ic.xz, x.ic.tx, x.ic.pz, x.ic.path.map By.t, c)
def decFin (m : Mg) (a : Nat) (c : Int) (n : Nat) : Mg × Int := if c = 0 then if a = n then (m, 0) else (noMg, 9) else (noMg, c)
def decV (N tx txs hd : Int) (b : List Int) : Mg × Int :=
 if b.length = 0 then (noMg, 1) else
 let k := rdI b 0
 if k = 1 then let r := voteR b N 1 0; decFin { noMg with k := 1, vt := r.1 } r.2.1 r.2.2 b.length else
 if k = 2 then let r := qcR b N 1 0; decFin { noMg with k := 2, qc := r.1 } r.2.1 r.2.2 b.length else
 if k = 3 then let r := headR b N 1 0; decFin { noMg with k := 3, hd := r.1 } r.2.1 r.2.2 b.length else
 if k = 4 then let r := blockR b N tx txs 1 0; decFin { noMg with k := 4, bk := r.1 } r.2.1 r.2.2 b.length else
 if k = 5 then let r := tcR b N 1 0; decFin { noMg with k := 5, tc := r.1 } r.2.1 r.2.2 b.length else
 if k = 6 then let r := proofR b N hd 1 0; decFin { noMg with k := 6, pf := r.1 } r.2.1 r.2.2 b.length else
 if k = 7 then let r := inclR b tx txs 1 0; decFin { noMg with k := 7, ic := r.1 } r.2.1 r.2.2 b.length else
 (noMg, 8)
def decTup (r : Mg × Int) : Int × Int × Int × Bool × List Int × Int × Bool × List Int × Int × Int × Bool × List Int × Bool × List Int × Bool × List T × Int × Int × Int × Bool × List Int × Bool × List Int × Int × Int × Bool × List Int × Bool × List Int × Bool × List T × Int × Int × Int × Bool × List Int × Bool × List Int × Int × Int × Bool × List Int × Bool × List Int × Bool × List T × Bool × List T × Int × Bool × List T × Bool × List T × Int × Int × Bool × List Int × Bool × List Int × Bool × List T × Int × Int × Int × Bool × List Int × Bool × List T × Int := mgTup r.1 r.2
theorem Xj.fin (m : Mg) (z : Bool) (b : List Int) (a : Nat) (c : Int) : Ev (fun k => Xj.l0 k z b (a : Int) c m.k m.vt.v m.vt.h m.vt.bz m.vt.blk m.vt.who m.vt.tz m.vt.tag m.qc.v m.qc.h m.qc.bz m.qc.blk m.qc.mz m.qc.bits m.qc.tz (m.qc.tags.map By.t) m.hd.v m.hd.h m.hd.p m.hd.az m.hd.par m.hd.rz m.hd.root m.hd.q.v m.hd.q.h m.hd.q.bz m.hd.q.blk m.hd.q.mz m.hd.q.bits m.hd.q.tz (m.hd.q.tags.map By.t) m.bk.hd.v m.bk.hd.h m.bk.hd.p m.bk.hd.az m.bk.hd.par m.bk.hd.rz m.bk.hd.root m.bk.hd.q.v m.bk.hd.q.h m.bk.hd.q.bz m.bk.hd.q.blk m.bk.hd.q.mz m.bk.hd.q.bits m.bk.hd.q.tz (m.bk.hd.q.tags.map By.t) m.bk.tz (m.bk.txs.map By.t) m.tc.v m.tc.ez (m.tc.ents.map En.t) m.pf.hz (m.pf.heads.map Head.t) m.pf.q.v m.pf.q.h m.pf.q.bz m.pf.q.blk m.pf.q.mz m.pf.q.bits m.pf.q.tz (m.pf.q.tags.map By.t) m.ic.h m.ic.n m.ic.at_ m.ic.xz m.ic.tx m.ic.pz (m.ic.path.map By.t)) (decTup (decFin m a c b.length)) := by
 refine qb ?_
 simp only [Xj.l0]
 unfold decFin
 have e : ∀ (c : Int) (r : Mg × Int), r = (if c = 0 then (m, 0) else (noMg, c)) -> Ev (fun k => Xj.l1 k c m.k m.vt.v m.vt.h m.vt.bz m.vt.blk m.vt.who m.vt.tz m.vt.tag m.qc.v m.qc.h m.qc.bz m.qc.blk m.qc.mz m.qc.bits m.qc.tz (m.qc.tags.map By.t) m.hd.v m.hd.h m.hd.p m.hd.az m.hd.par m.hd.rz m.hd.root m.hd.q.v m.hd.q.h m.hd.q.bz m.hd.q.blk m.hd.q.mz m.hd.q.bits m.hd.q.tz (m.hd.q.tags.map By.t) m.bk.hd.v m.bk.hd.h m.bk.hd.p m.bk.hd.az m.bk.hd.par m.bk.hd.rz m.bk.hd.root m.bk.hd.q.v m.bk.hd.q.h m.bk.hd.q.bz m.bk.hd.q.blk m.bk.hd.q.mz m.bk.hd.q.bits m.bk.hd.q.tz (m.bk.hd.q.tags.map By.t) m.bk.tz (m.bk.txs.map By.t) m.tc.v m.tc.ez (m.tc.ents.map En.t) m.pf.hz (m.pf.heads.map Head.t) m.pf.q.v m.pf.q.h m.pf.q.bz m.pf.q.blk m.pf.q.mz m.pf.q.bits m.pf.q.tz (m.pf.q.tags.map By.t) m.ic.h m.ic.n m.ic.at_ m.ic.xz m.ic.tx m.ic.pz (m.ic.path.map By.t)) (decTup r) := fun c r er => by
  refine qb ?_
  simp only [Xj.l1]
  refine qf (fun h => qd ?_) (fun h => qd ?_)
  ·rw [er, if_neg h]
   rfl
  ·have h : c = 0 := by omega
   rw [er, if_pos h]
   rfl
 refine qf (fun h => qf (fun h2 => e 9 _ ?_) (fun h2 => e c _ ?_)) (fun h => e c _ ?_)
 ·rw [if_pos h, if_neg (by omega), if_neg (by omega)]
 ·rw [if_pos h, if_pos (by omega), if_pos h]
 ·rw [if_neg h, if_neg h]
theorem XB.fin (m : Mg) (z : Bool) (b : List Int) (z2 : Bool) (b2 : List Int) (a : Nat) (c : Int) : Ev (fun k => XB.l0 k z b m.k m.vt.v m.vt.h m.vt.bz m.vt.blk m.vt.who m.vt.tz m.vt.tag m.qc.v m.qc.h m.qc.bz m.qc.blk m.qc.mz m.qc.bits m.qc.tz (m.qc.tags.map By.t) m.hd.v m.hd.h m.hd.p m.hd.az m.hd.par m.hd.rz m.hd.root m.hd.q.v m.hd.q.h m.hd.q.bz m.hd.q.blk m.hd.q.mz m.hd.q.bits m.hd.q.tz (m.hd.q.tags.map By.t) m.bk.hd.v m.bk.hd.h m.bk.hd.p m.bk.hd.az m.bk.hd.par m.bk.hd.rz m.bk.hd.root m.bk.hd.q.v m.bk.hd.q.h m.bk.hd.q.bz m.bk.hd.q.blk m.bk.hd.q.mz m.bk.hd.q.bits m.bk.hd.q.tz (m.bk.hd.q.tags.map By.t) m.bk.tz (m.bk.txs.map By.t) m.tc.v m.tc.ez (m.tc.ents.map En.t) m.pf.hz (m.pf.heads.map Head.t) m.pf.q.v m.pf.q.h m.pf.q.bz m.pf.q.blk m.pf.q.mz m.pf.q.bits m.pf.q.tz (m.pf.q.tags.map By.t) m.ic.h m.ic.n m.ic.at_ m.ic.xz m.ic.tx m.ic.pz (m.ic.path.map By.t) z2 b2 (a : Int) c) (decTup (decFin m a c b.length)) := by
 refine qb ?_
 simp only [XB.l0]
 unfold decFin
 refine Ev.bind (Xt.ev _ _ _ _ _ _) (qf (fun h => qd ?_) (fun h => qd ?_))
 ·have k : mustR (decide ((a : Int) = (b.length : Int))) 9 c ≠ 0 := h
  by_cases c0 : c = 0
  ·by_cases q : a = b.length
   ·rw [decide_eq_true (by omega), qdG] at k
    exact (k c0).elim
   ·rw [if_pos c0, if_neg q, decide_eq_false (by omega)]
    simp only [mustR, c0, and_self, if_true]
    rfl
  ·rw [if_neg c0, qbn _ _ c0]
   rfl
 ·have k : mustR (decide ((a : Int) = (b.length : Int))) 9 c = 0 := Classical.not_not.1 h
  obtain ⟨k1, k2⟩ := qA k (by decide)
  have k1 := of_decide_eq_true k1
  rw [if_pos k2, if_pos (by omega)]
  rfl
theorem qif {m m' : Mg} {c : Int} (h : c = 0 -> m = m') (a n : Nat) : decFin m a c n = decFin m' a c n := by
 unfold decFin
 by_cases q : c = 0
 ·rw [h q]
 ·rw [if_neg q, if_neg q]
theorem qL {α : Type} (mk : α -> Mg) (no : α) (r : α × Nat × Int) (n : Nat) : decFin (mk (getV no r).1) (getV no r).2.1 (getV no r).2.2 n = decFin (mk r.1) r.2.1 r.2.2 n := by
 unfold getV decFin
 by_cases q : r.2.2 = 0
 ·rw [if_pos q, if_pos q, if_pos rfl]
 ·rw [if_neg q, if_neg q, if_neg q]
def kindNames : List ByteArray := [⟨#[]⟩, ⟨#[118, 111, 116, 101]⟩, ⟨#[113, 99]⟩, ⟨#[104, 101, 97, 100]⟩, ⟨#[98, 108, 111, 99, 107]⟩, ⟨#[116, 99]⟩, ⟨#[112, 114, 111, 111, 102]⟩, ⟨#[105, 110, 99, 108]⟩]
theorem YaR.ev (a : Int) : Ev (fun k => YaR.f k a) (nameAt a kindNames) := by
 refine qb ?_
 simp only [YaR.f]
 exact Ev.bind (YbC.ev a false kindNames (by decide)) (qd rfl)
theorem qjL (a : Int) (h : 0 <= a) : nameAt a kindNames = (⟨#[]⟩ : ByteArray) ↔ ¬ (1 <= a /\ a <= 7) := by
 by_cases q : a <= 7
 ·obtain ⟨n, rfl⟩ : ∃ n : Nat, a = n := ⟨a.toNat, by omega⟩
  have q : n <= 7 := by omega
  rcases n with _ | _ | _ | _ | _ | _ | _ | _ | n <;> first | omega | (constructor <;> intro h <;> first | omega | rfl | (revert h; decide) | skip)
 ·unfold nameAt
  rw [if_neg (by simp [kindNames]; omega)]
  exact ⟨fun _ => by omega, fun _ => rfl⟩
theorem qiz (N tx txs hd : Int) (b : List Int) (h : b.length = 0) : decV N tx txs hd b = (noMg, 1) := by
 unfold decV
 rw [if_pos h]
theorem qgZ {b : List Int} (hb : niceB b) (h : b.length ≠ 0) : (0 <= rdI b 0 /\ rdI b 0 <= 255) /\ wrap64 (rdI b 0) = rdI b 0 := by
 have := qap hb.2 0
 have w : wrap64 (rdI b 0) = rdI b 0 := w64 (by omega) (by omega)
 exact ⟨by omega, w⟩
theorem Xj.ev {N tx txs fr hd : Int} (L : limitsOk N tx txs fr hd = true) (z : Bool) (b : List Int) (hb : niceB b) : Ev (fun k => Xj.f k N tx txs fr hd z b) (decTup (decV N tx txs hd b)) := by
 have l := XE.ev N tx txs fr hd
 rw [L] at l
 refine qb ?_
 simp only [Xj.f]
 refine Ev.bind l (qe (by simp) (qf (fun h => qd ?_) (fun h => ?_)))
 ·rw [qiz _ _ _ _ _ (by omega)]
  rfl
 have h : b.length ≠ 0 := by omega
 obtain ⟨r, w⟩ := qgZ hb h
 rw [w]
 unfold decV
 rw [if_neg h]
 simp only
 have K := qjL (rdI b 0) r.1
 refine qa (by omega) (Ev.bind (YaR.ev (rdI b 0)) (qf (fun q => qd ?_) (fun q => qa (by omega) ?_)))
 ·have q := K.1 q
  rw [if_neg (by omega), if_neg (by omega), if_neg (by omega), if_neg (by omega), if_neg (by omega), if_neg (by omega), if_neg (by omega)]
  rfl
 have q : 1 <= rdI b 0 /\ rdI b 0 <= 7 := Classical.not_not.1 fun c => q (K.2 c)
 generalize rdI b 0 = a at *
 refine qf (fun q1 => ?_) (fun q1 => ?_)
 ·subst q1
  rw [if_pos rfl]
  have F := Xj.fin ({ noMg with k := 1, vt := (getV noVt (voteR b N 1 0)).1 } : Mg) z b (getV noVt (voteR b N 1 0)).2.1 (getV noVt (voteR b N 1 0)).2.2
  rw [qL (fun x => ({ noMg with k := 1, vt := x } : Mg))] at F
  exact Ev.bind (YaT.ev L z b hb 1 (by omega)) F
 refine qf (fun q2 => ?_) (fun q2 => ?_)
 ·subst q2
  rw [if_neg (by omega)]
  rw [if_pos rfl]
  have F := Xj.fin ({ noMg with k := 2, qc := (getV noQc (qcR b N 1 0)).1 } : Mg) z b (getV noQc (qcR b N 1 0)).2.1 (getV noQc (qcR b N 1 0)).2.2
  rw [qL (fun x => ({ noMg with k := 2, qc := x } : Mg))] at F
  exact Ev.bind (YaU.ev L z b hb 1 (by omega)) F
 refine qf (fun q3 => ?_) (fun q3 => ?_)
 ·subst q3
  rw [if_neg (by omega)]
  rw [if_neg (by omega)]
  rw [if_pos rfl]
  have F := Xj.fin ({ noMg with k := 3, hd := (getV noHd (headR b N 1 0)).1 } : Mg) z b (getV noHd (headR b N 1 0)).2.1 (getV noHd (headR b N 1 0)).2.2
  rw [qL (fun x => ({ noMg with k := 3, hd := x } : Mg))] at F
  exact Ev.bind (YaV.ev L z b hb 1 (by omega)) F
 refine qf (fun q4 => ?_) (fun q4 => ?_)
 ·subst q4
  rw [if_neg (by omega)]
  rw [if_neg (by omega)]
  rw [if_neg (by omega)]
  rw [if_pos rfl]
  have F := Xj.fin ({ noMg with k := 4, bk := (getV noBk (blockR b N tx txs 1 0)).1 } : Mg) z b (getV noBk (blockR b N tx txs 1 0)).2.1 (getV noBk (blockR b N tx txs 1 0)).2.2
  rw [qL (fun x => ({ noMg with k := 4, bk := x } : Mg))] at F
  exact Ev.bind (YaX.ev L z b hb 1 (by omega)) F
 refine qf (fun q5 => ?_) (fun q5 => ?_)
 ·subst q5
  rw [if_neg (by omega)]
  rw [if_neg (by omega)]
  rw [if_neg (by omega)]
  rw [if_neg (by omega)]
  rw [if_pos rfl]
  have F := Xj.fin ({ noMg with k := 5, tc := (getV noTc (tcR b N 1 0)).1 } : Mg) z b (getV noTc (tcR b N 1 0)).2.1 (getV noTc (tcR b N 1 0)).2.2
  rw [qL (fun x => ({ noMg with k := 5, tc := x } : Mg))] at F
  exact Ev.bind (YaY.ev L z b hb 1 (by omega)) F
 refine qf (fun q6 => ?_) (fun q6 => ?_)
 ·subst q6
  rw [if_neg (by omega)]
  rw [if_neg (by omega)]
  rw [if_neg (by omega)]
  rw [if_neg (by omega)]
  rw [if_neg (by omega)]
  rw [if_pos rfl]
  have F := Xj.fin ({ noMg with k := 6, pf := (getV noPf (proofR b N hd 1 0)).1 } : Mg) z b (getV noPf (proofR b N hd 1 0)).2.1 (getV noPf (proofR b N hd 1 0)).2.2
  rw [qL (fun x => ({ noMg with k := 6, pf := x } : Mg))] at F
  exact Ev.bind (Yba.ev L z b hb 1 (by omega)) F
 ·obtain rfl : a = 7 := by omega
  rw [if_neg (by omega)]
  rw [if_neg (by omega)]
  rw [if_neg (by omega)]
  rw [if_neg (by omega)]
  rw [if_neg (by omega)]
  rw [if_neg (by omega)]
  rw [if_pos rfl]
  have F := Xj.fin ({ noMg with k := 7, ic := (getV noInc (inclR b tx txs 1 0)).1 } : Mg) z b (getV noInc (inclR b tx txs 1 0)).2.1 (getV noInc (inclR b tx txs 1 0)).2.2
  rw [qL (fun x => ({ noMg with k := 7, ic := x } : Mg))] at F
  exact Ev.bind (Ybb.ev L z b hb 1 (by omega)) F
theorem XB.ev {N tx txs fr hd : Int} (L : limitsOk N tx txs fr hd = true) (z : Bool) (b : List Int) (hb : niceB b) : Ev (fun k => XB.f k N tx txs fr hd z b) (decTup (decV N tx txs hd b)) := by
 have l := Yaq.ev N tx txs fr hd
 rw [L] at l
 have hN := qJ L
 have hL : (1 <= N /\ N <= 10) /\ (0 <= tx /\ tx <= 40) /\ (0 <= txs /\ txs <= 8) /\ (1 <= fr /\ fr <= 4000) /\ (3 <= hd /\ hd <= 5) := by simpa [limitsOk] using L
 have ht : txs <= 8 := by omega
 refine qb ?_
 simp only [XB.f]
 refine Ev.bind l (qe (by simp) (qf (fun h => qd ?_) (fun h => ?_)))
 ·rw [qiz _ _ _ _ _ (by omega)]
  rfl
 have h : b.length ≠ 0 := by omega
 obtain ⟨r, w⟩ := qgZ hb h
 rw [w]
 unfold decV
 rw [if_neg h]
 simp only
 refine qa (by omega) (Ev.bind (YaG.ev L z b 1) ?_)
 generalize rdI b 0 = a at *
 refine qf (fun q1 => ?_) (fun q1 => ?_)
 ·subst q1
  rw [if_pos rfl]
  have F := XB.fin ({ noMg with k := 1, vt := (getV noVt (voteR b N 1 0)).1 } : Mg) z b z b (getV noVt (voteR b N 1 0)).2.1 (getV noVt (voteR b N 1 0)).2.2
  rw [qL (fun x => ({ noMg with k := 1, vt := x } : Mg))] at F
  exact Ev.bind (Ybd.ev L z b hb 1 (by omega)) F
 refine qf (fun q2 => ?_) (fun q2 => ?_)
 ·subst q2
  rw [if_neg (by omega)]
  rw [if_pos rfl]
  exact Ev.bind (Xl.ev N tx txs fr hd hN z b hb 1 (by omega) 0) (XB.fin ({ noMg with k := 2, qc := (qcR b N 1 0).1 } : Mg) z b z b (qcR b N 1 0).2.1 (qcR b N 1 0).2.2)
 refine qf (fun q3 => ?_) (fun q3 => ?_)
 ·subst q3
  rw [if_neg (by omega)]
  rw [if_neg (by omega)]
  rw [if_pos rfl]
  exact Ev.bind (Yap.ev N tx txs fr hd hN z b hb 1 (by omega) 0) (XB.fin ({ noMg with k := 3, hd := (headR b N 1 0).1 } : Mg) z b z b (headR b N 1 0).2.1 (headR b N 1 0).2.2)
 refine qf (fun q4 => ?_) (fun q4 => ?_)
 ·subst q4
  rw [if_neg (by omega)]
  rw [if_neg (by omega)]
  rw [if_neg (by omega)]
  rw [if_pos rfl]
  exact Ev.bind (Xw.ev N tx txs fr hd L z b hb 1 (by omega) 0) (XB.fin ({ noMg with k := 4, bk := (blockR b N tx txs 1 0).1 } : Mg) z b z b (blockR b N tx txs 1 0).2.1 (blockR b N tx txs 1 0).2.2)
 refine qf (fun q5 => ?_) (fun q5 => ?_)
 ·subst q5
  rw [if_neg (by omega)]
  rw [if_neg (by omega)]
  rw [if_neg (by omega)]
  rw [if_neg (by omega)]
  rw [if_pos rfl]
  exact Ev.bind (XU.ev N tx txs fr hd hN z b hb 1 (by omega) 0) (XB.fin ({ noMg with k := 5, tc := (tcR b N 1 0).1 } : Mg) z b z b (tcR b N 1 0).2.1 (tcR b N 1 0).2.2)
 refine qf (fun q6 => ?_) (fun q6 => ?_)
 ·subst q6
  rw [if_neg (by omega)]
  rw [if_neg (by omega)]
  rw [if_neg (by omega)]
  rw [if_neg (by omega)]
  rw [if_neg (by omega)]
  rw [if_pos rfl]
  exact Ev.bind (Xx.ev N tx txs fr hd L z b hb 1 (by omega) 0) (XB.fin ({ noMg with k := 6, pf := (proofR b N hd 1 0).1 } : Mg) z b z b (proofR b N hd 1 0).2.1 (proofR b N hd 1 0).2.2)
 refine qf (fun q7 => ?_) (fun q7 => ?_)
 ·subst q7
  rw [if_neg (by omega)]
  rw [if_neg (by omega)]
  rw [if_neg (by omega)]
  rw [if_neg (by omega)]
  rw [if_neg (by omega)]
  rw [if_neg (by omega)]
  rw [if_pos rfl]
  obtain ⟨x, e, q⟩ := XV.ev N tx txs fr hd ht z b hb 1 (by omega) 0
  rw [<- qif (m := { noMg with k := 7, ic := x }) (fun c => by rw [q c])]
  exact Ev.bind e (XB.fin ({ noMg with k := 7, ic := x } : Mg) z b z b (inclR b tx txs 1 0).2.1 (inclR b tx txs 1 0).2.2)
 ·rw [if_neg (by omega), if_neg (by omega), if_neg (by omega), if_neg (by omega), if_neg (by omega), if_neg (by omega), if_neg (by omega)]
  exact XB.fin ({ noMg with k := a } : Mg) z b z b 1 8
structure Evt where
 k : Int
 n : Int
 m : Mg
def Evt.t (x : Evt) : T := .agg [.int .i64 x.k, .int .i64 x.n, .int .i64 x.m.k, .int .i64 x.m.vt.v, .int .i64 x.m.vt.h, .nums 5 .u8 x.m.vt.bz x.m.vt.blk, .int .i64 x.m.vt.who, .nums 5 .u8 x.m.vt.tz x.m.vt.tag, .int .i64 x.m.qc.v, .int .i64 x.m.qc.h, .nums 5 .u8 x.m.qc.bz x.m.qc.blk, .nums 5 .u8 x.m.qc.mz x.m.qc.bits, .sl 24 x.m.qc.tz (x.m.qc.tags.map By.t), .int .i64 x.m.hd.v, .int .i64 x.m.hd.h, .int .i64 x.m.hd.p, .nums 5 .u8 x.m.hd.az x.m.hd.par, .nums 5 .u8 x.m.hd.rz x.m.hd.root, .int .i64 x.m.hd.q.v, .int .i64 x.m.hd.q.h, .nums 5 .u8 x.m.hd.q.bz x.m.hd.q.blk, .nums 5 .u8 x.m.hd.q.mz x.m.hd.q.bits, .sl 24 x.m.hd.q.tz (x.m.hd.q.tags.map By.t), .int .i64 x.m.bk.hd.v, .int .i64 x.m.bk.hd.h, .int .i64 x.m.bk.hd.p, .nums 5 .u8 x.m.bk.hd.az x.m.bk.hd.par, .nums 5 .u8 x.m.bk.hd.rz x.m.bk.hd.root, .int .i64 x.m.bk.hd.q.v, .int .i64 x.m.bk.hd.q.h, .nums 5 .u8 x.m.bk.hd.q.bz x.m.bk.hd.q.blk, .nums 5 .u8 x.m.bk.hd.q.mz x.m.bk.hd.q.bits, .sl 24 x.m.bk.hd.q.tz (x.m.bk.hd.q.tags.map By.t), .sl 24 x.m.bk.tz (x.m.bk.txs.map By.t), .int .i64 x.m.tc.v, .sl 83 x.m.tc.ez (x.m.tc.ents.map En.t), .sl 54 x.m.pf.hz (x.m.pf.heads.map Head.t), .int .i64 x.m.pf.q.v, .int .i64 x.m.pf.q.h, .nums 5 .u8 x.m.pf.q.bz x.m.pf.q.blk, .nums 5 .u8 x.m.pf.q.mz x.m.pf.q.bits, .sl 24 x.m.pf.q.tz (x.m.pf.q.tags.map By.t), .int .i64 x.m.ic.h, .int .i64 x.m.ic.n, .int .i64 x.m.ic.at_, .nums 5 .u8 x.m.ic.xz x.m.ic.tx, .sl 24 x.m.ic.pz (x.m.ic.path.map By.t)]
def evtOf (r : Mg × Int) : Evt := if r.2 = 0 then ⟨3, 0, r.1⟩ else ⟨2, r.2, noMg⟩
def skipE (sk : Int) : List Evt := if sk > 0 then [⟨1, sk, noMg⟩] else []
def frData (b : List Int) (i w : Nat) : List Int := (b.take (i + w)).drop (i + 8)
def scanV (N tx txs fr hd : Int) (b : List Int) (cl : Bool) : Nat -> Nat -> Int -> List Evt × Nat × Int
 | 0, i, sk => ([], i, sk)
 | m + 1, i, sk =>
  if i < b.length then
   if (frameAt true fr b i).1 = 1 /\ cl = false then ([], i, sk)
   else if (frameAt true fr b i).1 = 3 then
    let r := scanV N tx txs fr hd b cl m (i + (frameAt true fr b i).2.toNat) 0
    (skipE sk ++ evtOf (decV N tx txs hd (frData b i (frameAt true fr b i).2.toNat)) :: r.1, r.2)
   else scanV N tx txs fr hd b cl m (i + 1) (sk + 1)
  else (if cl then skipE sk else [], i, sk)
theorem frame3 {fr : Int} {b : List Int} (hb : niceB b) {i : Nat} (hi : i < b.length) (h : (frameAt true fr b i).1 = 3) : ∃ w : Nat, (frameAt true fr b i).2 = w /\ 9 <= w /\ i + w <= b.length := by
 unfold frameAt at *
 split at h
 ·cases h
 rename_i q
 rw [if_neg q]
 split at h
 ·cases h
 rename_i q
 rw [if_neg q]
 split at h
 ·cases h
 rename_i q
 rw [if_neg q]
 split at h
 ·cases h
 rename_i q2
 rw [if_neg q2]
 refine ⟨(8 + leVal ((b.drop (i + 2)).take 2)).toNat, ?_, by omega, by omega⟩
 split <;> (show (8 + leVal ((b.drop (i + 2)).take 2)) = _; omega)
theorem qbz {b : List Int} (hb : niceB b) (i w : Nat) : niceB (frData b i w) := by
 refine ⟨?_, fun x hx => hb.2 x (List.mem_of_mem_take (List.mem_of_mem_drop hx))⟩
 have := hb.1
 unfold frData
 simp only [List.length_drop, List.length_take]
 omega
theorem YaH.ev {N tx txs fr hd : Int} (L : limitsOk N tx txs fr hd = true) (z : Bool) (b : List Int) (hb : niceB b) (i : Nat) (hi : i < b.length) (w : Nat) (h3 : frameAt true fr b i = (3, (w : Int))) (h9 : 9 <= w) (hw : i + w <= b.length) : Ev (fun k => YaH.f k N tx txs fr hd z b (i : Int)) (false, frData b i w, true) := by
 have F := XH.ev N tx txs fr hd z b i hb (by omega)
 rw [L, h3] at F
 have hl := hb.1
 have w1 : wrap64 ((i : Int) + w) = ((i + w : Nat) : Int) := by rw [w64 (by omega) (by omega)]; omega
 have w2 : wrap64 ((i : Int) + 8) = ((i + 8 : Nat) : Int) := by rw [w64 (by omega) (by omega)]; omega
 refine qb ?_
 simp only [YaH.f]
 refine Ev.bind F ?_
 simp only [w1, w2, Int.toNat_natCast]
 exact qe (by simp) (qa (by omega) (qa (by omega) (qa (by omega) (qa (by omega) (Ev.bind (Yat.ev z (frData b i w) (by have := (qbz hb i w).1; omega)) (qd rfl))))))
theorem qjv {α : Type} {s g : Nat -> Option α} {r : α} {b1 b2 : Bool} {c1 c2 : Prop} [i1 : IsB b1 c1] [i2 : IsB b2 c2] (h : ¬ (c1 /\ c2)) (H : Ev g r) : Ev (fun k => cond b1 (cond b2 (s k) (g k)) (g k)) r :=
 qf (fun q => qe (fun q2 => h ⟨q, q2⟩) H) (fun q => H)
theorem qcY (sk : Int) : (skipE sk).length <= 1 := by unfold skipE; split <;> simp
theorem qbK {sk : Int} (h : sk > 0) : skipE sk = [⟨1, sk, noMg⟩] := by unfold skipE; rw [if_pos h]
theorem qcA {sk : Int} (h : ¬ sk > 0) : skipE sk = [] := by unfold skipE; rw [if_neg h]
theorem qep {b : List Int} {m i w : Nat} (h : b.length < i + (m + 1)) (h9 : 9 <= w) : b.length < i + w + m := by omega
theorem Xh.ev0 {N tx txs fr hd : Int} (L : limitsOk N tx txs fr hd = true) (z : Bool) (b : List Int) (hb : niceB b) (cl : Bool) : ∀ (m i : Nat) (sk : Int) (acc : List Evt), b.length < i + m -> i <= b.length -> (0 <= sk /\ sk <= 1152921504606846976 + i) -> acc.length <= 2 * i ->
  Ev (fun k => Xh.l0 k z b cl sk (acc.map Evt.t) (i : Int) N tx txs fr hd) (false, (acc ++ (scanV N tx txs fr hd b cl m i sk).1).map Evt.t, (scanV N tx txs fr hd b cl m i sk).2.2, ((scanV N tx txs fr hd b cl m i sk).2.1 : Int)) := by
 have hl := hb.1
 intro m
 induction m with
 | zero => intro i sk acc hm hi; omega
 | succ m ih =>
  intro i sk acc hm hi hs ha
  refine qb ?_
  simp only [Xh.l0]
  rw [scanV]
  by_cases h : i < b.length
  ·rw [if_pos h]
   have F := XH.ev N tx txs fr hd z b i hb hi
   rw [L] at F
   by_cases c1 : (frameAt true fr b i).1 = 1 /\ cl = false
   ·rw [if_pos c1]
    refine qa (by omega) (Ev.bind F (qa c1.1 (qa (by simp [c1.2]) ?_)))
    exact qd (by rw [List.append_nil])
   ·rw [if_neg c1]
    refine qa (by omega) (Ev.bind F (qjv (fun c => c1 ⟨c.1, by simpa using c.2⟩) ?_))
    refine qb ?_
    simp only [Xh.l1, List.length_map]
    by_cases c3 : (frameAt true fr b i).1 = 3
    ·rw [if_pos c3]
     obtain ⟨w, e, h9, hw⟩ := frame3 hb h c3
     have e3 : frameAt true fr b i = (3, (w : Int)) := Prod.ext c3 e
     rw [e, Int.toNat_natCast]
     have w1 : wrap64 ((i : Int) + w) = ((i + w : Nat) : Int) := by rw [w64 (by omega) (by omega)]; omega
     have w2 : wrap64 ((i : Int) + 8) = ((i + 8 : Nat) : Int) := by rw [w64 (by omega) (by omega)]; omega
     have sl := qcY sk
     have go2 : ∀ (sk' : Int) (hsk : sk' = 0) (pre : List Evt), pre.length <= 2 * i + 1 -> Ev (fun k => Xh.l2 k z b cl (pre.map Evt.t) (i : Int) (w : Int) N tx txs fr hd) (false, (pre ++ evtOf (decV N tx txs hd (frData b i w)) :: (scanV N tx txs fr hd b cl m (i + w) 0).1).map Evt.t, (scanV N tx txs fr hd b cl m (i + w) 0).2.2, ((scanV N tx txs fr hd b cl m (i + w) 0).2.1 : Int)) := fun sk' hsk pre hp => by
      subst hsk
      have i2 := ih (i + w) 0 (pre ++ [evtOf (decV N tx txs hd (frData b i w))]) (qep hm h9) hw (by omega) (by rw [List.length_append, List.length_cons, List.length_nil]; omega)
      rw [List.append_assoc, List.cons_append, List.nil_append, List.map_append (l₂ := [evtOf _]), List.map_cons, List.map_nil] at i2
      have D := Xj.ev L false (frData b i w) (qbz hb i w)
      refine qb ?_
      simp only [Xh.l2, List.length_map, w1, w2, Int.toNat_natCast]
      generalize decV N tx txs hd (frData b i w) = d at *
      refine Ev.bind (YaH.ev L z b hb i h w e3 h9 hw) (Ev.bind D (qf (fun q => qa (by omega) ?_) (fun q => qa (by omega) ?_)))
      ·have e : evtOf d = ⟨3, 0, d.1⟩ := if_pos q
       rw [e] at i2 ⊢
       exact i2
      ·have e : evtOf d = ⟨2, d.2, noMg⟩ := if_neg q
       rw [e] at i2 ⊢
       exact i2
     refine qe (fun c => c c3) (qf (fun q => ?_) (fun q => ?_))
     ·have q : sk > 0 := by omega
      have g := go2 0 rfl (acc ++ [⟨1, sk, noMg⟩]) (by rw [List.length_append, List.length_cons, List.length_nil]; omega)
      rw [List.append_assoc, List.cons_append, List.nil_append, List.map_append (l₂ := [_]), List.map_cons, List.map_nil] at g
      rw [qbK q, List.cons_append, List.nil_append]
      exact qa (by omega) g
     ·rw [qcA (by omega), List.nil_append]
      exact go2 sk (by omega) acc (by omega)
    ·rw [if_neg c3]
     have w1 : wrap64 ((i : Int) + 1) = ((i + 1 : Nat) : Int) := by rw [w64 (by omega) (by omega)]; omega
     have w2 : wrap64 (sk + 1) = sk + 1 := w64 (by omega) (by omega)
     rw [w1, w2]
     exact qa c3 (ih (i + 1) (sk + 1) acc (by omega) (by omega) (by omega) (by omega))
  ·rw [if_neg h]
   refine qe (by omega) (qf (fun c => qf (fun q => qa (by simp only [List.length_map]; omega) (qd ?_)) (fun q => qd ?_)) (fun c => qd ?_))
   ·rw [if_pos c, qbK (by omega), List.map_append, List.map_cons, List.map_nil]
    rfl
   ·rw [if_pos c, qcA (by omega), List.append_nil]
   ·rw [if_neg c, List.append_nil]
theorem Xf.ev0 {N tx txs fr hd : Int} (L : limitsOk N tx txs fr hd = true) (z : Bool) (b : List Int) (hb : niceB b) (cl : Bool) : ∀ (m i : Nat) (sk : Int) (acc : List Evt), b.length < i + m -> i <= b.length -> (0 <= sk /\ sk <= 1152921504606846976 + i) -> acc.length <= 2 * i ->
  Ev (fun k => Xf.l0 k z b cl sk (acc.map Evt.t) (i : Int) N tx txs fr hd) (false, (acc ++ (scanV N tx txs fr hd b cl m i sk).1).map Evt.t, ((scanV N tx txs fr hd b cl m i sk).2.1 : Int), (scanV N tx txs fr hd b cl m i sk).2.2) := by
 have hl := hb.1
 intro m
 induction m with
 | zero => intro i sk acc hm hi; omega
 | succ m ih =>
  intro i sk acc hm hi hs ha
  refine qb ?_
  simp only [Xf.l0]
  rw [scanV]
  by_cases h : i < b.length
  ·rw [if_pos h]
   have F := XJ.ev N tx txs fr hd z b i hb hi
   rw [L] at F
   by_cases c1 : (frameAt true fr b i).1 = 1 /\ cl = false
   ·rw [if_pos c1]
    refine qa (by omega) (Ev.bind F (qa c1.1 (qa (by simp [c1.2]) ?_)))
    refine qb ?_
    simp only [Xf.l1]
    exact qe (by simp [c1.2]) (qd (by rw [List.append_nil]))
   ·rw [if_neg c1]
    refine qa (by omega) (Ev.bind F (qjv (fun c => c1 ⟨c.1, by simpa using c.2⟩) ?_))
    refine qb ?_
    simp only [Xf.l2, List.length_map]
    by_cases c3 : (frameAt true fr b i).1 = 3
    ·rw [if_pos c3]
     obtain ⟨w, e, h9, hw⟩ := frame3 hb h c3
     have e3 : frameAt true fr b i = (3, (w : Int)) := Prod.ext c3 e
     rw [e, Int.toNat_natCast]
     have w1 : wrap64 ((i : Int) + w) = ((i + w : Nat) : Int) := by rw [w64 (by omega) (by omega)]; omega
     have w2 : wrap64 ((i : Int) + 8) = ((i + 8 : Nat) : Int) := by rw [w64 (by omega) (by omega)]; omega
     have sl := qcY sk
     have go2 : ∀ (sk' : Int) (hsk : sk' = 0) (pre : List Evt), pre.length <= 2 * i + 1 -> Ev (fun k => Xf.l3 k z b cl sk' (pre.map Evt.t) (i : Int) (w : Int) N tx txs fr hd) (false, (pre ++ evtOf (decV N tx txs hd (frData b i w)) :: (scanV N tx txs fr hd b cl m (i + w) 0).1).map Evt.t, ((scanV N tx txs fr hd b cl m (i + w) 0).2.1 : Int), (scanV N tx txs fr hd b cl m (i + w) 0).2.2) := fun sk' hsk pre hp => by
      subst hsk
      have i2 := ih (i + w) 0 (pre ++ [evtOf (decV N tx txs hd (frData b i w))]) (qep hm h9) hw (by omega) (by rw [List.length_append, List.length_cons, List.length_nil]; omega)
      rw [List.append_assoc, List.cons_append, List.nil_append, List.map_append (l₂ := [evtOf _]), List.map_cons, List.map_nil] at i2
      have D := XB.ev L z (frData b i w) (qbz hb i w)
      refine qb ?_
      simp only [Xf.l3, List.length_map, w1, w2, Int.toNat_natCast]
      generalize decV N tx txs hd (frData b i w) = d at *
      refine qa (by omega) (qa (by omega) (qa (by omega) (qa (by omega) (Ev.bind D (qf (fun q => qa (by omega) ?_) (fun q => qa (by omega) ?_))))))
      ·have e : evtOf d = ⟨3, 0, d.1⟩ := if_pos q
       rw [e] at i2 ⊢
       exact i2
      ·have e : evtOf d = ⟨2, d.2, noMg⟩ := if_neg q
       rw [e] at i2 ⊢
       exact i2
     refine qe (fun c => c c3) (qf (fun q => ?_) (fun q => ?_))
     ·have q : sk > 0 := by omega
      have g := go2 0 rfl (acc ++ [⟨1, sk, noMg⟩]) (by rw [List.length_append, List.length_cons, List.length_nil]; omega)
      rw [List.append_assoc, List.cons_append, List.nil_append, List.map_append (l₂ := [_]), List.map_cons, List.map_nil] at g
      rw [qbK q, List.cons_append, List.nil_append]
      exact qa (by omega) g
     ·rw [qcA (by omega), List.nil_append]
      exact go2 sk (by omega) acc (by omega)
    ·rw [if_neg c3]
     have w1 : wrap64 ((i : Int) + 1) = ((i + 1 : Nat) : Int) := by rw [w64 (by omega) (by omega)]; omega
     have w2 : wrap64 (sk + 1) = sk + 1 := w64 (by omega) (by omega)
     rw [w1, w2]
     exact qa c3 (ih (i + 1) (sk + 1) acc (by omega) (by omega) (by omega) (by omega))
  ·rw [if_neg h]
   refine qe (by omega) (qb ?_)
   simp only [Xf.l1]
   refine qf (fun c => qf (fun q => qa (by simp only [List.length_map]; omega) (qd ?_)) (fun q => qd ?_)) (fun c => qd ?_)
   ·rw [if_pos c, qbK (by omega), List.map_append, List.map_cons, List.map_nil]
    rfl
   ·rw [if_pos c, qcA (by omega), List.append_nil]
   ·rw [if_neg c, List.append_nil]
def Sm (l : List Int) : Prop := l.length <= 100
def SmB (l : List By) : Prop := l.length <= 16 /\ ∀ x ∈ l, Sm x.l
def SmE (l : List En) : Prop := l.length <= 16 /\ ∀ x ∈ l, Sm x.tag
structure QcV.sm (q : QcV) : Prop where
 blk : Sm q.blk
 bits : Sm q.bits
 tags : SmB q.tags
structure Head.sm (x : Head) : Prop where
 par : Sm x.par
 root : Sm x.root
 q : x.q.sm
def SmH (l : List Head) : Prop := l.length <= 16 /\ ∀ x ∈ l, x.sm
structure Mg.sm (x : Mg) : Prop where
 blk : Sm x.vt.blk
 tag : Sm x.vt.tag
 qc : x.qc.sm
 hd : x.hd.sm
 bk : x.bk.hd.sm
 txs : SmB x.bk.txs
 tc : SmE x.tc.ents
 heads : SmH x.pf.heads
 pq : x.pf.q.sm
 tx : Sm x.ic.tx
 path : SmB x.ic.path
theorem Sm.ok {l : List Int} (h : Sm l) : okB l := by unfold Sm at h; unfold okB; omega
theorem SmB.few {l : List By} (h : SmB l) : FewB l := ⟨Nat.le_trans h.1 (by decide), fun x hx => (h.2 x hx).ok⟩
theorem SmE.few {l : List En} (h : SmE l) : FewE l := ⟨Nat.le_trans h.1 (by decide), fun x hx => (h.2 x hx).ok⟩
theorem QcV.sm.few {q : QcV} (h : q.sm) : q.few := ⟨h.blk.ok, h.bits.ok, h.tags.few⟩
theorem Head.sm.few {q : Head} (h : q.sm) : q.few := ⟨h.par.ok, h.root.ok, h.q.few⟩
theorem SmH.few {l : List Head} (h : SmH l) : FewH l := ⟨Nat.le_trans h.1 (by decide), fun x hx => (h.2 x hx).few⟩
theorem Mg.sm.few {x : Mg} (h : x.sm) : x.few := ⟨⟨h.blk.ok, h.tag.ok⟩, h.qc.few, h.hd.few, ⟨h.bk.few, h.txs.few⟩, h.tc.few, ⟨h.heads.few, h.pq.few⟩, ⟨h.tx.ok, h.path.few⟩⟩
theorem qX : Sm [] := Nat.zero_le _
theorem qbj : SmB [] := ⟨Nat.zero_le _, fun x hx => (List.not_mem_nil hx).elim⟩
theorem qha : SmE [] := ⟨Nat.zero_le _, fun x hx => (List.not_mem_nil hx).elim⟩
theorem qhd : SmH [] := ⟨Nat.zero_le _, fun x hx => (List.not_mem_nil hx).elim⟩
theorem qeP : noQc.sm := ⟨qX, qX, qbj⟩
theorem qgU : noHd.sm := ⟨qX, qX, qeP⟩
theorem qcc : noMg.sm := ⟨qX, qX, qeP, qgU, qgU, qbj, qha, qhd, qeP, qX, qbj⟩
theorem qgY (b : List Int) (a : Nat) {n : Nat} (hn : n <= 100) : Sm (rawV b a n).2.1 := by
 unfold rawV Sm
 split
 ·show ((b.drop a).take n).length <= 100
  rw [List.length_take]
  omega
 ·exact Nat.zero_le _
theorem qan (b : List Int) (a : Nat) (c : Int) : Sm (rawR b a c).2.1 := by
 unfold rawR
 split
 ·exact qgY b a (by decide)
 ·exact qX
theorem qiU (b : List Int) (a : Nat) {N : Int} (hN : 1 <= N /\ N <= 10) : (bitsV b a N).2.1.length <= 2 := by
 have s := qcD hN
 unfold bitsV
 simp only
 split
 ·exact Nat.zero_le _
 ·split
  ·show (rawV b a (bitsSize N).toNat).2.1.length <= 2
   unfold rawV
   split
   ·show ((b.drop a).take _).length <= 2
    rw [List.length_take]
    omega
   ·exact Nat.zero_le _
  ·exact Nat.zero_le _
theorem qgq (b : List Int) (a : Nat) (c : Int) {m : Int} (hm : m <= 40) : Sm (textR b a c m).2.1 := by
 unfold textR
 split
 ·unfold textV
  simp only
  split
  ·exact qX
  ·split
   ·exact qX
   ·exact qgY b _ (by omega)
 ·exact qX
theorem qdR (b : List Int) : ∀ (m a : Nat) (c : Int), (tagsR b m a c).1.length = m /\ ∀ x ∈ (tagsR b m a c).1, Sm x.l
 | 0, a, c => ⟨rfl, fun x hx => (List.not_mem_nil hx).elim⟩
 | m + 1, a, c => by
  obtain ⟨h1, h2⟩ := qdR b m (rawR b a c).2.2.1 (rawR b a c).2.2.2
  refine ⟨by simp [tagsR, h1], fun x hx => ?_⟩
  rcases List.mem_cons.1 hx with rfl | hx
  ·exact qan b a c
  ·exact h2 x hx
theorem qga (b : List Int) {N : Int} (hN : 1 <= N /\ N <= 10) (a : Nat) (c : Int) : (qcR b N a c).1.sm := by
 unfold qcR
 simp only
 split
 ·obtain ⟨h1, h2⟩ := qdR b (bitCount (bitsV b (rawR b (numR b (numR b a c).2.1 (numR b a c).2.2).2.1 (numR b (numR b a c).2.1 (numR b a c).2.2).2.2).2.2.1 N).2.1) (bitsV b (rawR b (numR b (numR b a c).2.1 (numR b a c).2.2).2.1 (numR b (numR b a c).2.1 (numR b a c).2.2).2.2).2.2.1 N).2.2.1 (bitsV b (rawR b (numR b (numR b a c).2.1 (numR b a c).2.2).2.1 (numR b (numR b a c).2.1 (numR b a c).2.2).2.2).2.2.1 N).2.2.2
  have l := qiU b (rawR b (numR b (numR b a c).2.1 (numR b a c).2.2).2.1 (numR b (numR b a c).2.1 (numR b a c).2.2).2.2).2.2.1 hN
  have k := qaN (bitsV b (rawR b (numR b (numR b a c).2.1 (numR b a c).2.2).2.1 (numR b (numR b a c).2.1 (numR b a c).2.2).2.2).2.2.1 N).2.1
  exact ⟨qan _ _ _, Nat.le_trans l (by decide), ⟨by rw [h1]; omega, h2⟩⟩
 ·exact ⟨qan _ _ _, qX, qbj⟩
theorem qdJ (b : List Int) {N : Int} (hN : 1 <= N /\ N <= 10) (a : Nat) (c : Int) : (headR b N a c).1.sm := ⟨qan _ _ _, qan _ _ _, qga b hN _ _⟩
theorem qju (b : List Int) (N : Int) (a : Nat) (c : Int) : Sm (voteR b N a c).1.blk /\ Sm (voteR b N a c).1.tag := ⟨qan _ _ _, qan _ _ _⟩
theorem qhe (b : List Int) {tx : Int} (ht : tx <= 40) : ∀ (m a : Nat) (c : Int), (txsR b tx m a c).1.length <= m /\ ∀ x ∈ (txsR b tx m a c).1, Sm x.l
 | 0, a, c => ⟨Nat.le_refl _, fun x hx => (List.not_mem_nil hx).elim⟩
 | m + 1, a, c => by
  obtain ⟨h1, h2⟩ := qhe b ht m (textR b a c tx).2.2.1 (textR b a c tx).2.2.2
  unfold txsR
  split
  ·refine ⟨by rw [List.length_cons]; omega, fun x hx => ?_⟩
   rcases List.mem_cons.1 hx with rfl | hx
   ·exact qgq b a c ht
   ·exact h2 x hx
  ·exact ⟨Nat.zero_le _, fun x hx => (List.not_mem_nil hx).elim⟩
theorem qhY (b : List Int) {N tx txs : Int} (hN : 1 <= N /\ N <= 10) (ht : tx <= 40) (hs : txs <= 8) (a : Nat) (c : Int) : (blockR b N tx txs a c).1.hd.sm /\ SmB (blockR b N tx txs a c).1.txs := by
 refine ⟨qdJ b hN a c, ?_⟩
 unfold blockR
 simp only
 generalize numR b (headR b N a c).2.1 (headR b N a c).2.2 = v
 by_cases h : mustR (decide (v.1 < txs + 1)) 3 v.2.2 = 0
 ·have := of_decide_eq_true (qA h (by decide)).1
  obtain ⟨h1, h2⟩ := qhe b ht v.1.toNat v.2.1 (mustR (decide (v.1 < txs + 1)) 3 v.2.2)
  exact ⟨by omega, h2⟩
 ·rw [qfy b tx _ _ h]
  exact qbj
theorem qfM (b : List Int) (N view : Int) : ∀ (m : Nat) (prev : Int) (a : Nat) (c : Int), (entsR b N view m prev a c).1.length <= m /\ ∀ x ∈ (entsR b N view m prev a c).1, Sm x.tag
 | 0, prev, a, c => ⟨Nat.le_refl _, fun x hx => (List.not_mem_nil hx).elim⟩
 | m + 1, prev, a, c => by
  obtain ⟨h1, h2⟩ := qfM b N view m (entR b N view prev a c).e.who (entR b N view prev a c).a (entR b N view prev a c).c
  unfold entsR
  split
  ·refine ⟨by rw [List.length_cons]; omega, fun x hx => ?_⟩
   rcases List.mem_cons.1 hx with rfl | hx
   ·exact qan _ _ _
   ·exact h2 x hx
  ·exact ⟨Nat.zero_le _, fun x hx => (List.not_mem_nil hx).elim⟩
theorem qkj (b : List Int) {N : Int} (hN : 1 <= N /\ N <= 10) (a : Nat) (c : Int) : SmE (tcR b N a c).1.ents := by
 unfold tcR
 simp only
 generalize numR b (numR b a c).2.1 (numR b a c).2.2 = v
 by_cases h : mustR (decide (v.1 < N + 1)) 3 v.2.2 = 0
 ·have := of_decide_eq_true (qA h (by decide)).1
  obtain ⟨h1, h2⟩ := qfM b N (numR b a c).1 v.1.toNat (-1) v.2.1 (mustR (decide (v.1 < N + 1)) 3 v.2.2)
  exact ⟨by omega, h2⟩
 ·rw [qhp b N _ _ _ _ h]
  exact qha
theorem qfh (b : List Int) {N : Int} (hN : 1 <= N /\ N <= 10) : ∀ (m a : Nat) (c : Int), (headsR b N m a c).1.length <= m /\ ∀ x ∈ (headsR b N m a c).1, x.sm
 | 0, a, c => ⟨Nat.le_refl _, fun x hx => (List.not_mem_nil hx).elim⟩
 | m + 1, a, c => by
  obtain ⟨h1, h2⟩ := qfh b hN m (headR b N a c).2.1 (headR b N a c).2.2
  unfold headsR
  split
  ·refine ⟨by rw [List.length_cons]; omega, fun x hx => ?_⟩
   rcases List.mem_cons.1 hx with rfl | hx
   ·exact qdJ b hN _ _
   ·exact h2 x hx
  ·exact ⟨Nat.zero_le _, fun x hx => (List.not_mem_nil hx).elim⟩
theorem qiI (b : List Int) {N hd : Int} (hN : 1 <= N /\ N <= 10) (hh : hd <= 5) (a : Nat) (c : Int) : SmH (proofR b N hd a c).1.heads /\ (proofR b N hd a c).1.q.sm := by
 refine ⟨?_, qga b hN _ _⟩
 unfold proofR
 simp only
 generalize numR b a c = v
 by_cases h : mustR (decide (v.1 <= hd)) 3 (mustR (decide (v.1 >= 3)) 5 v.2.2) = 0
 ·have := of_decide_eq_true (qA h (by decide)).1
  obtain ⟨h1, h2⟩ := qfh b hN v.1.toNat v.2.1 (mustR (decide (v.1 <= hd)) 3 (mustR (decide (v.1 >= 3)) 5 v.2.2))
  exact ⟨by omega, h2⟩
 ·rw [qdz b N _ _ h]
  exact qhd
theorem qjp {b : List Int} (hb : niceB b) {tx txs : Int} (ht : tx <= 40) (hs : txs <= 8) {a : Nat} (ha : a <= b.length) (c : Int) : Sm (inclR b tx txs a c).1.tx /\ SmB (inclR b tx txs a c).1.path := by
 unfold inclR
 simp only
 have n1 := qk hb ha c
 generalize numR b a c = v1 at *
 have n2 := qk hb n1.2 v1.2.2
 generalize numR b v1.2.1 v1.2.2 = v2 at *
 have n3 := qk hb n2.2 (mustR (decide (v2.1 <= txs)) 3 (mustR (decide (v2.1 > 0)) 5 v2.2.2))
 have I := fun t et => qeF hb (tx := tx) (txs := txs) (y := v2) (t := t) n3.1.1 rfl et
 generalize numR b v2.2.1 (mustR (decide (v2.1 <= txs)) 3 (mustR (decide (v2.1 > 0)) 5 v2.2.2)) = v3 at *
 have t := qgq b v3.2.1 (mustR (decide (v3.1 < v2.1)) 5 v3.2.2) ht
 have I := I _ rfl
 split
 ·rename_i h
  obtain ⟨i1, i2, i3⟩ := I h
  have pl := qW (v2.1.toNat + 1) v3.1.toNat v2.1.toNat
  obtain ⟨h1, h2⟩ := qdR b (pathV (v2.1.toNat + 1) v3.1.toNat v2.1.toNat) (textR b v3.2.1 (mustR (decide (v3.1 < v2.1)) 5 v3.2.2) tx).2.2.1 (textR b v3.2.1 (mustR (decide (v3.1 < v2.1)) 5 v3.2.2) tx).2.2.2
  exact ⟨t, by show (tagsR _ _ _ _).1.length <= 16; rw [h1]; omega, h2⟩
 ·exact ⟨t, qbj⟩
theorem qaa {m : Mg} (h : m.sm) (a : Nat) (c : Int) (n : Nat) : (decFin m a c n).1.sm := by
 unfold decFin
 split
 ·split
  ·exact h
  ·exact qcc
 ·exact qcc
theorem qjz {N tx txs fr hd : Int} (L : limitsOk N tx txs fr hd = true) {b : List Int} (hb : niceB b) : (decV N tx txs hd b).1.sm := by
 have hN := qJ L
 have hL : (1 <= N /\ N <= 10) /\ (0 <= tx /\ tx <= 40) /\ (0 <= txs /\ txs <= 8) /\ (1 <= fr /\ fr <= 4000) /\ (3 <= hd /\ hd <= 5) := by simpa [limitsOk] using L
 have n := qcc
 unfold decV
 by_cases h : b.length = 0
 ·rw [if_pos h]
  exact n
 rw [if_neg h]
 simp only
 split
 ·obtain ⟨h1, h2⟩ := qju b N 1 0
  refine qaa ?_ _ _ _; exact ⟨h1, h2, n.qc, n.hd, n.bk, n.txs, n.tc, n.heads, n.pq, n.tx, n.path⟩
 split
 ·refine qaa ?_ _ _ _; exact ⟨n.blk, n.tag, qga b hN 1 0, n.hd, n.bk, n.txs, n.tc, n.heads, n.pq, n.tx, n.path⟩
 split
 ·refine qaa ?_ _ _ _; exact ⟨n.blk, n.tag, n.qc, qdJ b hN 1 0, n.bk, n.txs, n.tc, n.heads, n.pq, n.tx, n.path⟩
 split
 ·obtain ⟨h1, h2⟩ := qhY b hN (show tx <= 40 by omega) (show txs <= 8 by omega) 1 0
  refine qaa ?_ _ _ _; exact ⟨n.blk, n.tag, n.qc, n.hd, h1, h2, n.tc, n.heads, n.pq, n.tx, n.path⟩
 split
 ·refine qaa ?_ _ _ _; exact ⟨n.blk, n.tag, n.qc, n.hd, n.bk, n.txs, qkj b hN 1 0, n.heads, n.pq, n.tx, n.path⟩
 split
 ·obtain ⟨h1, h2⟩ := qiI b hN (show hd <= 5 by omega) 1 0
  refine qaa ?_ _ _ _; exact ⟨n.blk, n.tag, n.qc, n.hd, n.bk, n.txs, n.tc, h1, h2, n.tx, n.path⟩
 split
 ·obtain ⟨h1, h2⟩ := qjp hb (show tx <= 40 by omega) (show txs <= 8 by omega) (a := 1) (by omega) 0
  refine qaa ?_ _ _ _; exact ⟨n.blk, n.tag, n.qc, n.hd, n.bk, n.txs, n.tc, n.heads, n.pq, h1, h2⟩
 ·exact n
theorem qjg {r : Mg × Int} (h : r.1.sm) : (evtOf r).m.sm := by
 unfold evtOf
 split
 ·exact h
 ·exact qcc
theorem qgl (sk : Int) : ∀ x ∈ skipE sk, x.m.sm := fun x hx => by
 unfold skipE at hx
 split at hx
 ·rcases List.mem_cons.1 hx with rfl | hx
  ·exact qcc
  ·exact (List.not_mem_nil hx).elim
 ·exact (List.not_mem_nil hx).elim
theorem qdK {N tx txs fr hd : Int} (L : limitsOk N tx txs fr hd = true) {b : List Int} (hb : niceB b) (cl : Bool) : ∀ (m i : Nat) (sk : Int), i <= b.length -> (∀ x ∈ (scanV N tx txs fr hd b cl m i sk).1, x.m.sm) /\ (scanV N tx txs fr hd b cl m i sk).1.length <= 2 * (b.length - i) + 1
 | 0, i, sk, hi => ⟨fun x hx => (List.not_mem_nil hx).elim, Nat.zero_le _⟩
 | m + 1, i, sk, hi => by
  have sl := qcY sk
  unfold scanV
  split
  ·rename_i h
   split
   ·exact ⟨fun x hx => (List.not_mem_nil hx).elim, Nat.zero_le _⟩
   ·split
    ·rename_i c3
     obtain ⟨w, e, h9, hw⟩ := frame3 hb h c3
     rw [e, Int.toNat_natCast]
     obtain ⟨h1, h2⟩ := qdK L hb cl m (i + w) 0 hw
     refine ⟨fun x hx => ?_, ?_⟩
     ·rcases List.mem_append.1 hx with hx | hx
      ·exact qgl sk x hx
      ·rcases List.mem_cons.1 hx with rfl | hx
       ·exact qjg (qjz L (qbz hb i w))
       ·exact h1 x hx
     ·show (skipE sk ++ _ :: _).length <= _
      rw [List.length_append, List.length_cons]
      omega
    ·obtain ⟨h1, h2⟩ := qdK L hb cl m (i + 1) (sk + 1) (by omega)
     exact ⟨h1, by omega⟩
  ·split
   ·exact ⟨qgl sk, by show (skipE sk).length <= _; omega⟩
   ·exact ⟨fun x hx => (List.not_mem_nil hx).elim, Nat.zero_le _⟩
theorem mhG {mark : Nat -> Bool -> List T -> Int -> Int -> Option (Int × Bool × List T)} {held : Nat -> Bool -> List T -> Int -> Int -> Option Int} {α : Type} {E : α -> T} {P : α -> Prop} (W : Nat) (hi : Int)
  (mend : ∀ z ys c (n : Nat), ys.length <= n -> Ev (fun k => mark k z ys c (n : Int)) (c, z, ys)) (hend : ∀ z ys c (n : Nat), ys.length <= n -> Ev (fun k => held k z ys c (n : Int)) c)
  (step : ∀ z (ys : List T) (c : Int) (n : Nat) (x : α), n < ys.length -> ys.length <= 10000000 -> ys.getD n .bad = E x -> P x -> (0 <= c /\ c <= hi) -> ∃ e c', (c <= c' /\ c' <= c + (W : Nat)) /\ (∀ r, Ev (fun k => mark k z (ys.set n e) c' ((n + 1 : Nat) : Int)) r -> Ev (fun k => mark k z ys c (n : Int)) r) /\
   ∀ ys' : List T, ys'.length = ys.length -> ys'.getD n .bad = e -> ∀ r, Ev (fun k => held k z ys' c' ((n + 1 : Nat) : Int)) r -> Ev (fun k => held k z ys' c (n : Int)) r)
  (z : Bool) (l : List α) (hl : l.length <= 10000000) (hP : ∀ x ∈ l, P x) (a : Int) (h0 : 0 <= a) (h1 : a + (l.length * W : Nat) <= hi) :
  ∃ p : Int × Bool × List T, (a <= p.1 /\ p.1 <= a + (l.length * W : Nat)) /\ Ev (fun k => mark k z (l.map E) a 0) p /\ Ev (fun k => held k p.2.1 p.2.2 a 0) p.1 := by
 have key : ∀ (d n : Nat) (ys : List T) (c : Int), n + d = l.length -> ys.length = l.length -> ys.drop n = (l.map E).drop n -> 0 <= c -> c + (d * W : Nat) <= hi ->
   ∃ c' ys', (c <= c' /\ c' <= c + (d * W : Nat)) /\ ys'.length = l.length /\ (∀ i, i < n -> ys'.getD i .bad = ys.getD i .bad) /\ Ev (fun k => mark k z ys c (n : Int)) (c', z, ys') /\ Ev (fun k => held k z ys' c (n : Int)) c' := by
  intro d
  induction d with
  | zero => intro n ys c hn hy ht hc hc2; exact ⟨c, ys, by omega, hy, fun _ _ => rfl, mend z ys c n (by omega), hend z ys c n (by omega)⟩
  | succ d ih =>
   intro n ys c hn hy ht hc hc2
   have hlt : n < l.length := by omega
   rw [Nat.succ_mul] at hc2 ⊢
   obtain ⟨e, c1, b1, M, H⟩ := step z ys c n l[n] (by omega) (by omega) (qbr (d := T.bad) ht hlt) (hP _ (List.getElem_mem hlt)) ⟨hc, by omega⟩
   have ht' : ys.drop (n + 1) = (l.map E).drop (n + 1) := by
    have := congrArg (List.drop 1) ht
    simpa [List.drop_drop] using this
   obtain ⟨c2, ys', b2, l2, k2, M2, H2⟩ := ih (n + 1) (ys.set n e) c1 (by omega) (by simp [hy]) (by rw [qbS (by omega), ht']) (by omega) (by omega)
   refine ⟨c2, ys', by omega, l2, fun i hi => ?_, M _ M2, H ys' (by omega) ?_ _ H2⟩
   ·rw [k2 i (by omega), List.getD_eq_getElem?_getD, List.getD_eq_getElem?_getD, List.getElem?_set_ne (by omega)]
   ·rw [k2 n (by omega)]
    exact ql (by omega)
 obtain ⟨c', ys', b, _, _, M, H⟩ := key l.length 0 (l.map E) a (by omega) (by simp) rfl h0 h1
 exact ⟨(c', z, ys'), b, M, H⟩
def Bd (lo : Int) (k : Nat) (c : Int) : Prop := lo <= c /\ c <= lo + k
theorem bd0 (c : Int) : Bd c 0 c := ⟨Int.le_refl _, by omega⟩
theorem qr {lo c : Int} {k : Nat} (H : 0 <= lo /\ lo <= 8500000000000) (hk : k <= 100000000) (b : Bd lo k c) : Bd lo (k + 1) (wrap64 (c + 1)) := by
 obtain ⟨b1, b2⟩ := b
 rw [w64 (n := c + 1) (by omega) (by omega)]
 exact ⟨by omega, by omega⟩
theorem cnt_le' {α : Type} (w : α -> Nat) (K : Nat) : ∀ (l : List α), (∀ x ∈ l, w x <= K) -> cnt w l <= l.length * K
 | [], _ => Nat.zero_le _
 | x :: l, h => by
  have := cnt_le' w K l fun y hy => h y (List.mem_cons_of_mem _ hy)
  have := h x (List.mem_cons_self ..)
  unfold cnt at *
  rw [List.map_cons, List.sum_cons, List.length_cons, Nat.succ_mul]
  omega
theorem mkB {lo c : Int} {k : Nat} (H : 0 <= lo /\ lo <= 8500000000000) (hk : k <= 100000000) (b : Bd lo k c) (z : Bool) {l : List Int} (h : Sm l) : ∃ t : Int × Bool × List Int, Ev (fun q => Xe.f q z l c) t /\ Bd lo (k + 100) t.1 /\ ¬ t.1 < 0 /\ Ev (fun q => Xg.f q t.2.1 t.2.2 c) t.1 := by
 obtain ⟨b1, b2⟩ := b
 have h' : l.length <= 100 := h
 have a : okM c := ⟨by omega, by omega⟩
 exact ⟨_, Xe.ev z l h.ok c a, ⟨by simp only; omega, by simp only; omega⟩, by simp only; omega, Xg.ev z l.length (by omega) c a⟩
theorem mkBB {lo c : Int} {k : Nat} (H : 0 <= lo /\ lo <= 8500000000000) (hk : k <= 100000000) (b : Bd lo k c) (z : Bool) {l : List By} (h : SmB l) : ∃ t : Int × Bool × List T, Ev (fun q => Xk.f q z (l.map By.t) c) t /\ Bd lo (k + 1600) t.1 /\ ¬ t.1 < 0 /\ Ev (fun q => XC.f q t.2.1 t.2.2 c) t.1 := by
 obtain ⟨b1, b2⟩ := b
 have h1 : l.length <= 16 := h.1
 have h2 := cnt_le' byW 100 l fun x hx => h.2 x hx
 exact ⟨_, Xk.ev z l h.few c (by omega) (by omega), ⟨by simp only; omega, by simp only; omega⟩, by simp only; omega, XC.ev z l h.few c (by omega) (by omega)⟩
theorem Xp.ev (z : Bool) (l : List En) (h : FewE l) (a : Int) (h0 : 0 <= a) (h1 : a <= 8796093022208) : Ev (fun k => Xp.f k z (l.map En.t) a) (a + (cnt enW l : Nat), z, (mkEnts l a).map En.t) := by
 have hl : l.length <= 1048576 := h.1
 have key : ∀ (d n : Nat) (ys : List T), n + d = l.length -> ys.length = l.length -> ys.drop n = (l.map En.t).drop n -> ys.take n = ((mkEnts l a).map En.t).take n -> Ev (fun k => Xp.l0 k z ys (a + (cnt enW (l.take n) : Nat)) (n : Int)) (a + (cnt enW l : Nat), z, (mkEnts l a).map En.t) := by
  intro d
  induction d with
  | zero =>
   intro n ys hn hy ht hk
   refine qb ?_
   simp only [Xp.l0]
   refine qe (by omega) (qd ?_)
   rw [List.take_of_length_le (by omega), List.take_of_length_le (by rw [List.length_map, qck]; omega)] at hk
   rw [hk, List.take_of_length_le (by omega)]
  | succ d ih =>
   intro n ys hn hy ht hk
   have hlt : n < l.length := by omega
   have hlt' : n < ys.length := by omega
   have hg := qbr (d := T.bad) ht hlt
   have hb := h.2 _ (List.getElem_mem hlt)
   have hb' : (l[n]).tag.length <= 1048576 := hb
   have hc := qim h n
   have M := Xe.ev (l[n]).tz (l[n]).tag hb (a + (cnt enW (l.take n) : Nat) + 1 + 1) ⟨by omega, by omega⟩
   have ht' : ys.drop (n + 1) = (l.map En.t).drop (n + 1) := by
    have := congrArg (List.drop 1) ht
    simpa [List.drop_drop] using this
   have e1 : (entAt l a n).t = .agg [.int .i64 (a + (cnt enW (l.take n) : Nat)), .int .i64 (a + (cnt enW (l.take n) : Nat) + 1), .nums 5 .u8 (l[n]).tz (mk8 (l[n]).tag.length (a + (cnt enW (l.take n) : Nat) + 1 + 1))] := by
    unfold entAt En.t; rw [qcb hlt]
   have i2 := ih (n + 1) (ys.set n (entAt l a n).t) (by omega) (by simp [hy]) (by rw [qbS (by omega), ht']) (by
    rw [List.take_succ_eq_append_getElem (by simp; omega), List.take_succ_eq_append_getElem (by rw [List.length_map, qck]; omega), List.take_set_of_le (Nat.le_refl n), hk, List.getElem_set_self, List.getElem_map, qeh])
   rw [qch enW hlt, e1, show (a + ((cnt enW (l.take n) + enW l[n] : Nat) : Int)) = a + (cnt enW (l.take n) : Nat) + 1 + 1 + ((l[n]).tag.length : Int) by unfold enW; omega] at i2
   have w1 : wrap64 (a + (cnt enW (l.take n) : Nat) + 1) = a + (cnt enW (l.take n) : Nat) + 1 := w64 (by omega) (by omega)
   have w2 : wrap64 (a + (cnt enW (l.take n) : Nat) + 1 + 1) = a + (cnt enW (l.take n) : Nat) + 1 + 1 := w64 (by omega) (by omega)
   generalize a + ((cnt enW (l.take n) : Nat) : Int) = m at *
   refine qb ?_
   simp only [Xp.l0, Xp.y1, Int.toNat_natCast, qn n (by omega), w1, w2, hg, En.c1, En.c2, En.c2z, set_set, ql hlt', List.length_set]
   exact qa (by omega) (qa (by omega) (qa (by omega) (qa (by omega) (qa (by omega) (qa (by omega) (qa (by omega) (Ev.bind M i2)))))))
 refine qb ?_
 simp only [Xp.f]
 have := key l.length 0 (l.map En.t) (by omega) (by simp) rfl (by simp)
 simpa [cnt] using this
theorem mkEn {lo c : Int} {k : Nat} (H : 0 <= lo /\ lo <= 8500000000000) (hk : k <= 100000000) (b : Bd lo k c) (z : Bool) {l : List En} (h : SmE l) : ∃ t : Int × Bool × List T, Ev (fun q => Xp.f q z (l.map En.t) c) t /\ Bd lo (k + 1632) t.1 /\ ¬ t.1 < 0 /\ Ev (fun q => XX.f q t.2.1 t.2.2 c) t.1 := by
 obtain ⟨b1, b2⟩ := b
 have h1 : l.length <= 16 := h.1
 have h2 := cnt_le' enW 102 l fun x hx => by have : x.tag.length <= 100 := h.2 x hx; unfold enW; omega
 exact ⟨_, Xp.ev z l h.few c (by omega) (by omega), ⟨by simp only; omega, by simp only; omega⟩, by simp only; omega, XX.ev z l h.few c (by omega) (by omega)⟩
theorem Xd.stp (z : Bool) (ys : List T) (c : Int) (n : Nat) (u : Head) (hlt : n < ys.length) (hn : ys.length <= 10000000) (hg : ys.getD n .bad = Head.t u) (hs : u.sm) (H : 0 <= c /\ c <= 8500000000000) : ∃ e c', (c <= c' /\ c' <= c + (2005 : Nat)) /\ (∀ r, Ev (fun k => Xd.l0 k z (ys.set n e) c' ((n + 1 : Nat) : Int)) r -> Ev (fun k => Xd.l0 k z ys c (n : Int)) r) /\
  ∀ ys' : List T, ys'.length = ys.length -> ys'.getD n .bad = e -> ∀ r, Ev (fun k => XY.l0 k z ys' c' ((n + 1 : Nat) : Int)) r -> Ev (fun k => XY.l0 k z ys' c (n : Int)) r := by
 obtain ⟨t0, M0, B0, N0, H0⟩ := mkB H (by decide) (qr H (by decide) (qr H (by decide) (qr H (by decide) (bd0 c)))) u.az (hs.par)
 have r0 : ((Xd.y3 ys c (n : Int)).getD n .bad).cells.getD 3 .bad = .nums 5 .u8 u.az u.par := by
  simp only [Xd.y3, Xd.y2, Xd.y1, Int.toNat_natCast, set_set, ql hlt, hg]
  rfl
 obtain ⟨t1, M1, B1, N1, H1⟩ := mkB H (by decide) (B0) u.rz (hs.root)
 have r1 : ∀ t0, ((Xd.y4 ys c (n : Int) t0).getD n .bad).cells.getD 4 .bad = .nums 5 .u8 u.rz u.root := fun t0 => by
  simp only [Xd.y4, Xd.y3, Xd.y2, Xd.y1, Int.toNat_natCast, set_set, ql hlt, hg]
  rfl
 obtain ⟨t2, M2, B2, N2, H2⟩ := mkB H (by decide) (qr H (by decide) (qr H (by decide) (B1))) u.q.bz (hs.q.blk)
 have r2 : ∀ t0 t1, ((Xd.y7 ys c (n : Int) t0 t1).getD n .bad).cells.getD 7 .bad = .nums 5 .u8 u.q.bz u.q.blk := fun t0 t1 => by
  simp only [Xd.y7, Xd.y6, Xd.y5, Xd.y4, Xd.y3, Xd.y2, Xd.y1, Int.toNat_natCast, set_set, ql hlt, hg]
  rfl
 obtain ⟨t3, M3, B3, N3, H3⟩ := mkB H (by decide) (B2) u.q.mz (hs.q.bits)
 have r3 : ∀ t0 t1 t2, ((Xd.y8 ys c (n : Int) t0 t1 t2).getD n .bad).cells.getD 8 .bad = .nums 5 .u8 u.q.mz u.q.bits := fun t0 t1 t2 => by
  simp only [Xd.y8, Xd.y7, Xd.y6, Xd.y5, Xd.y4, Xd.y3, Xd.y2, Xd.y1, Int.toNat_natCast, set_set, ql hlt, hg]
  rfl
 obtain ⟨t4, M4, B4, N4, H4⟩ := mkBB H (by decide) (B3) u.q.tz (hs.q.tags)
 have r4 : ∀ t0 t1 t2 t3, ((Xd.y9 ys c (n : Int) t0 t1 t2 t3).getD n .bad).cells.getD 9 .bad = .sl 24 u.q.tz (u.q.tags.map By.t) := fun t0 t1 t2 t3 => by
  simp only [Xd.y9, Xd.y8, Xd.y7, Xd.y6, Xd.y5, Xd.y4, Xd.y3, Xd.y2, Xd.y1, Int.toNat_natCast, set_set, ql hlt, hg]
  rfl
 have E : ∀ t0 t1 t2 t3 t4, Xd.y10 ys c (n : Int) t0 t1 t2 t3 t4 = ys.set n (.agg [.int .i64 c, .int .i64 (wrap64 (c + 1)), .int .i64 (wrap64 (wrap64 (c + 1) + 1)), .nums 5 .u8 t0.2.1 t0.2.2, .nums 5 .u8 t1.2.1 t1.2.2, .int .i64 t1.1, .int .i64 (wrap64 (t1.1 + 1)), .nums 5 .u8 t2.2.1 t2.2.2, .nums 5 .u8 t3.2.1 t3.2.2, .sl 24 t4.2.1 t4.2.2]) := fun t0 t1 t2 t3 t4 => by
  simp only [Xd.y10, Xd.y9, Xd.y8, Xd.y7, Xd.y6, Xd.y5, Xd.y4, Xd.y3, Xd.y2, Xd.y1, Int.toNat_natCast, set_set, ql hlt, hg]
  rfl
 have L1 : (Xd.y1 ys c (n : Int)).length = ys.length := by simp only [Xd.y1, List.length_set]
 have L2 : (Xd.y2 ys c (n : Int)).length = ys.length := by simp only [Xd.y2, L1, List.length_set]
 have L3 : (Xd.y3 ys c (n : Int)).length = ys.length := by simp only [Xd.y3, L2, List.length_set]
 have L4 : ∀ t0, (Xd.y4 ys c (n : Int) t0).length = ys.length := fun t0 => by simp only [Xd.y4, L3, List.length_set]
 have L5 : ∀ t0 t1, (Xd.y5 ys c (n : Int) t0 t1).length = ys.length := fun t0 t1 => by simp only [Xd.y5, L4, List.length_set]
 have L6 : ∀ t0 t1, (Xd.y6 ys c (n : Int) t0 t1).length = ys.length := fun t0 t1 => by simp only [Xd.y6, L5, List.length_set]
 have L7 : ∀ t0 t1, (Xd.y7 ys c (n : Int) t0 t1).length = ys.length := fun t0 t1 => by simp only [Xd.y7, L6, List.length_set]
 have L8 : ∀ t0 t1 t2, (Xd.y8 ys c (n : Int) t0 t1 t2).length = ys.length := fun t0 t1 t2 => by simp only [Xd.y8, L7, List.length_set]
 have L9 : ∀ t0 t1 t2 t3, (Xd.y9 ys c (n : Int) t0 t1 t2 t3).length = ys.length := fun t0 t1 t2 t3 => by simp only [Xd.y9, L8, List.length_set]
 have p1 : (0 : Int) <= (n : Int) := by omega
 have p2 : (n : Int) < (ys.length : Int) := by omega
 refine ⟨.agg [.int .i64 c, .int .i64 (wrap64 (c + 1)), .int .i64 (wrap64 (wrap64 (c + 1) + 1)), .nums 5 .u8 t0.2.1 t0.2.2, .nums 5 .u8 t1.2.1 t1.2.2, .int .i64 t1.1, .int .i64 (wrap64 (t1.1 + 1)), .nums 5 .u8 t2.2.1 t2.2.2, .nums 5 .u8 t3.2.1 t3.2.2, .sl 24 t4.2.1 t4.2.2], _, (show Bd c 2005 _ from B4), fun r K => ?_, fun ys' hl hg r K => ?_⟩
 ·refine qb ?_
  simp only [Xd.l0, Int.toNat_natCast, qn n (by omega), E, r0, r1, r2, r3, r4, L1, L2, L3, L4, L5, L6, L7, L8, L9]
  exact qa p2 (qa p1 (qa p2 (qa p1 (qa p2 (qa p1 (qa p2 (qa p1 (qa p2 (Ev.bind M0 (qa p1 (qa p2 (Ev.bind M1 (qa p1 (qa p2 (qa p1 (qa p2 (qa p1 (qa p2 (Ev.bind M2 (qa p1 (qa p2 (Ev.bind M3 (qa p1 (qa p2 (Ev.bind M4 K)))))))))))))))))))))))))
 ·rw [<- hl] at p2
  refine qb ?_
  simp only [XY.l0, Int.toNat_natCast, qn n (by omega), hg]
  exact qa p2 (qa p1 (qa p2 (qe (fun q => q rfl) (qa p1 (qa p2 (qe (fun q => q rfl) (qa p1 (qa p2 (qe (fun q => q rfl) (qa p1 (qa p2 (Ev.bind H0 (qe N0 (qa p1 (qa p2 (Ev.bind H1 (qe N1 (qa p1 (qa p2 (qe (fun q => q rfl) (qa p1 (qa p2 (qe (fun q => q rfl) (qa p1 (qa p2 (Ev.bind H2 (qe N2 (qa p1 (qa p2 (Ev.bind H3 (qe N3 (qa p1 (qa p2 (Ev.bind H4 (qe N4 K)))))))))))))))))))))))))))))))))))
theorem Xd.mh {lo c : Int} {k : Nat} (H : 0 <= lo /\ lo <= 8500000000000) (hk : k <= 100000000) (b : Bd lo k c) (z : Bool) {l : List Head} (hl : l.length <= 10000000) (hs : ∀ u ∈ l, u.sm) (hc : c + (l.length * 2005 : Nat) <= 8500000000000) : ∃ t : Int × Bool × List T, (c <= t.1 /\ t.1 <= c + (l.length * 2005 : Nat)) /\ Ev (fun q => Xd.f q z (l.map Head.t) c) t /\ Ev (fun q => XY.f q t.2.1 t.2.2 c) t.1 := by
 obtain ⟨p, b2, M, H2⟩ := mhG (mark := Xd.l0) (held := XY.l0) (E := Head.t) (P := fun u => u.sm) 2005 8500000000000
  (fun z ys c n h => qb (by simp only [Xd.l0]; exact qe (by omega) (qd rfl)))
  (fun z ys c n h => qb (by simp only [XY.l0]; exact qe (by omega) (qd rfl)))
  (fun z ys c n u h1 h2 h3 h4 h5 => Xd.stp z ys c n u h1 h2 h3 h4 h5) z l hl hs c (by have := b.1; omega) hc
 refine ⟨p, b2, qb ?_, qb ?_⟩
 ·simp only [Xd.f]
  exact M
 ·simp only [XY.f]
  exact H2
theorem mkHd {lo c : Int} {k : Nat} (H2 : 0 <= lo /\ lo <= 8000000000000) (hk : k <= 100000000) (b : Bd lo k c) (z : Bool) {l : List Head} (h : SmH l) : ∃ t : Int × Bool × List T, Ev (fun q => Xd.f q z (l.map Head.t) c) t /\ Bd lo (k + 32080) t.1 /\ ¬ t.1 < 0 /\ Ev (fun q => XY.f q t.2.1 t.2.2 c) t.1 := by
 have h1 : l.length <= 16 := h.1
 have H : 0 <= lo /\ lo <= 8500000000000 := ⟨H2.1, by omega⟩
 obtain ⟨t, b2, M, N⟩ := Xd.mh H hk b z (by omega) h.2 (by have := b.2; omega)
 have b1 := b.1
 have b3 := b.2
 exact ⟨t, M, ⟨by omega, by omega⟩, by omega, N⟩
set_option maxHeartbeats 0 in
theorem Xc.stp (z : Bool) (ys : List T) (c : Int) (n : Nat) (u : Evt) (hlt : n < ys.length) (hn : ys.length <= 10000000) (hg : ys.getD n .bad = Evt.t u) (hs : u.m.sm) (HH : 0 <= c /\ c <= 8000000000000) : ∃ e c', (c <= c' /\ c' <= c + (44836 : Nat)) /\ (∀ r, Ev (fun k => Xc.l0 k z (ys.set n e) c' ((n + 1 : Nat) : Int)) r -> Ev (fun k => Xc.l0 k z ys c (n : Int)) r) /\
  ∀ ys' : List T, ys'.length = ys.length -> ys'.getD n .bad = e -> ∀ r, Ev (fun k => XZ.l0 k z ys' c' ((n + 1 : Nat) : Int)) r -> Ev (fun k => XZ.l0 k z ys' c (n : Int)) r := by
 have H : 0 <= c /\ c <= 8500000000000 := ⟨HH.1, by omega⟩
 obtain ⟨t0, M0, B0, N0, H0⟩ := mkB H (by decide) (qr H (by decide) (qr H (by decide) (qr H (by decide) (qr H (by decide) (qr H (by decide) (bd0 c)))))) u.m.vt.bz (hs.blk)
 have r0 : ((Xc.y5 ys c (n : Int)).getD n .bad).cells.getD 5 .bad = .nums 5 .u8 u.m.vt.bz u.m.vt.blk := by
  simp only [Xc.y5, Xc.y4, Xc.y3, Xc.y2, Xc.y1, Int.toNat_natCast, set_set, ql hlt, hg]
  rfl
 obtain ⟨t1, M1, B1, N1, H1⟩ := mkB H (by decide) (qr H (by decide) (B0)) u.m.vt.tz (hs.tag)
 have r1 : ∀ t0, ((Xc.y7 ys c (n : Int) t0).getD n .bad).cells.getD 7 .bad = .nums 5 .u8 u.m.vt.tz u.m.vt.tag := fun t0 => by
  simp only [Xc.y7, Xc.y6, Xc.y5, Xc.y4, Xc.y3, Xc.y2, Xc.y1, Int.toNat_natCast, set_set, ql hlt, hg]
  rfl
 obtain ⟨t2, M2, B2, N2, H2⟩ := mkB H (by decide) (qr H (by decide) (qr H (by decide) (B1))) u.m.qc.bz (hs.qc.blk)
 have r2 : ∀ t0 t1, ((Xc.y10 ys c (n : Int) t0 t1).getD n .bad).cells.getD 10 .bad = .nums 5 .u8 u.m.qc.bz u.m.qc.blk := fun t0 t1 => by
  simp only [Xc.y10, Xc.y9, Xc.y8, Xc.y7, Xc.y6, Xc.y5, Xc.y4, Xc.y3, Xc.y2, Xc.y1, Int.toNat_natCast, set_set, ql hlt, hg]
  rfl
 obtain ⟨t3, M3, B3, N3, H3⟩ := mkB H (by decide) (B2) u.m.qc.mz (hs.qc.bits)
 have r3 : ∀ t0 t1 t2, ((Xc.y11 ys c (n : Int) t0 t1 t2).getD n .bad).cells.getD 11 .bad = .nums 5 .u8 u.m.qc.mz u.m.qc.bits := fun t0 t1 t2 => by
  simp only [Xc.y11, Xc.y10, Xc.y9, Xc.y8, Xc.y7, Xc.y6, Xc.y5, Xc.y4, Xc.y3, Xc.y2, Xc.y1, Int.toNat_natCast, set_set, ql hlt, hg]
  rfl
 obtain ⟨t4, M4, B4, N4, H4⟩ := mkBB H (by decide) (B3) u.m.qc.tz (hs.qc.tags)
 have r4 : ∀ t0 t1 t2 t3, ((Xc.y12 ys c (n : Int) t0 t1 t2 t3).getD n .bad).cells.getD 12 .bad = .sl 24 u.m.qc.tz (u.m.qc.tags.map By.t) := fun t0 t1 t2 t3 => by
  simp only [Xc.y12, Xc.y11, Xc.y10, Xc.y9, Xc.y8, Xc.y7, Xc.y6, Xc.y5, Xc.y4, Xc.y3, Xc.y2, Xc.y1, Int.toNat_natCast, set_set, ql hlt, hg]
  rfl
 obtain ⟨t5, M5, B5, N5, H5⟩ := mkB H (by decide) (qr H (by decide) (qr H (by decide) (qr H (by decide) (B4)))) u.m.hd.az (hs.hd.par)
 have r5 : ∀ t0 t1 t2 t3 t4, ((Xc.y16 ys c (n : Int) t0 t1 t2 t3 t4).getD n .bad).cells.getD 16 .bad = .nums 5 .u8 u.m.hd.az u.m.hd.par := fun t0 t1 t2 t3 t4 => by
  simp only [Xc.y16, Xc.y15, Xc.y14, Xc.y13, Xc.y12, Xc.y11, Xc.y10, Xc.y9, Xc.y8, Xc.y7, Xc.y6, Xc.y5, Xc.y4, Xc.y3, Xc.y2, Xc.y1, Int.toNat_natCast, set_set, ql hlt, hg]
  rfl
 obtain ⟨t6, M6, B6, N6, H6⟩ := mkB H (by decide) (B5) u.m.hd.rz (hs.hd.root)
 have r6 : ∀ t0 t1 t2 t3 t4 t5, ((Xc.y17 ys c (n : Int) t0 t1 t2 t3 t4 t5).getD n .bad).cells.getD 17 .bad = .nums 5 .u8 u.m.hd.rz u.m.hd.root := fun t0 t1 t2 t3 t4 t5 => by
  simp only [Xc.y17, Xc.y16, Xc.y15, Xc.y14, Xc.y13, Xc.y12, Xc.y11, Xc.y10, Xc.y9, Xc.y8, Xc.y7, Xc.y6, Xc.y5, Xc.y4, Xc.y3, Xc.y2, Xc.y1, Int.toNat_natCast, set_set, ql hlt, hg]
  rfl
 obtain ⟨t7, M7, B7, N7, H7⟩ := mkB H (by decide) (qr H (by decide) (qr H (by decide) (B6))) u.m.hd.q.bz (hs.hd.q.blk)
 have r7 : ∀ t0 t1 t2 t3 t4 t5 t6, ((Xc.y20 ys c (n : Int) t0 t1 t2 t3 t4 t5 t6).getD n .bad).cells.getD 20 .bad = .nums 5 .u8 u.m.hd.q.bz u.m.hd.q.blk := fun t0 t1 t2 t3 t4 t5 t6 => by
  simp only [Xc.y20, Xc.y19, Xc.y18, Xc.y17, Xc.y16, Xc.y15, Xc.y14, Xc.y13, Xc.y12, Xc.y11, Xc.y10, Xc.y9, Xc.y8, Xc.y7, Xc.y6, Xc.y5, Xc.y4, Xc.y3, Xc.y2, Xc.y1, Int.toNat_natCast, set_set, ql hlt, hg]
  rfl
 obtain ⟨t8, M8, B8, N8, H8⟩ := mkB H (by decide) (B7) u.m.hd.q.mz (hs.hd.q.bits)
 have r8 : ∀ t0 t1 t2 t3 t4 t5 t6 t7, ((Xc.y21 ys c (n : Int) t0 t1 t2 t3 t4 t5 t6 t7).getD n .bad).cells.getD 21 .bad = .nums 5 .u8 u.m.hd.q.mz u.m.hd.q.bits := fun t0 t1 t2 t3 t4 t5 t6 t7 => by
  simp only [Xc.y21, Xc.y20, Xc.y19, Xc.y18, Xc.y17, Xc.y16, Xc.y15, Xc.y14, Xc.y13, Xc.y12, Xc.y11, Xc.y10, Xc.y9, Xc.y8, Xc.y7, Xc.y6, Xc.y5, Xc.y4, Xc.y3, Xc.y2, Xc.y1, Int.toNat_natCast, set_set, ql hlt, hg]
  rfl
 obtain ⟨t9, M9, B9, N9, H9⟩ := mkBB H (by decide) (B8) u.m.hd.q.tz (hs.hd.q.tags)
 have r9 : ∀ t0 t1 t2 t3 t4 t5 t6 t7 t8, ((Xc.y22 ys c (n : Int) t0 t1 t2 t3 t4 t5 t6 t7 t8).getD n .bad).cells.getD 22 .bad = .sl 24 u.m.hd.q.tz (u.m.hd.q.tags.map By.t) := fun t0 t1 t2 t3 t4 t5 t6 t7 t8 => by
  simp only [Xc.y22, Xc.y21, Xc.y20, Xc.y19, Xc.y18, Xc.y17, Xc.y16, Xc.y15, Xc.y14, Xc.y13, Xc.y12, Xc.y11, Xc.y10, Xc.y9, Xc.y8, Xc.y7, Xc.y6, Xc.y5, Xc.y4, Xc.y3, Xc.y2, Xc.y1, Int.toNat_natCast, set_set, ql hlt, hg]
  rfl
 obtain ⟨t10, M10, B10, N10, H10⟩ := mkB H (by decide) (qr H (by decide) (qr H (by decide) (qr H (by decide) (B9)))) u.m.bk.hd.az (hs.bk.par)
 have r10 : ∀ t0 t1 t2 t3 t4 t5 t6 t7 t8 t9, ((Xc.y26 ys c (n : Int) t0 t1 t2 t3 t4 t5 t6 t7 t8 t9).getD n .bad).cells.getD 26 .bad = .nums 5 .u8 u.m.bk.hd.az u.m.bk.hd.par := fun t0 t1 t2 t3 t4 t5 t6 t7 t8 t9 => by
  simp only [Xc.y26, Xc.y25, Xc.y24, Xc.y23, Xc.y22, Xc.y21, Xc.y20, Xc.y19, Xc.y18, Xc.y17, Xc.y16, Xc.y15, Xc.y14, Xc.y13, Xc.y12, Xc.y11, Xc.y10, Xc.y9, Xc.y8, Xc.y7, Xc.y6, Xc.y5, Xc.y4, Xc.y3, Xc.y2, Xc.y1, Int.toNat_natCast, set_set, ql hlt, hg]
  rfl
 obtain ⟨t11, M11, B11, N11, H11⟩ := mkB H (by decide) (B10) u.m.bk.hd.rz (hs.bk.root)
 have r11 : ∀ t0 t1 t2 t3 t4 t5 t6 t7 t8 t9 t10, ((Xc.y27 ys c (n : Int) t0 t1 t2 t3 t4 t5 t6 t7 t8 t9 t10).getD n .bad).cells.getD 27 .bad = .nums 5 .u8 u.m.bk.hd.rz u.m.bk.hd.root := fun t0 t1 t2 t3 t4 t5 t6 t7 t8 t9 t10 => by
  simp only [Xc.y27, Xc.y26, Xc.y25, Xc.y24, Xc.y23, Xc.y22, Xc.y21, Xc.y20, Xc.y19, Xc.y18, Xc.y17, Xc.y16, Xc.y15, Xc.y14, Xc.y13, Xc.y12, Xc.y11, Xc.y10, Xc.y9, Xc.y8, Xc.y7, Xc.y6, Xc.y5, Xc.y4, Xc.y3, Xc.y2, Xc.y1, Int.toNat_natCast, set_set, ql hlt, hg]
  rfl
 obtain ⟨t12, M12, B12, N12, H12⟩ := mkB H (by decide) (qr H (by decide) (qr H (by decide) (B11))) u.m.bk.hd.q.bz (hs.bk.q.blk)
 have r12 : ∀ t0 t1 t2 t3 t4 t5 t6 t7 t8 t9 t10 t11, ((Xc.y30 ys c (n : Int) t0 t1 t2 t3 t4 t5 t6 t7 t8 t9 t10 t11).getD n .bad).cells.getD 30 .bad = .nums 5 .u8 u.m.bk.hd.q.bz u.m.bk.hd.q.blk := fun t0 t1 t2 t3 t4 t5 t6 t7 t8 t9 t10 t11 => by
  simp only [Xc.y30, Xc.y29, Xc.y28, Xc.y27, Xc.y26, Xc.y25, Xc.y24, Xc.y23, Xc.y22, Xc.y21, Xc.y20, Xc.y19, Xc.y18, Xc.y17, Xc.y16, Xc.y15, Xc.y14, Xc.y13, Xc.y12, Xc.y11, Xc.y10, Xc.y9, Xc.y8, Xc.y7, Xc.y6, Xc.y5, Xc.y4, Xc.y3, Xc.y2, Xc.y1, Int.toNat_natCast, set_set, ql hlt, hg]
  rfl
 obtain ⟨t13, M13, B13, N13, H13⟩ := mkB H (by decide) (B12) u.m.bk.hd.q.mz (hs.bk.q.bits)
 have r13 : ∀ t0 t1 t2 t3 t4 t5 t6 t7 t8 t9 t10 t11 t12, ((Xc.y31 ys c (n : Int) t0 t1 t2 t3 t4 t5 t6 t7 t8 t9 t10 t11 t12).getD n .bad).cells.getD 31 .bad = .nums 5 .u8 u.m.bk.hd.q.mz u.m.bk.hd.q.bits := fun t0 t1 t2 t3 t4 t5 t6 t7 t8 t9 t10 t11 t12 => by
  simp only [Xc.y31, Xc.y30, Xc.y29, Xc.y28, Xc.y27, Xc.y26, Xc.y25, Xc.y24, Xc.y23, Xc.y22, Xc.y21, Xc.y20, Xc.y19, Xc.y18, Xc.y17, Xc.y16, Xc.y15, Xc.y14, Xc.y13, Xc.y12, Xc.y11, Xc.y10, Xc.y9, Xc.y8, Xc.y7, Xc.y6, Xc.y5, Xc.y4, Xc.y3, Xc.y2, Xc.y1, Int.toNat_natCast, set_set, ql hlt, hg]
  rfl
 obtain ⟨t14, M14, B14, N14, H14⟩ := mkBB H (by decide) (B13) u.m.bk.hd.q.tz (hs.bk.q.tags)
 have r14 : ∀ t0 t1 t2 t3 t4 t5 t6 t7 t8 t9 t10 t11 t12 t13, ((Xc.y32 ys c (n : Int) t0 t1 t2 t3 t4 t5 t6 t7 t8 t9 t10 t11 t12 t13).getD n .bad).cells.getD 32 .bad = .sl 24 u.m.bk.hd.q.tz (u.m.bk.hd.q.tags.map By.t) := fun t0 t1 t2 t3 t4 t5 t6 t7 t8 t9 t10 t11 t12 t13 => by
  simp only [Xc.y32, Xc.y31, Xc.y30, Xc.y29, Xc.y28, Xc.y27, Xc.y26, Xc.y25, Xc.y24, Xc.y23, Xc.y22, Xc.y21, Xc.y20, Xc.y19, Xc.y18, Xc.y17, Xc.y16, Xc.y15, Xc.y14, Xc.y13, Xc.y12, Xc.y11, Xc.y10, Xc.y9, Xc.y8, Xc.y7, Xc.y6, Xc.y5, Xc.y4, Xc.y3, Xc.y2, Xc.y1, Int.toNat_natCast, set_set, ql hlt, hg]
  rfl
 obtain ⟨t15, M15, B15, N15, H15⟩ := mkBB H (by decide) (B14) u.m.bk.tz (hs.txs)
 have r15 : ∀ t0 t1 t2 t3 t4 t5 t6 t7 t8 t9 t10 t11 t12 t13 t14, ((Xc.y33 ys c (n : Int) t0 t1 t2 t3 t4 t5 t6 t7 t8 t9 t10 t11 t12 t13 t14).getD n .bad).cells.getD 33 .bad = .sl 24 u.m.bk.tz (u.m.bk.txs.map By.t) := fun t0 t1 t2 t3 t4 t5 t6 t7 t8 t9 t10 t11 t12 t13 t14 => by
  simp only [Xc.y33, Xc.y32, Xc.y31, Xc.y30, Xc.y29, Xc.y28, Xc.y27, Xc.y26, Xc.y25, Xc.y24, Xc.y23, Xc.y22, Xc.y21, Xc.y20, Xc.y19, Xc.y18, Xc.y17, Xc.y16, Xc.y15, Xc.y14, Xc.y13, Xc.y12, Xc.y11, Xc.y10, Xc.y9, Xc.y8, Xc.y7, Xc.y6, Xc.y5, Xc.y4, Xc.y3, Xc.y2, Xc.y1, Int.toNat_natCast, set_set, ql hlt, hg]
  rfl
 obtain ⟨t16, M16, B16, N16, H16⟩ := mkEn H (by decide) (qr H (by decide) (B15)) u.m.tc.ez (hs.tc)
 have r16 : ∀ t0 t1 t2 t3 t4 t5 t6 t7 t8 t9 t10 t11 t12 t13 t14 t15, ((Xc.y35 ys c (n : Int) t0 t1 t2 t3 t4 t5 t6 t7 t8 t9 t10 t11 t12 t13 t14 t15).getD n .bad).cells.getD 35 .bad = .sl 83 u.m.tc.ez (u.m.tc.ents.map En.t) := fun t0 t1 t2 t3 t4 t5 t6 t7 t8 t9 t10 t11 t12 t13 t14 t15 => by
  simp only [Xc.y35, Xc.y34, Xc.y33, Xc.y32, Xc.y31, Xc.y30, Xc.y29, Xc.y28, Xc.y27, Xc.y26, Xc.y25, Xc.y24, Xc.y23, Xc.y22, Xc.y21, Xc.y20, Xc.y19, Xc.y18, Xc.y17, Xc.y16, Xc.y15, Xc.y14, Xc.y13, Xc.y12, Xc.y11, Xc.y10, Xc.y9, Xc.y8, Xc.y7, Xc.y6, Xc.y5, Xc.y4, Xc.y3, Xc.y2, Xc.y1, Int.toNat_natCast, set_set, ql hlt, hg]
  rfl
 obtain ⟨t17, M17, B17, N17, H17⟩ := mkHd HH (by decide) (B16) u.m.pf.hz (hs.heads)
 have r17 : ∀ t0 t1 t2 t3 t4 t5 t6 t7 t8 t9 t10 t11 t12 t13 t14 t15 t16, ((Xc.y36 ys c (n : Int) t0 t1 t2 t3 t4 t5 t6 t7 t8 t9 t10 t11 t12 t13 t14 t15 t16).getD n .bad).cells.getD 36 .bad = .sl 54 u.m.pf.hz (u.m.pf.heads.map Head.t) := fun t0 t1 t2 t3 t4 t5 t6 t7 t8 t9 t10 t11 t12 t13 t14 t15 t16 => by
  simp only [Xc.y36, Xc.y35, Xc.y34, Xc.y33, Xc.y32, Xc.y31, Xc.y30, Xc.y29, Xc.y28, Xc.y27, Xc.y26, Xc.y25, Xc.y24, Xc.y23, Xc.y22, Xc.y21, Xc.y20, Xc.y19, Xc.y18, Xc.y17, Xc.y16, Xc.y15, Xc.y14, Xc.y13, Xc.y12, Xc.y11, Xc.y10, Xc.y9, Xc.y8, Xc.y7, Xc.y6, Xc.y5, Xc.y4, Xc.y3, Xc.y2, Xc.y1, Int.toNat_natCast, set_set, ql hlt, hg]
  rfl
 obtain ⟨t18, M18, B18, N18, H18⟩ := mkB H (by decide) (qr H (by decide) (qr H (by decide) (B17))) u.m.pf.q.bz (hs.pq.blk)
 have r18 : ∀ t0 t1 t2 t3 t4 t5 t6 t7 t8 t9 t10 t11 t12 t13 t14 t15 t16 t17, ((Xc.y39 ys c (n : Int) t0 t1 t2 t3 t4 t5 t6 t7 t8 t9 t10 t11 t12 t13 t14 t15 t16 t17).getD n .bad).cells.getD 39 .bad = .nums 5 .u8 u.m.pf.q.bz u.m.pf.q.blk := fun t0 t1 t2 t3 t4 t5 t6 t7 t8 t9 t10 t11 t12 t13 t14 t15 t16 t17 => by
  simp only [Xc.y39, Xc.y38, Xc.y37, Xc.y36, Xc.y35, Xc.y34, Xc.y33, Xc.y32, Xc.y31, Xc.y30, Xc.y29, Xc.y28, Xc.y27, Xc.y26, Xc.y25, Xc.y24, Xc.y23, Xc.y22, Xc.y21, Xc.y20, Xc.y19, Xc.y18, Xc.y17, Xc.y16, Xc.y15, Xc.y14, Xc.y13, Xc.y12, Xc.y11, Xc.y10, Xc.y9, Xc.y8, Xc.y7, Xc.y6, Xc.y5, Xc.y4, Xc.y3, Xc.y2, Xc.y1, Int.toNat_natCast, set_set, ql hlt, hg]
  rfl
 obtain ⟨t19, M19, B19, N19, H19⟩ := mkB H (by decide) (B18) u.m.pf.q.mz (hs.pq.bits)
 have r19 : ∀ t0 t1 t2 t3 t4 t5 t6 t7 t8 t9 t10 t11 t12 t13 t14 t15 t16 t17 t18, ((Xc.y40 ys c (n : Int) t0 t1 t2 t3 t4 t5 t6 t7 t8 t9 t10 t11 t12 t13 t14 t15 t16 t17 t18).getD n .bad).cells.getD 40 .bad = .nums 5 .u8 u.m.pf.q.mz u.m.pf.q.bits := fun t0 t1 t2 t3 t4 t5 t6 t7 t8 t9 t10 t11 t12 t13 t14 t15 t16 t17 t18 => by
  simp only [Xc.y40, Xc.y39, Xc.y38, Xc.y37, Xc.y36, Xc.y35, Xc.y34, Xc.y33, Xc.y32, Xc.y31, Xc.y30, Xc.y29, Xc.y28, Xc.y27, Xc.y26, Xc.y25, Xc.y24, Xc.y23, Xc.y22, Xc.y21, Xc.y20, Xc.y19, Xc.y18, Xc.y17, Xc.y16, Xc.y15, Xc.y14, Xc.y13, Xc.y12, Xc.y11, Xc.y10, Xc.y9, Xc.y8, Xc.y7, Xc.y6, Xc.y5, Xc.y4, Xc.y3, Xc.y2, Xc.y1, Int.toNat_natCast, set_set, ql hlt, hg]
  rfl
 obtain ⟨t20, M20, B20, N20, H20⟩ := mkBB H (by decide) (B19) u.m.pf.q.tz (hs.pq.tags)
 have r20 : ∀ t0 t1 t2 t3 t4 t5 t6 t7 t8 t9 t10 t11 t12 t13 t14 t15 t16 t17 t18 t19, ((Xc.y41 ys c (n : Int) t0 t1 t2 t3 t4 t5 t6 t7 t8 t9 t10 t11 t12 t13 t14 t15 t16 t17 t18 t19).getD n .bad).cells.getD 41 .bad = .sl 24 u.m.pf.q.tz (u.m.pf.q.tags.map By.t) := fun t0 t1 t2 t3 t4 t5 t6 t7 t8 t9 t10 t11 t12 t13 t14 t15 t16 t17 t18 t19 => by
  simp only [Xc.y41, Xc.y40, Xc.y39, Xc.y38, Xc.y37, Xc.y36, Xc.y35, Xc.y34, Xc.y33, Xc.y32, Xc.y31, Xc.y30, Xc.y29, Xc.y28, Xc.y27, Xc.y26, Xc.y25, Xc.y24, Xc.y23, Xc.y22, Xc.y21, Xc.y20, Xc.y19, Xc.y18, Xc.y17, Xc.y16, Xc.y15, Xc.y14, Xc.y13, Xc.y12, Xc.y11, Xc.y10, Xc.y9, Xc.y8, Xc.y7, Xc.y6, Xc.y5, Xc.y4, Xc.y3, Xc.y2, Xc.y1, Int.toNat_natCast, set_set, ql hlt, hg]
  rfl
 obtain ⟨t21, M21, B21, N21, H21⟩ := mkB H (by decide) (qr H (by decide) (qr H (by decide) (qr H (by decide) (B20)))) u.m.ic.xz (hs.tx)
 have r21 : ∀ t0 t1 t2 t3 t4 t5 t6 t7 t8 t9 t10 t11 t12 t13 t14 t15 t16 t17 t18 t19 t20, ((Xc.y45 ys c (n : Int) t0 t1 t2 t3 t4 t5 t6 t7 t8 t9 t10 t11 t12 t13 t14 t15 t16 t17 t18 t19 t20).getD n .bad).cells.getD 45 .bad = .nums 5 .u8 u.m.ic.xz u.m.ic.tx := fun t0 t1 t2 t3 t4 t5 t6 t7 t8 t9 t10 t11 t12 t13 t14 t15 t16 t17 t18 t19 t20 => by
  simp only [Xc.y45, Xc.y44, Xc.y43, Xc.y42, Xc.y41, Xc.y40, Xc.y39, Xc.y38, Xc.y37, Xc.y36, Xc.y35, Xc.y34, Xc.y33, Xc.y32, Xc.y31, Xc.y30, Xc.y29, Xc.y28, Xc.y27, Xc.y26, Xc.y25, Xc.y24, Xc.y23, Xc.y22, Xc.y21, Xc.y20, Xc.y19, Xc.y18, Xc.y17, Xc.y16, Xc.y15, Xc.y14, Xc.y13, Xc.y12, Xc.y11, Xc.y10, Xc.y9, Xc.y8, Xc.y7, Xc.y6, Xc.y5, Xc.y4, Xc.y3, Xc.y2, Xc.y1, Int.toNat_natCast, set_set, ql hlt, hg]
  rfl
 obtain ⟨t22, M22, B22, N22, H22⟩ := mkBB H (by decide) (B21) u.m.ic.pz (hs.path)
 have r22 : ∀ t0 t1 t2 t3 t4 t5 t6 t7 t8 t9 t10 t11 t12 t13 t14 t15 t16 t17 t18 t19 t20 t21, ((Xc.y46 ys c (n : Int) t0 t1 t2 t3 t4 t5 t6 t7 t8 t9 t10 t11 t12 t13 t14 t15 t16 t17 t18 t19 t20 t21).getD n .bad).cells.getD 46 .bad = .sl 24 u.m.ic.pz (u.m.ic.path.map By.t) := fun t0 t1 t2 t3 t4 t5 t6 t7 t8 t9 t10 t11 t12 t13 t14 t15 t16 t17 t18 t19 t20 t21 => by
  simp only [Xc.y46, Xc.y45, Xc.y44, Xc.y43, Xc.y42, Xc.y41, Xc.y40, Xc.y39, Xc.y38, Xc.y37, Xc.y36, Xc.y35, Xc.y34, Xc.y33, Xc.y32, Xc.y31, Xc.y30, Xc.y29, Xc.y28, Xc.y27, Xc.y26, Xc.y25, Xc.y24, Xc.y23, Xc.y22, Xc.y21, Xc.y20, Xc.y19, Xc.y18, Xc.y17, Xc.y16, Xc.y15, Xc.y14, Xc.y13, Xc.y12, Xc.y11, Xc.y10, Xc.y9, Xc.y8, Xc.y7, Xc.y6, Xc.y5, Xc.y4, Xc.y3, Xc.y2, Xc.y1, Int.toNat_natCast, set_set, ql hlt, hg]
  rfl
 have E : ∀ t0 t1 t2 t3 t4 t5 t6 t7 t8 t9 t10 t11 t12 t13 t14 t15 t16 t17 t18 t19 t20 t21 t22, Xc.y47 ys c (n : Int) t0 t1 t2 t3 t4 t5 t6 t7 t8 t9 t10 t11 t12 t13 t14 t15 t16 t17 t18 t19 t20 t21 t22 = ys.set n (.agg [.int .i64 c, .int .i64 (wrap64 (c + 1)), .int .i64 (wrap64 (wrap64 (c + 1) + 1)), .int .i64 (wrap64 (wrap64 (wrap64 (c + 1) + 1) + 1)), .int .i64 (wrap64 (wrap64 (wrap64 (wrap64 (c + 1) + 1) + 1) + 1)), .nums 5 .u8 t0.2.1 t0.2.2, .int .i64 t0.1, .nums 5 .u8 t1.2.1 t1.2.2, .int .i64 t1.1, .int .i64 (wrap64 (t1.1 + 1)), .nums 5 .u8 t2.2.1 t2.2.2, .nums 5 .u8 t3.2.1 t3.2.2, .sl 24 t4.2.1 t4.2.2, .int .i64 t4.1, .int .i64 (wrap64 (t4.1 + 1)), .int .i64 (wrap64 (wrap64 (t4.1 + 1) + 1)), .nums 5 .u8 t5.2.1 t5.2.2, .nums 5 .u8 t6.2.1 t6.2.2, .int .i64 t6.1, .int .i64 (wrap64 (t6.1 + 1)), .nums 5 .u8 t7.2.1 t7.2.2, .nums 5 .u8 t8.2.1 t8.2.2, .sl 24 t9.2.1 t9.2.2, .int .i64 t9.1, .int .i64 (wrap64 (t9.1 + 1)), .int .i64 (wrap64 (wrap64 (t9.1 + 1) + 1)), .nums 5 .u8 t10.2.1 t10.2.2, .nums 5 .u8 t11.2.1 t11.2.2, .int .i64 t11.1, .int .i64 (wrap64 (t11.1 + 1)), .nums 5 .u8 t12.2.1 t12.2.2, .nums 5 .u8 t13.2.1 t13.2.2, .sl 24 t14.2.1 t14.2.2, .sl 24 t15.2.1 t15.2.2, .int .i64 t15.1, .sl 83 t16.2.1 t16.2.2, .sl 54 t17.2.1 t17.2.2, .int .i64 t17.1, .int .i64 (wrap64 (t17.1 + 1)), .nums 5 .u8 t18.2.1 t18.2.2, .nums 5 .u8 t19.2.1 t19.2.2, .sl 24 t20.2.1 t20.2.2, .int .i64 t20.1, .int .i64 (wrap64 (t20.1 + 1)), .int .i64 (wrap64 (wrap64 (t20.1 + 1) + 1)), .nums 5 .u8 t21.2.1 t21.2.2, .sl 24 t22.2.1 t22.2.2]) := fun t0 t1 t2 t3 t4 t5 t6 t7 t8 t9 t10 t11 t12 t13 t14 t15 t16 t17 t18 t19 t20 t21 t22 => by
  simp only [Xc.y47, Xc.y46, Xc.y45, Xc.y44, Xc.y43, Xc.y42, Xc.y41, Xc.y40, Xc.y39, Xc.y38, Xc.y37, Xc.y36, Xc.y35, Xc.y34, Xc.y33, Xc.y32, Xc.y31, Xc.y30, Xc.y29, Xc.y28, Xc.y27, Xc.y26, Xc.y25, Xc.y24, Xc.y23, Xc.y22, Xc.y21, Xc.y20, Xc.y19, Xc.y18, Xc.y17, Xc.y16, Xc.y15, Xc.y14, Xc.y13, Xc.y12, Xc.y11, Xc.y10, Xc.y9, Xc.y8, Xc.y7, Xc.y6, Xc.y5, Xc.y4, Xc.y3, Xc.y2, Xc.y1, Int.toNat_natCast, set_set, ql hlt, hg]
  rfl
 have L1 : (Xc.y1 ys c (n : Int)).length = ys.length := by simp only [Xc.y1, List.length_set]
 have L2 : (Xc.y2 ys c (n : Int)).length = ys.length := by simp only [Xc.y2, L1, List.length_set]
 have L3 : (Xc.y3 ys c (n : Int)).length = ys.length := by simp only [Xc.y3, L2, List.length_set]
 have L4 : (Xc.y4 ys c (n : Int)).length = ys.length := by simp only [Xc.y4, L3, List.length_set]
 have L5 : (Xc.y5 ys c (n : Int)).length = ys.length := by simp only [Xc.y5, L4, List.length_set]
 have L6 : ∀ t0, (Xc.y6 ys c (n : Int) t0).length = ys.length := fun t0 => by simp only [Xc.y6, L5, List.length_set]
 have L7 : ∀ t0, (Xc.y7 ys c (n : Int) t0).length = ys.length := fun t0 => by simp only [Xc.y7, L6, List.length_set]
 have L8 : ∀ t0 t1, (Xc.y8 ys c (n : Int) t0 t1).length = ys.length := fun t0 t1 => by simp only [Xc.y8, L7, List.length_set]
 have L9 : ∀ t0 t1, (Xc.y9 ys c (n : Int) t0 t1).length = ys.length := fun t0 t1 => by simp only [Xc.y9, L8, List.length_set]
 have L10 : ∀ t0 t1, (Xc.y10 ys c (n : Int) t0 t1).length = ys.length := fun t0 t1 => by simp only [Xc.y10, L9, List.length_set]
 have L11 : ∀ t0 t1 t2, (Xc.y11 ys c (n : Int) t0 t1 t2).length = ys.length := fun t0 t1 t2 => by simp only [Xc.y11, L10, List.length_set]
 have L12 : ∀ t0 t1 t2 t3, (Xc.y12 ys c (n : Int) t0 t1 t2 t3).length = ys.length := fun t0 t1 t2 t3 => by simp only [Xc.y12, L11, List.length_set]
 have L13 : ∀ t0 t1 t2 t3 t4, (Xc.y13 ys c (n : Int) t0 t1 t2 t3 t4).length = ys.length := fun t0 t1 t2 t3 t4 => by simp only [Xc.y13, L12, List.length_set]
 have L14 : ∀ t0 t1 t2 t3 t4, (Xc.y14 ys c (n : Int) t0 t1 t2 t3 t4).length = ys.length := fun t0 t1 t2 t3 t4 => by simp only [Xc.y14, L13, List.length_set]
 have L15 : ∀ t0 t1 t2 t3 t4, (Xc.y15 ys c (n : Int) t0 t1 t2 t3 t4).length = ys.length := fun t0 t1 t2 t3 t4 => by simp only [Xc.y15, L14, List.length_set]
 have L16 : ∀ t0 t1 t2 t3 t4, (Xc.y16 ys c (n : Int) t0 t1 t2 t3 t4).length = ys.length := fun t0 t1 t2 t3 t4 => by simp only [Xc.y16, L15, List.length_set]
 have L17 : ∀ t0 t1 t2 t3 t4 t5, (Xc.y17 ys c (n : Int) t0 t1 t2 t3 t4 t5).length = ys.length := fun t0 t1 t2 t3 t4 t5 => by simp only [Xc.y17, L16, List.length_set]
 have L18 : ∀ t0 t1 t2 t3 t4 t5 t6, (Xc.y18 ys c (n : Int) t0 t1 t2 t3 t4 t5 t6).length = ys.length := fun t0 t1 t2 t3 t4 t5 t6 => by simp only [Xc.y18, L17, List.length_set]
 have L19 : ∀ t0 t1 t2 t3 t4 t5 t6, (Xc.y19 ys c (n : Int) t0 t1 t2 t3 t4 t5 t6).length = ys.length := fun t0 t1 t2 t3 t4 t5 t6 => by simp only [Xc.y19, L18, List.length_set]
 have L20 : ∀ t0 t1 t2 t3 t4 t5 t6, (Xc.y20 ys c (n : Int) t0 t1 t2 t3 t4 t5 t6).length = ys.length := fun t0 t1 t2 t3 t4 t5 t6 => by simp only [Xc.y20, L19, List.length_set]
 have L21 : ∀ t0 t1 t2 t3 t4 t5 t6 t7, (Xc.y21 ys c (n : Int) t0 t1 t2 t3 t4 t5 t6 t7).length = ys.length := fun t0 t1 t2 t3 t4 t5 t6 t7 => by simp only [Xc.y21, L20, List.length_set]
 have L22 : ∀ t0 t1 t2 t3 t4 t5 t6 t7 t8, (Xc.y22 ys c (n : Int) t0 t1 t2 t3 t4 t5 t6 t7 t8).length = ys.length := fun t0 t1 t2 t3 t4 t5 t6 t7 t8 => by simp only [Xc.y22, L21, List.length_set]
 have L23 : ∀ t0 t1 t2 t3 t4 t5 t6 t7 t8 t9, (Xc.y23 ys c (n : Int) t0 t1 t2 t3 t4 t5 t6 t7 t8 t9).length = ys.length := fun t0 t1 t2 t3 t4 t5 t6 t7 t8 t9 => by simp only [Xc.y23, L22, List.length_set]
 have L24 : ∀ t0 t1 t2 t3 t4 t5 t6 t7 t8 t9, (Xc.y24 ys c (n : Int) t0 t1 t2 t3 t4 t5 t6 t7 t8 t9).length = ys.length := fun t0 t1 t2 t3 t4 t5 t6 t7 t8 t9 => by simp only [Xc.y24, L23, List.length_set]
 have L25 : ∀ t0 t1 t2 t3 t4 t5 t6 t7 t8 t9, (Xc.y25 ys c (n : Int) t0 t1 t2 t3 t4 t5 t6 t7 t8 t9).length = ys.length := fun t0 t1 t2 t3 t4 t5 t6 t7 t8 t9 => by simp only [Xc.y25, L24, List.length_set]
 have L26 : ∀ t0 t1 t2 t3 t4 t5 t6 t7 t8 t9, (Xc.y26 ys c (n : Int) t0 t1 t2 t3 t4 t5 t6 t7 t8 t9).length = ys.length := fun t0 t1 t2 t3 t4 t5 t6 t7 t8 t9 => by simp only [Xc.y26, L25, List.length_set]
 have L27 : ∀ t0 t1 t2 t3 t4 t5 t6 t7 t8 t9 t10, (Xc.y27 ys c (n : Int) t0 t1 t2 t3 t4 t5 t6 t7 t8 t9 t10).length = ys.length := fun t0 t1 t2 t3 t4 t5 t6 t7 t8 t9 t10 => by simp only [Xc.y27, L26, List.length_set]
 have L28 : ∀ t0 t1 t2 t3 t4 t5 t6 t7 t8 t9 t10 t11, (Xc.y28 ys c (n : Int) t0 t1 t2 t3 t4 t5 t6 t7 t8 t9 t10 t11).length = ys.length := fun t0 t1 t2 t3 t4 t5 t6 t7 t8 t9 t10 t11 => by simp only [Xc.y28, L27, List.length_set]
 have L29 : ∀ t0 t1 t2 t3 t4 t5 t6 t7 t8 t9 t10 t11, (Xc.y29 ys c (n : Int) t0 t1 t2 t3 t4 t5 t6 t7 t8 t9 t10 t11).length = ys.length := fun t0 t1 t2 t3 t4 t5 t6 t7 t8 t9 t10 t11 => by simp only [Xc.y29, L28, List.length_set]
 have L30 : ∀ t0 t1 t2 t3 t4 t5 t6 t7 t8 t9 t10 t11, (Xc.y30 ys c (n : Int) t0 t1 t2 t3 t4 t5 t6 t7 t8 t9 t10 t11).length = ys.length := fun t0 t1 t2 t3 t4 t5 t6 t7 t8 t9 t10 t11 => by simp only [Xc.y30, L29, List.length_set]
 have L31 : ∀ t0 t1 t2 t3 t4 t5 t6 t7 t8 t9 t10 t11 t12, (Xc.y31 ys c (n : Int) t0 t1 t2 t3 t4 t5 t6 t7 t8 t9 t10 t11 t12).length = ys.length := fun t0 t1 t2 t3 t4 t5 t6 t7 t8 t9 t10 t11 t12 => by simp only [Xc.y31, L30, List.length_set]
 have L32 : ∀ t0 t1 t2 t3 t4 t5 t6 t7 t8 t9 t10 t11 t12 t13, (Xc.y32 ys c (n : Int) t0 t1 t2 t3 t4 t5 t6 t7 t8 t9 t10 t11 t12 t13).length = ys.length := fun t0 t1 t2 t3 t4 t5 t6 t7 t8 t9 t10 t11 t12 t13 => by simp only [Xc.y32, L31, List.length_set]
 have L33 : ∀ t0 t1 t2 t3 t4 t5 t6 t7 t8 t9 t10 t11 t12 t13 t14, (Xc.y33 ys c (n : Int) t0 t1 t2 t3 t4 t5 t6 t7 t8 t9 t10 t11 t12 t13 t14).length = ys.length := fun t0 t1 t2 t3 t4 t5 t6 t7 t8 t9 t10 t11 t12 t13 t14 => by simp only [Xc.y33, L32, List.length_set]
 have L34 : ∀ t0 t1 t2 t3 t4 t5 t6 t7 t8 t9 t10 t11 t12 t13 t14 t15, (Xc.y34 ys c (n : Int) t0 t1 t2 t3 t4 t5 t6 t7 t8 t9 t10 t11 t12 t13 t14 t15).length = ys.length := fun t0 t1 t2 t3 t4 t5 t6 t7 t8 t9 t10 t11 t12 t13 t14 t15 => by simp only [Xc.y34, L33, List.length_set]
 have L35 : ∀ t0 t1 t2 t3 t4 t5 t6 t7 t8 t9 t10 t11 t12 t13 t14 t15, (Xc.y35 ys c (n : Int) t0 t1 t2 t3 t4 t5 t6 t7 t8 t9 t10 t11 t12 t13 t14 t15).length = ys.length := fun t0 t1 t2 t3 t4 t5 t6 t7 t8 t9 t10 t11 t12 t13 t14 t15 => by simp only [Xc.y35, L34, List.length_set]
 have L36 : ∀ t0 t1 t2 t3 t4 t5 t6 t7 t8 t9 t10 t11 t12 t13 t14 t15 t16, (Xc.y36 ys c (n : Int) t0 t1 t2 t3 t4 t5 t6 t7 t8 t9 t10 t11 t12 t13 t14 t15 t16).length = ys.length := fun t0 t1 t2 t3 t4 t5 t6 t7 t8 t9 t10 t11 t12 t13 t14 t15 t16 => by simp only [Xc.y36, L35, List.length_set]
 have L37 : ∀ t0 t1 t2 t3 t4 t5 t6 t7 t8 t9 t10 t11 t12 t13 t14 t15 t16 t17, (Xc.y37 ys c (n : Int) t0 t1 t2 t3 t4 t5 t6 t7 t8 t9 t10 t11 t12 t13 t14 t15 t16 t17).length = ys.length := fun t0 t1 t2 t3 t4 t5 t6 t7 t8 t9 t10 t11 t12 t13 t14 t15 t16 t17 => by simp only [Xc.y37, L36, List.length_set]
 have L38 : ∀ t0 t1 t2 t3 t4 t5 t6 t7 t8 t9 t10 t11 t12 t13 t14 t15 t16 t17, (Xc.y38 ys c (n : Int) t0 t1 t2 t3 t4 t5 t6 t7 t8 t9 t10 t11 t12 t13 t14 t15 t16 t17).length = ys.length := fun t0 t1 t2 t3 t4 t5 t6 t7 t8 t9 t10 t11 t12 t13 t14 t15 t16 t17 => by simp only [Xc.y38, L37, List.length_set]
 have L39 : ∀ t0 t1 t2 t3 t4 t5 t6 t7 t8 t9 t10 t11 t12 t13 t14 t15 t16 t17, (Xc.y39 ys c (n : Int) t0 t1 t2 t3 t4 t5 t6 t7 t8 t9 t10 t11 t12 t13 t14 t15 t16 t17).length = ys.length := fun t0 t1 t2 t3 t4 t5 t6 t7 t8 t9 t10 t11 t12 t13 t14 t15 t16 t17 => by simp only [Xc.y39, L38, List.length_set]
 have L40 : ∀ t0 t1 t2 t3 t4 t5 t6 t7 t8 t9 t10 t11 t12 t13 t14 t15 t16 t17 t18, (Xc.y40 ys c (n : Int) t0 t1 t2 t3 t4 t5 t6 t7 t8 t9 t10 t11 t12 t13 t14 t15 t16 t17 t18).length = ys.length := fun t0 t1 t2 t3 t4 t5 t6 t7 t8 t9 t10 t11 t12 t13 t14 t15 t16 t17 t18 => by simp only [Xc.y40, L39, List.length_set]
 have L41 : ∀ t0 t1 t2 t3 t4 t5 t6 t7 t8 t9 t10 t11 t12 t13 t14 t15 t16 t17 t18 t19, (Xc.y41 ys c (n : Int) t0 t1 t2 t3 t4 t5 t6 t7 t8 t9 t10 t11 t12 t13 t14 t15 t16 t17 t18 t19).length = ys.length := fun t0 t1 t2 t3 t4 t5 t6 t7 t8 t9 t10 t11 t12 t13 t14 t15 t16 t17 t18 t19 => by simp only [Xc.y41, L40, List.length_set]
 have L42 : ∀ t0 t1 t2 t3 t4 t5 t6 t7 t8 t9 t10 t11 t12 t13 t14 t15 t16 t17 t18 t19 t20, (Xc.y42 ys c (n : Int) t0 t1 t2 t3 t4 t5 t6 t7 t8 t9 t10 t11 t12 t13 t14 t15 t16 t17 t18 t19 t20).length = ys.length := fun t0 t1 t2 t3 t4 t5 t6 t7 t8 t9 t10 t11 t12 t13 t14 t15 t16 t17 t18 t19 t20 => by simp only [Xc.y42, L41, List.length_set]
 have L43 : ∀ t0 t1 t2 t3 t4 t5 t6 t7 t8 t9 t10 t11 t12 t13 t14 t15 t16 t17 t18 t19 t20, (Xc.y43 ys c (n : Int) t0 t1 t2 t3 t4 t5 t6 t7 t8 t9 t10 t11 t12 t13 t14 t15 t16 t17 t18 t19 t20).length = ys.length := fun t0 t1 t2 t3 t4 t5 t6 t7 t8 t9 t10 t11 t12 t13 t14 t15 t16 t17 t18 t19 t20 => by simp only [Xc.y43, L42, List.length_set]
 have L44 : ∀ t0 t1 t2 t3 t4 t5 t6 t7 t8 t9 t10 t11 t12 t13 t14 t15 t16 t17 t18 t19 t20, (Xc.y44 ys c (n : Int) t0 t1 t2 t3 t4 t5 t6 t7 t8 t9 t10 t11 t12 t13 t14 t15 t16 t17 t18 t19 t20).length = ys.length := fun t0 t1 t2 t3 t4 t5 t6 t7 t8 t9 t10 t11 t12 t13 t14 t15 t16 t17 t18 t19 t20 => by simp only [Xc.y44, L43, List.length_set]
 have L45 : ∀ t0 t1 t2 t3 t4 t5 t6 t7 t8 t9 t10 t11 t12 t13 t14 t15 t16 t17 t18 t19 t20, (Xc.y45 ys c (n : Int) t0 t1 t2 t3 t4 t5 t6 t7 t8 t9 t10 t11 t12 t13 t14 t15 t16 t17 t18 t19 t20).length = ys.length := fun t0 t1 t2 t3 t4 t5 t6 t7 t8 t9 t10 t11 t12 t13 t14 t15 t16 t17 t18 t19 t20 => by simp only [Xc.y45, L44, List.length_set]
 have L46 : ∀ t0 t1 t2 t3 t4 t5 t6 t7 t8 t9 t10 t11 t12 t13 t14 t15 t16 t17 t18 t19 t20 t21, (Xc.y46 ys c (n : Int) t0 t1 t2 t3 t4 t5 t6 t7 t8 t9 t10 t11 t12 t13 t14 t15 t16 t17 t18 t19 t20 t21).length = ys.length := fun t0 t1 t2 t3 t4 t5 t6 t7 t8 t9 t10 t11 t12 t13 t14 t15 t16 t17 t18 t19 t20 t21 => by simp only [Xc.y46, L45, List.length_set]
 have p1 : (0 : Int) <= (n : Int) := by omega
 have p2 : (n : Int) < (ys.length : Int) := by omega
 refine ⟨.agg [.int .i64 c, .int .i64 (wrap64 (c + 1)), .int .i64 (wrap64 (wrap64 (c + 1) + 1)), .int .i64 (wrap64 (wrap64 (wrap64 (c + 1) + 1) + 1)), .int .i64 (wrap64 (wrap64 (wrap64 (wrap64 (c + 1) + 1) + 1) + 1)), .nums 5 .u8 t0.2.1 t0.2.2, .int .i64 t0.1, .nums 5 .u8 t1.2.1 t1.2.2, .int .i64 t1.1, .int .i64 (wrap64 (t1.1 + 1)), .nums 5 .u8 t2.2.1 t2.2.2, .nums 5 .u8 t3.2.1 t3.2.2, .sl 24 t4.2.1 t4.2.2, .int .i64 t4.1, .int .i64 (wrap64 (t4.1 + 1)), .int .i64 (wrap64 (wrap64 (t4.1 + 1) + 1)), .nums 5 .u8 t5.2.1 t5.2.2, .nums 5 .u8 t6.2.1 t6.2.2, .int .i64 t6.1, .int .i64 (wrap64 (t6.1 + 1)), .nums 5 .u8 t7.2.1 t7.2.2, .nums 5 .u8 t8.2.1 t8.2.2, .sl 24 t9.2.1 t9.2.2, .int .i64 t9.1, .int .i64 (wrap64 (t9.1 + 1)), .int .i64 (wrap64 (wrap64 (t9.1 + 1) + 1)), .nums 5 .u8 t10.2.1 t10.2.2, .nums 5 .u8 t11.2.1 t11.2.2, .int .i64 t11.1, .int .i64 (wrap64 (t11.1 + 1)), .nums 5 .u8 t12.2.1 t12.2.2, .nums 5 .u8 t13.2.1 t13.2.2, .sl 24 t14.2.1 t14.2.2, .sl 24 t15.2.1 t15.2.2, .int .i64 t15.1, .sl 83 t16.2.1 t16.2.2, .sl 54 t17.2.1 t17.2.2, .int .i64 t17.1, .int .i64 (wrap64 (t17.1 + 1)), .nums 5 .u8 t18.2.1 t18.2.2, .nums 5 .u8 t19.2.1 t19.2.2, .sl 24 t20.2.1 t20.2.2, .int .i64 t20.1, .int .i64 (wrap64 (t20.1 + 1)), .int .i64 (wrap64 (wrap64 (t20.1 + 1) + 1)), .nums 5 .u8 t21.2.1 t21.2.2, .sl 24 t22.2.1 t22.2.2], _, (show Bd c 44836 _ from B22), fun r K => ?_, fun ys' hl hg r K => ?_⟩
 ·refine qb ?_
  simp only [Xc.l0, Int.toNat_natCast, qn n (by omega), E, r0, r1, r2, r3, r4, r5, r6, r7, r8, r9, r10, r11, r12, r13, r14, r15, r16, r17, r18, r19, r20, r21, r22, L1, L2, L3, L4, L5, L6, L7, L8, L9, L10, L11, L12, L13, L14, L15, L16, L17, L18, L19, L20, L21, L22, L23, L24, L25, L26, L27, L28, L29, L30, L31, L32, L33, L34, L35, L36, L37, L38, L39, L40, L41, L42, L43, L44, L45, L46]
  exact qa p2 (qa p1 (qa p2 (qa p1 (qa p2 (qa p1 (qa p2 (qa p1 (qa p2 (qa p1 (qa p2 (qa p1 (qa p2 (Ev.bind M0 (qa p1 (qa p2 (qa p1 (qa p2 (Ev.bind M1 (qa p1 (qa p2 (qa p1 (qa p2 (qa p1 (qa p2 (Ev.bind M2 (qa p1 (qa p2 (Ev.bind M3 (qa p1 (qa p2 (Ev.bind M4 (qa p1 (qa p2 (qa p1 (qa p2 (qa p1 (qa p2 (qa p1 (qa p2 (Ev.bind M5 (qa p1 (qa p2 (Ev.bind M6 (qa p1 (qa p2 (qa p1 (qa p2 (qa p1 (qa p2 (Ev.bind M7 (qa p1 (qa p2 (Ev.bind M8 (qa p1 (qa p2 (Ev.bind M9 (qa p1 (qa p2 (qa p1 (qa p2 (qa p1 (qa p2 (qa p1 (qa p2 (Ev.bind M10 (qa p1 (qa p2 (Ev.bind M11 (qa p1 (qa p2 (qa p1 (qa p2 (qa p1 (qa p2 (Ev.bind M12 (qa p1 (qa p2 (Ev.bind M13 (qa p1 (qa p2 (Ev.bind M14 (qa p1 (qa p2 (Ev.bind M15 (qa p1 (qa p2 (qa p1 (qa p2 (Ev.bind M16 (qa p1 (qa p2 (Ev.bind M17 (qa p1 (qa p2 (qa p1 (qa p2 (qa p1 (qa p2 (Ev.bind M18 (qa p1 (qa p2 (Ev.bind M19 (qa p1 (qa p2 (Ev.bind M20 (qa p1 (qa p2 (qa p1 (qa p2 (qa p1 (qa p2 (qa p1 (qa p2 (Ev.bind M21 (qa p1 (qa p2 (Ev.bind M22 K)))))))))))))))))))))))))))))))))))))))))))))))))))))))))))))))))))))))))))))))))))))))))))))))))))))))))))))))))))))
 ·rw [<- hl] at p2
  have Z : Ev (fun k => XZ.l1 k z ys' t14.1 (n : Int)) r := by
   refine qb ?_
   simp only [XZ.l1.eq_2, Int.toNat_natCast, qn n (by omega), hg]
   exact qe N14 (qa p1 (qa p2 (Ev.bind H15 (qe N15 (qa p1 (qa p2 (qe (fun q => q rfl) (qa p1 (qa p2 (Ev.bind H16 (qe N16 (qa p1 (qa p2 (Ev.bind H17 (qe N17 (qa p1 (qa p2 (qe (fun q => q rfl) (qa p1 (qa p2 (qe (fun q => q rfl) (qa p1 (qa p2 (Ev.bind H18 (qe N18 (qa p1 (qa p2 (Ev.bind H19 (qe N19 (qa p1 (qa p2 (Ev.bind H20 (qe N20 (qa p1 (qa p2 (qe (fun q => q rfl) (qa p1 (qa p2 (qe (fun q => q rfl) (qa p1 (qa p2 (qe (fun q => q rfl) (qa p1 (qa p2 (Ev.bind H21 (qe N21 (qa p1 (qa p2 (Ev.bind H22 (qe N22 K))))))))))))))))))))))))))))))))))))))))))))))))))
  refine qb ?_
  simp only [XZ.l0.eq_2, Int.toNat_natCast, hg]
  exact qa p2 (qa p1 (qa p2 (qe (fun q => q rfl) (qa p1 (qa p2 (qe (fun q => q rfl) (qa p1 (qa p2 (qe (fun q => q rfl) (qa p1 (qa p2 (qe (fun q => q rfl) (qa p1 (qa p2 (qe (fun q => q rfl) (qa p1 (qa p2 (Ev.bind H0 (qe N0 (qa p1 (qa p2 (qe (fun q => q rfl) (qa p1 (qa p2 (Ev.bind H1 (qe N1 (qa p1 (qa p2 (qe (fun q => q rfl) (qa p1 (qa p2 (qe (fun q => q rfl) (qa p1 (qa p2 (Ev.bind H2 (qe N2 (qa p1 (qa p2 (Ev.bind H3 (qe N3 (qa p1 (qa p2 (Ev.bind H4 (qe N4 (qa p1 (qa p2 (qe (fun q => q rfl) (qa p1 (qa p2 (qe (fun q => q rfl) (qa p1 (qa p2 (qe (fun q => q rfl) (qa p1 (qa p2 (Ev.bind H5 (qe N5 (qa p1 (qa p2 (Ev.bind H6 (qe N6 (qa p1 (qa p2 (qe (fun q => q rfl) (qa p1 (qa p2 (qe (fun q => q rfl) (qa p1 (qa p2 (Ev.bind H7 (qe N7 (qa p1 (qa p2 (Ev.bind H8 (qe N8 (qa p1 (qa p2 (Ev.bind H9 (qe N9 (qa p1 (qa p2 (qe (fun q => q rfl) (qa p1 (qa p2 (qe (fun q => q rfl) (qa p1 (qa p2 (qe (fun q => q rfl) (qa p1 (qa p2 (Ev.bind H10 (qe N10 (qa p1 (qa p2 (Ev.bind H11 (qe N11 (qa p1 (qa p2 (qe (fun q => q rfl) (qa p1 (qa p2 (qe (fun q => q rfl) (qa p1 (qa p2 (Ev.bind H12 (qe N12 (qa p1 (qa p2 (Ev.bind H13 (qe N13 (qa p1 (qa p2 (Ev.bind H14 Z)))))))))))))))))))))))))))))))))))))))))))))))))))))))))))))))))))))))))))))))))))))))))))))))))))))))))))))))))
theorem Xc.mh {lo c : Int} {k : Nat} (H : 0 <= lo /\ lo <= 8500000000000) (hk : k <= 100000000) (b : Bd lo k c) (z : Bool) {l : List Evt} (hl : l.length <= 10000000) (hs : ∀ u ∈ l, u.m.sm) (hc : c + (l.length * 44836 : Nat) <= 8000000000000) : ∃ t : Int × Bool × List T, (c <= t.1 /\ t.1 <= c + (l.length * 44836 : Nat)) /\ Ev (fun q => Xc.f q z (l.map Evt.t) c) t /\ Ev (fun q => XZ.f q t.2.1 t.2.2 c) t.1 := by
 obtain ⟨p, b2, M, H2⟩ := mhG (mark := Xc.l0) (held := XZ.l0) (E := Evt.t) (P := fun u => u.m.sm) 44836 8000000000000
  (fun z ys c n h => qb (by simp only [Xc.l0]; exact qe (by omega) (qd rfl)))
  (fun z ys c n h => qb (by simp only [XZ.l0.eq_2]; exact qe (by omega) (qd rfl)))
  (fun z ys c n u h1 h2 h3 h4 h5 => Xc.stp z ys c n u h1 h2 h3 h4 h5) z l hl hs c (by have := b.1; omega) hc
 refine ⟨p, b2, qb ?_, qb ?_⟩
 ·simp only [Xc.f]
  exact M
 ·simp only [XZ.f]
  exact H2
def parseE (N tx txs fr hd : Int) (b : List Int) (cl : Bool) : List Evt := if limitsOk N tx txs fr hd = true then (scanV N tx txs fr hd b cl (b.length + 1) 0 0).1 else []
theorem qiG (N tx txs fr hd : Int) {b : List Int} (hb : niceB b) (cl : Bool) : (∀ x ∈ parseE N tx txs fr hd b cl, x.m.sm) /\ (parseE N tx txs fr hd b cl).length <= 2 * b.length + 1 := by
 unfold parseE
 split
 ·rename_i L
  have := qdK L hb cl (b.length + 1) 0 0 (by omega)
  exact ⟨this.1, by have := this.2; omega⟩
 ·exact ⟨fun x hx => (List.not_mem_nil hx).elim, Nat.zero_le _⟩
theorem Ybr.ev (N tx txs fr hd : Int) (z : Bool) (b : List Int) (hb : niceB b) (cl : Bool) : Ev (fun k => Ybr.f k N tx txs fr hd z b cl) (!limitsOk N tx txs fr hd, (parseE N tx txs fr hd b cl).map Evt.t) := by
 have l := XE.ev N tx txs fr hd
 refine qb ?_
 simp only [Ybr.f]
 unfold parseE
 by_cases L : limitsOk N tx txs fr hd = true
 ·have S := Xh.ev0 L z b hb cl (b.length + 1) 0 0 [] (by omega) (by omega) (by omega) (Nat.le_refl _)
  rw [L] at l ⊢
  refine Ev.bind l (qe (by simp) (Ev.bind (qb (p := fun k => Xh.f k N tx txs fr hd z b cl 0) (by simp only [Xh.f]; exact S)) (qd ?_)))
  rfl
 ·have L : limitsOk N tx txs fr hd = false := by simpa using L
  rw [L] at l ⊢
  exact Ev.bind l (qa (by simp) (qd rfl))
theorem YbB.ev (N tx txs fr hd : Int) (z : Bool) (b : List Int) (hb : niceB b) (cl : Bool) : Ev (fun k => YbB.f k N tx txs fr hd z b cl) (!limitsOk N tx txs fr hd, (parseE N tx txs fr hd b cl).map Evt.t) := by
 have l := Yaq.ev N tx txs fr hd
 refine qb ?_
 simp only [YbB.f]
 unfold parseE
 by_cases L : limitsOk N tx txs fr hd = true
 ·have S := Xf.ev0 L z b hb cl (b.length + 1) 0 0 [] (by omega) (by omega) (by omega) (Nat.le_refl _)
  rw [L] at l ⊢
  refine Ev.bind l (qe (by simp) (Ev.bind (qb (p := fun k => Xf.f k N tx txs fr hd z b cl 0) (by simp only [Xf.f]; exact S)) (qd ?_)))
  rfl
 ·have L : limitsOk N tx txs fr hd = false := by simpa using L
  rw [L] at l ⊢
  exact Ev.bind l (qa (by simp) (qd rfl))
theorem YaA.ev (u : Evt) (w : u.m.few) : Ev (fun k => YaA.f k u.k u.n u.m.k u.m.vt.v u.m.vt.h u.m.vt.bz u.m.vt.blk u.m.vt.who u.m.vt.tz u.m.vt.tag u.m.qc.v u.m.qc.h u.m.qc.bz u.m.qc.blk u.m.qc.mz u.m.qc.bits u.m.qc.tz (u.m.qc.tags.map By.t) u.m.hd.v u.m.hd.h u.m.hd.p u.m.hd.az u.m.hd.par u.m.hd.rz u.m.hd.root u.m.hd.q.v u.m.hd.q.h u.m.hd.q.bz u.m.hd.q.blk u.m.hd.q.mz u.m.hd.q.bits u.m.hd.q.tz (u.m.hd.q.tags.map By.t) u.m.bk.hd.v u.m.bk.hd.h u.m.bk.hd.p u.m.bk.hd.az u.m.bk.hd.par u.m.bk.hd.rz u.m.bk.hd.root u.m.bk.hd.q.v u.m.bk.hd.q.h u.m.bk.hd.q.bz u.m.bk.hd.q.blk u.m.bk.hd.q.mz u.m.bk.hd.q.bits u.m.bk.hd.q.tz (u.m.bk.hd.q.tags.map By.t) u.m.bk.tz (u.m.bk.txs.map By.t) u.m.tc.v u.m.tc.ez (u.m.tc.ents.map En.t) u.m.pf.hz (u.m.pf.heads.map Head.t) u.m.pf.q.v u.m.pf.q.h u.m.pf.q.bz u.m.pf.q.blk u.m.pf.q.mz u.m.pf.q.bits u.m.pf.q.tz (u.m.pf.q.tags.map By.t) u.m.ic.h u.m.ic.n u.m.ic.at_ u.m.ic.xz u.m.ic.tx u.m.ic.pz (u.m.ic.path.map By.t) u.k u.n u.m.k u.m.vt.v u.m.vt.h u.m.vt.bz u.m.vt.blk u.m.vt.who u.m.vt.tz u.m.vt.tag u.m.qc.v u.m.qc.h u.m.qc.bz u.m.qc.blk u.m.qc.mz u.m.qc.bits u.m.qc.tz (u.m.qc.tags.map By.t) u.m.hd.v u.m.hd.h u.m.hd.p u.m.hd.az u.m.hd.par u.m.hd.rz u.m.hd.root u.m.hd.q.v u.m.hd.q.h u.m.hd.q.bz u.m.hd.q.blk u.m.hd.q.mz u.m.hd.q.bits u.m.hd.q.tz (u.m.hd.q.tags.map By.t) u.m.bk.hd.v u.m.bk.hd.h u.m.bk.hd.p u.m.bk.hd.az u.m.bk.hd.par u.m.bk.hd.rz u.m.bk.hd.root u.m.bk.hd.q.v u.m.bk.hd.q.h u.m.bk.hd.q.bz u.m.bk.hd.q.blk u.m.bk.hd.q.mz u.m.bk.hd.q.bits u.m.bk.hd.q.tz (u.m.bk.hd.q.tags.map By.t) u.m.bk.tz (u.m.bk.txs.map By.t) u.m.tc.v u.m.tc.ez (u.m.tc.ents.map En.t) u.m.pf.hz (u.m.pf.heads.map Head.t) u.m.pf.q.v u.m.pf.q.h u.m.pf.q.bz u.m.pf.q.blk u.m.pf.q.mz u.m.pf.q.bits u.m.pf.q.tz (u.m.pf.q.tags.map By.t) u.m.ic.h u.m.ic.n u.m.ic.at_ u.m.ic.xz u.m.ic.tx u.m.ic.pz (u.m.ic.path.map By.t)) true := by
 refine qb ?_
 simp only [YaA.f]
 exact qe (fun q => q trivial) (qe (fun q => q trivial) (Ev.bind (Yaz.ev u.m w) (qe (by simp) (qd rfl))))
theorem XT.ev (y z : Bool) (l : List Evt) (hl : l.length <= 10000000) (h : ∀ x ∈ l, x.m.sm) : Ev (fun k => XT.f k y (l.map Evt.t) z (l.map Evt.t)) true := by
 have key : ∀ (d n : Nat), n + d = l.length -> Ev (fun k => XT.l0 k y (l.map Evt.t) z (l.map Evt.t) (n : Int)) true := by
  intro d
  induction d with
  | zero =>
   intro n hn
   refine qb ?_
   simp only [XT.l0, List.length_map]
   exact qe (by omega) (qd rfl)
  | succ d ih =>
   intro n hn
   have hlt : n < l.length := by omega
   have g : (l.map Evt.t).getD n .bad = (l[n]).t := by rw [List.getD_eq_getElem?_getD, List.getElem?_map, List.getElem?_eq_getElem hlt]; rfl
   have e := YaA.ev l[n] (h _ (List.getElem_mem hlt)).few
   generalize l[n] = u at *
   refine qb ?_
   simp only [XT.l0, List.length_map, Int.toNat_natCast, g, qn n (by omega)]
   exact qa (by omega) (qa (by omega) (qa (by omega) (qa (by omega) (qa (by omega) (Ev.bind e (qe (by simp) (ih (n + 1) (by omega))))))))
 refine qb ?_
 simp only [XT.f, List.length_map]
 exact qe (fun q => q trivial) (key l.length 0 (by omega))
theorem YbO.top (x0 : Lm) (g0 : Lm.good x0) (x1 : By) (g1 : By.good x1) (x2 : Bool) (g2 : True) : Ev (fun k => YbO.f k x0.l0 x0.l1 x0.l2 x0.l3 x0.l4 x1.z x1.l x2) true := by
 refine qb ?_
 simp only [YbO.f]
 refine qf (fun q => qd rfl) (fun q => ?_)
 have ok : okB x1.l := by unfold okB; omega
 have nb : niceB x1.l := qgs g1 ok
 have hl := nb.1
 have T := YaJ.ev x0.l0 x0.l1 x0.l2 x0.l3 x0.l4
 have B := XN.ev x1.z x1.l ok
 have I := Ybr.ev x0.l0 x0.l1 x0.l2 x0.l3 x0.l4 false x1.l nb x2
 have S := YbB.ev x0.l0 x0.l1 x0.l2 x0.l3 x0.l4 false x1.l nb x2
 obtain ⟨sm, len⟩ := qiG x0.l0 x0.l1 x0.l2 x0.l3 x0.l4 nb x2
 generalize parseE x0.l0 x0.l1 x0.l2 x0.l3 x0.l4 x1.l x2 = l at *
 generalize (!limitsOk x0.l0 x0.l1 x0.l2 x0.l3 x0.l4) = y at *
 have Q := XT.ev y y l (by omega) sm
 have M0 := Xe.ev false x1.l ok 1 ⟨by omega, by omega⟩
 obtain ⟨t, b, M, H⟩ := Xc.mh (lo := 1) (c := 1) (k := 0) ⟨by omega, by omega⟩ (by omega) (bd0 1) y (l := l) (by omega) sm (by omega)
 have p : ¬ t.1 < 0 := by omega
 exact Ev.bind T (Ev.bind B (Ev.bind S (Ev.bind B (Ev.bind T (Ev.bind I (Ev.bind Q (qe (by simp) (Ev.bind B (Ev.bind (Xo.ev _ _ _ ok) (qe (by simp) (Ev.bind M0 (qe (by simp only; omega) (Ev.bind Q (qe (by simp) (Ev.bind M (Ev.bind H (qe p (qe (fun q => q rfl) (Ev.bind T (Ev.bind B (Ev.bind I (Ev.bind Q (qe (by simp) (Ev.bind H (qe p (qe (fun q => q rfl) (qd rfl)))))))))))))))))))))))))))
end Go.Proofs.YthocpcfjfgnkgaaGreatG
