/- The machine of values, part 4: what a function computes over whole values, and that the Go machine comes to it. No condition. -/
import Derived.Test.YthocpcfjfgnkgaaGreatRvC
import Derived.ChangeArms
import Derived.ChangeSlices
import Derived.DataElems
import Derived.Deep.Slices
import Derived.Laws.BitsLemmas
import Derived.Lib.Bytes
namespace Go.Proofs.YthocpcfjfgnkgaaGreatRv
open Go Go.RowKit
set_option linter.unusedVariables false
set_option linter.unusedSimpArgs false
section
variable {P : Program} {S S' : St} {C : CallSem} {R : Type} {ops : Array Oper}
theorem qgz (ops : Array Oper) : ∀ k, k < ops.size -> ∀ j, ((befores ops).getD k 0).testBit j = true -> ∃ o, ops[k]? = some o /\ ∃ e ∈ o.after, Region.binds .any e = true /\ (j = e.on ∨ ((befores ops).getD e.on 0).testBit j = true) := by
 have inner : ∀ (es : Array Edge) (acc : Array Nat) (j : Nat), (es.foldl (fun s e => if Region.binds .any e then s ||| 2 ^ e.on ||| acc.getD e.on 0 else s) 0).testBit j = true ->
   ∃ e ∈ es, Region.binds .any e = true /\ (j = e.on ∨ (acc.getD e.on 0).testBit j = true) := fun es acc j => by
  have key : ∀ (l : List Edge) (s : Nat), (l.foldl (fun s e => if Region.binds .any e then s ||| 2 ^ e.on ||| acc.getD e.on 0 else s) s).testBit j = true -> s.testBit j = true ∨ ∃ e ∈ l, Region.binds .any e = true /\ (j = e.on ∨ (acc.getD e.on 0).testBit j = true) := by
   intro l
   induction l with
   | nil => intro s h; exact .inl h
   | cons e l ih =>
    intro s h
    simp only [List.foldl_cons] at h
    rcases ih _ h with h1 | ⟨e', h1, h2⟩
    ·split at h1
     ·rename_i hb
      rw [Nat.testBit_or, Nat.testBit_or] at h1
      simp only [Bool.or_eq_true] at h1
      rcases h1 with (h1 | h1) | h1
      ·exact .inl h1
      ·refine .inr ⟨e, by simp, hb, .inl ?_⟩
       rw [Nat.testBit_two_pow] at h1
       simp at h1
       exact h1.symm
      ·exact .inr ⟨e, by simp, hb, .inr h1⟩
     ·exact .inl h1
    ·exact .inr ⟨e', by simp [h1], h2⟩
  intro h
  rw [<- Array.foldl_toList] at h
  rcases key es.toList 0 h with h | ⟨e, h1, h2⟩
  ·simp at h
  ·exact ⟨e, by simpa using h1, h2⟩
 have main : (befores ops).size = ops.size /\ ∀ k, k < ops.size -> ∀ j, ((befores ops).getD k 0).testBit j = true -> ∃ o, ops[k]? = some o /\ ∃ e ∈ o.after, Region.binds .any e = true /\ (j = e.on ∨ ((befores ops).getD e.on 0).testBit j = true) := by
  unfold befores Region.before
  refine Array.foldl_induction (motive := fun n (acc : Array Nat) => acc.size = n /\ ∀ k, k < n -> ∀ j, (acc.getD k 0).testBit j = true -> ∃ o, ops[k]? = some o /\ ∃ e ∈ o.after, Region.binds .any e = true /\ (j = e.on ∨ (acc.getD e.on 0).testBit j = true)) ⟨by simp, fun k hk => by omega⟩ fun i acc ⟨hs, h⟩ => ?_
  have grow : ∀ (x q j : Nat), (acc.getD q 0).testBit j = true -> ((acc.push x).getD q 0).testBit j = true := fun x q j hq => by
   by_cases hl : q < acc.size
   ·rw [Array.getD_eq_getD_getElem?, Array.getElem?_push_lt hl]
    rw [Array.getD_eq_getD_getElem?, Array.getElem?_eq_getElem hl] at hq
    exact hq
   ·rw [Array.getD_eq_getD_getElem?, Array.getElem?_eq_none (by omega)] at hq
    simp at hq
  refine ⟨by simp [hs], fun k hk j hj => ?_⟩
  by_cases hkn : k < i.val
  ·have e1 : ∀ x, (acc.push x).getD k 0 = acc.getD k 0 := fun x => by
    rw [Array.getD_eq_getD_getElem?, Array.getD_eq_getD_getElem?, Array.getElem?_push_lt (by omega), Array.getElem?_eq_getElem (by omega)]
   rw [e1] at hj
   obtain ⟨o, h1, e, h2, h3, h4⟩ := h k hkn j hj
   exact ⟨o, h1, e, h2, h3, h4.imp id (grow _ _ _)⟩
  ·have hki : k = i.val := by omega
   subst hki
   have e1 : ∀ x, (acc.push x).getD i.val 0 = x := fun x => by
    rw [Array.getD_eq_getD_getElem?, <- hs]
    simp
   rw [e1] at hj
   obtain ⟨e, h2, h3, h4⟩ := inner _ _ _ hj
   exact ⟨ops[i.val], by simp, e, h2, h3, h4.imp id (grow _ _ _)⟩
 exact main.2
theorem qeY (h : edgesOk ops = true) {i : Nat} {o : Oper} (ho : ops[i]? = some o) {e : Edge} (he : e ∈ o.after) (hb : Region.binds .any e = true) : e.on < i := by
 unfold edgesOk at h
 have hi : i < ops.size := (Array.getElem?_eq_some_iff.1 ho).1
 have := List.all_eq_true.1 h i (by simpa using hi)
 rw [ho] at this
 simp only at this
 have h2 := Array.all_eq_true_iff_forall_mem.1 this e he
 simpa [hb] using h2
def Closed (ops : Array Oper) (L : Array Bool) : Prop := ∀ j o, ops[j]? = some o -> L.getD j false = true -> ∀ e ∈ o.after, Region.binds .any e = true -> L.getD e.on false = true
theorem qaT (hE : edgesOk ops = true) {L : Array Bool} (hC : Closed ops L) : ∀ (k : Nat) (o : Oper), ops[k]? = some o -> (∀ e ∈ o.after, Region.binds .any e = true -> L.getD e.on false = true) -> ∀ j, ((befores ops).getD k 0).testBit j = true -> L.getD j false = true := by
 intro k
 induction k using Nat.strongRecOn with
 | _ k ih =>
  intro o ho hl j hj
  obtain ⟨o', h1, e, h2, h3, h4⟩ := qgz ops k (Array.getElem?_eq_some_iff.1 ho).1 j hj
  rw [ho] at h1
  cases h1
  have hlt := qeY hE ho h2 h3
  have hd := hl e h2 h3
  rcases h4 with rfl | h4
  ·exact hd
  ·have hs : e.on < ops.size := by have := (Array.getElem?_eq_some_iff.1 ho).1; omega
   exact ih e.on hlt ops[e.on] (by simp [hs]) (hC e.on _ (by simp [hs]) hd) j h4
theorem qai (hE : edgesOk ops = true) {L : Array Bool} (hC : Closed ops L) {i j : Nat} (hi : i < ops.size) (hd : L.getD i false = true ∨ i ∈ Region.ready .any ops L) (hw : waits (befores ops) i j = true) : L.getD j false = true /\ j < i := by
 unfold waits at hw
 simp only [Bool.and_eq_true, decide_eq_true_eq] at hw
 refine ⟨?_, hw.1⟩
 rcases hd with hd | hd
 ·exact qaT hE hC i ops[i] (by simp [hi]) (hC i _ (by simp [hi]) hd) j hw.2
 ·obtain ⟨_, o, ho, h⟩ := mem_ready.1 hd
  exact qaT hE hC i o ho h j hw.2
theorem qcv (ops : Array Oper) : ∀ n, headLen ops n <= n
 | 0 => Nat.le_refl _
 | n + 1 => by
  unfold headLen
  split
  ·exact Nat.le_succ_of_le (qcv ops n)
  ·exact Nat.le_refl _
theorem qbm (ops : Array Oper) : ∀ n i, headLen ops n <= i -> i < n -> ∀ j, j < i -> ((befores ops).getD i 0).testBit j = true
 | 0, i, _, h, _, _ => by omega
 | n + 1, i, hle, hi, j, hj => by
  unfold headLen at hle
  split at hle
  ·rename_i he
   by_cases hin : i = n
   ·subst hin
    simp only [beq_iff_eq] at he
    have : (((befores ops).getD i 0) % 2 ^ i).testBit j = (2 ^ i - 1).testBit j := by rw [he]
    rw [Nat.testBit_mod_two_pow, Nat.testBit_two_pow_sub_one] at this
    simpa [hj] using this
   ·exact qbm ops n i hle (by omega) j hj
  ·omega
theorem qcG {L : Array Bool} (hC : Closed ops L) {i : Nat} (hi : i ∈ Region.ready .any ops L) : Closed ops (L.setIfInBounds i true) := by
 obtain ⟨_, oi, hoi, hall⟩ := mem_ready.1 hi
 have grow : ∀ q, L.getD q false = true -> (L.setIfInBounds i true).getD q false = true := fun q hq => by
  rw [Array.getD_eq_getD_getElem?, Array.getElem?_setIfInBounds]
  rw [Array.getD_eq_getD_getElem?] at hq
  by_cases h : i = q
  ·subst h
   by_cases hl : i < L.size
   ·simp [hl]
   ·simp [hl] at hq
  ·simp [h, hq]
 intro j o ho hl e he hb
 by_cases hij : i = j
 ·subst hij
  rw [hoi] at ho
  cases ho
  exact grow _ (hall e he hb)
 ·refine grow _ (hC j o ho ?_ e he hb)
  rw [Array.getD_eq_getD_getElem?, Array.getElem?_setIfInBounds, if_neg hij] at hl
  rw [Array.getD_eq_getD_getElem?]
  exact hl
theorem qcF (hE : edgesOk ops = true) {L : Array Bool} (hL : L.size = ops.size) (h : Region.ready .any ops L = []) : ∀ i, i < ops.size -> L.getD i false = true := by
 intro i
 induction i using Nat.strongRecOn with
 | _ i ih =>
  intro hi
  cases hd : L.getD i false with
  | true => rfl
  | false =>
   exfalso
   have : i ∈ Region.ready .any ops L := mem_ready.2 ⟨by
    rw [Array.getD_eq_getD_getElem?, Array.getElem?_eq_getElem (by omega)] at hd ⊢
    exact hd, ops[i], by simp [hi], fun e he hb => by
     have := qeY hE (i := i) (o := ops[i]) (by simp [hi]) he hb
     exact ih e.on this (by omega)⟩
   rw [h] at this
   simp at this
end
section
variable {P : Program} {S S' : St} {C : CallSem} {R : Type} {ops : Array Oper} {E : Env} {ok : OkT}
theorem qeq {α : Type} (t : Tr α) {K : α -> Option R} {r : R} (h : t.go C K = some r) : ∃ v, t.go C some = some v /\ K v = some r := by
 induction t with
 | ret a => exact ⟨a, rfl, h⟩
 | no => simp [Tr.go] at h
 | ite c a b ha hb =>
  cases c with
  | true => exact ha h
  | false => exact hb h
 | call f args k ih =>
  simp only [Tr.go] at h
  obtain ⟨res, h1, h2⟩ := Option.bind_eq_some_iff.1 h
  obtain ⟨v, h3, h4⟩ := ih _ h2
  exact ⟨v, by simp only [Tr.go, h1, Option.bind_some]; exact h3, h4⟩
def wantedA (S : St) (ops : Array Oper) (o : Oper) : Option Bool := match o.guard with
 | none => some true
 | some (j, want) => (yieldedA S ops j).map (· == some want)
def HV (P : Program) (C : CallSem) (ops : Array Oper) (S : St) (k : Nat) (v : TV) : Prop :=
 ∃ o, ops[k]? = some o /\ ((wantedA S ops o = some true /\ (quiet P S o).go C some = some v) ∨ (wantedA S ops o = some false /\ v = skipped))
def dstOf (ops : Array Oper) (i : Nat) : Option Nat := (ops[i]?).bind (·.dst)
theorem qfA {K : St -> Option R} {r : R} : ∀ (n i : Nat) (S : St), runHead P C ops (List.range' i n) S K = some r ->
  ∃ (t : Nat -> TV) (st : Nat -> St), st i = S /\ (∀ k, i <= k -> k < i + n -> HV P C ops (st k) k (t k) /\ st (k + 1) = (st k).put (dstOf ops k) (t k)) /\ K (st (i + n)) = some r
 | 0, i, S, h => ⟨fun _ => .undef, fun _ => S, rfl, fun k h1 h2 => by omega, h⟩
 | n + 1, i, S, h => by
  rw [List.range'_succ] at h
  simp only [runHead] at h
  split at h
  ·simp at h
  ·rename_i o ho
   have fin : ∀ (v : TV), HV P C ops S i v -> runHead P C ops (List.range' (i + 1) n) (S.put o.dst v) K = some r -> ∃ (t : Nat -> TV) (st : Nat -> St), st i = S /\ (∀ k, i <= k -> k < i + (n + 1) -> HV P C ops (st k) k (t k) /\ st (k + 1) = (st k).put (dstOf ops k) (t k)) /\ K (st (i + (n + 1))) = some r := fun v hv hrun => by
    obtain ⟨t, st, h1, h2, h3⟩ := qfA n (i + 1) _ hrun
    refine ⟨fun k => if k = i then v else t k, fun k => if k = i then S else st k, by simp, fun k hk1 hk2 => ?_, ?_⟩
    ·by_cases hki : k = i
     ·subst hki
      simp only [if_true, if_neg (by omega : ¬ k + 1 = k)]
      exact ⟨hv, by rw [h1]; simp [dstOf, ho]⟩
     ·simp only [if_neg hki, if_neg (by omega : ¬ k + 1 = i)]
      exact h2 k (by omega) (by omega)
    ·simp only [if_neg (by omega : ¬ i + (n + 1) = i)]
     rw [show i + (n + 1) = i + 1 + n by omega]
     exact h3
   split at h
   ·rename_i hg
    obtain ⟨v, h1, h2⟩ := qeq _ h
    rw [qaR] at h2
    exact fin v ⟨o, ho, .inl ⟨by simp [wantedA, hg], h1⟩⟩ h2
   ·rename_i j want hg
    split at h
    ·simp at h
    ·rename_i y hy
     split at h
     ·rename_i hb
      obtain ⟨v, h1, h2⟩ := qeq _ h
      rw [qaR] at h2
      exact fin v ⟨o, ho, .inl ⟨by simp [wantedA, hg, hy, hb], h1⟩⟩ h2
     ·rename_i hb
      exact fin skipped ⟨o, ho, .inr ⟨by simp [wantedA, hg, hy, hb], rfl⟩⟩ h
structure StD (ops : Array Oper) (m : Nat) (t : Nat -> TV) (S0 : St) (D : Nat -> Prop) (S : St) : Prop where
 boxes : S.boxes = S0.boxes
 len : S.tmps.length = S0.tmps.length
 np : S.np = S0.np
 done : ∀ i q, i < m -> D i -> dstOf ops i = some q -> S.tmp q = (S0.put (some q) (t i)).tmp q
 rest : ∀ q, (∀ i, i < m -> D i -> dstOf ops i ≠ some q) -> S.tmp q = S0.tmp q
theorem StD.agree {m : Nat} {t : Nat -> TV} {S0 S1 S2 : St} {D1 D2 : Nat -> Prop} (h1 : StD ops m t S0 D1 S1) (h2 : StD ops m t S0 D2 S2) {q : Nat} (h : ∀ i, i < m -> dstOf ops i = some q -> (D1 i ↔ D2 i)) : S1.tmp q = S2.tmp q := by
 by_cases hq : ∃ i, i < m /\ D1 i /\ dstOf ops i = some q
 ·obtain ⟨i, hi, hd, hq⟩ := hq
  rw [h1.done i q hi hd hq, h2.done i q hi ((h i hi hq).1 hd) hq]
 ·rw [h1.rest q fun i hi hd e => hq ⟨i, hi, hd, e⟩, h2.rest q fun i hi hd e => hq ⟨i, hi, (h i hi e).2 hd, e⟩]
theorem qjX (S : St) (d : Option Nat) (v : TV) : (S.put d v).tmps.length = S.tmps.length /\ (S.put d v).boxes = S.boxes := by
 cases d <;> simp [St.put]
theorem StD.put {m : Nat} {t : Nat -> TV} {S0 S : St} {D D' : Nat -> Prop} (h : StD ops m t S0 D S) {i : Nat} (hi : i < m) (hu : ∀ j, j < m -> j ≠ i -> dstOf ops j ≠ dstOf ops i) (hD : ∀ j, j < m -> (D' j ↔ (D j ∨ j = i))) (hne : (dstOf ops i).isSome = true) : StD ops m t S0 D' (S.put (dstOf ops i) (t i)) := by
 obtain ⟨d, hd⟩ := Option.isSome_iff_exists.1 hne
 obtain ⟨p1, p2⟩ := qjX S (dstOf ops i) (t i)
 have p3 : (S.put (dstOf ops i) (t i)).np = S.np := by cases dstOf ops i <;> rfl
 refine ⟨p2.trans h.boxes, p1.trans h.len, p3.trans h.np, fun j q hj hDj hq => ?_, fun q hq => ?_⟩
 ·by_cases hji : j = i
  ·subst hji
   rw [hq, St.tmp_put, St.tmp_put, h.len]
   by_cases hl : q < S0.tmps.length
   ·simp [hl]
   ·have e1 : S.tmp q = .undef := by simp [St.tmp, List.getD_eq_getElem?_getD, List.getElem?_eq_none (by rw [h.len]; omega : S.tmps.length <= q)]
    have e2 : S0.tmp q = .undef := by simp [St.tmp, List.getD_eq_getElem?_getD, List.getElem?_eq_none (by omega : S0.tmps.length <= q)]
    simp [hl, e1, e2]
  ·have hDj' := ((hD j hj).1 hDj).resolve_right hji
   have hne2 : dstOf ops i ≠ some q := fun e => hu j hj hji (by rw [hq, e])
   rw [St.tmp_put, if_neg fun hh => hne2 hh.1]
   exact h.done j q hj hDj' hq
 ·have hne2 : dstOf ops i ≠ some q := hq i hi ((hD i hi).2 (.inr rfl))
  rw [St.tmp_put, if_neg fun hh => hne2 hh.1]
  exact h.rest q fun j hj hDj => hq j hj ((hD j hj).2 (.inl hDj))
theorem StD.full {m : Nat} {t : Nat -> TV} {S0 S1 S2 : St} {D1 D2 : Nat -> Prop} (h1 : StD ops m t S0 D1 S1) (h2 : StD ops m t S0 D2 S2) (a1 : ∀ i, i < m -> D1 i) (a2 : ∀ i, i < m -> D2 i) : S1 = S2 := by
 have ht : ∀ q, S1.tmp q = S2.tmp q := fun q => h1.agree h2 fun i hi _ => ⟨fun _ => a2 i hi, fun _ => a1 i hi⟩
 have hl : S1.tmps.length = S2.tmps.length := h1.len.trans h2.len.symm
 have hb : S1.boxes = S2.boxes := h1.boxes.trans h2.boxes.symm
 have htm : S1.tmps = S2.tmps := by
  apply List.ext_getElem hl
  intro i i1 i2
  have := ht i
  simpa [St.tmp, List.getD_eq_getElem?_getD, i1, i2] using this
 have hn : S1.np = S2.np := h1.np.trans h2.np.symm
 cases S1
 cases S2
 simp_all
theorem qiT (hC : SoundC P C) {Q : Exit -> Act -> World -> Prop} {K : St -> Option R} {r : R} {i : Nat} {rest : List Nat} {S : St} {a : Act} {w : World} {next : Act -> World -> Prop} (hR : RelE P E ok S a w) (h : runOps P C ops (i :: rest) S K = some r)
  (hK : ∀ S' a' w', RelE P E ok S' a' w' -> runOps P C ops rest S' K = some r -> next a' w') : wpOp P ops Q i next a w := by
 simp only [runOps] at h
 unfold wpOp
 obtain ⟨M, hM, hR⟩ := hR
 cases ho : ops[i]? with
 | none =>
  rw [ho] at h
  exact hK S a w ⟨M, hM, hR⟩ h
 | some o =>
  rw [ho] at h
  simp only at h ⊢
  have go : (step P S o).go C (fun S' => decideAt ops i S' fun S'' => runOps P C ops rest S'' K) = some r -> o.wp P a w next Q := fun h => by
   refine qct hC hR h _ _ fun M' S' a' w' h1 h2 h3 => ?_
   rw [qaR] at h1
   exact hK S' a' w' ⟨M', h2.trans hM, h3⟩ h1
  split at h
  ·rename_i hg
   have hw : Region.wanted o (yielded ops a.tmps) = true := by simp [Region.wanted, hg]
   rw [if_pos hw]
   exact .inl (go h)
  ·rename_i j want hg
   split at h
   ·simp at h
   ·rename_i y hy
    have hyy := qcE hR hy
    have hw : Region.wanted o (yielded ops a.tmps) = (y == some want) := by simp only [Region.wanted, hg, hyy]
    split at h
    ·rename_i hb
     rw [if_pos (by rw [hw, hb])]
     exact .inl (go h)
    ·rename_i hb
     rw [if_neg (by rw [hw, hb]; simp)]
     exact hK _ _ w ⟨M, hM, hR.put o.dst _ _ qcN⟩ h
theorem getD_set' {L : Array Bool} {i q : Nat} (hi : i < L.size) : (L.setIfInBounds i true).getD q false = if i = q then true else L.getD q false := by
 rw [Array.getD_eq_getD_getElem?, Array.getElem?_setIfInBounds, Array.getD_eq_getD_getElem?]
 by_cases h : i = q
 ·subst h; simp [hi]
 ·simp [h]
theorem qcB {L : Array Bool} {i n : Nat} (hi : i < L.size) (hf : L.getD i false = false) (h : L.toList.count false <= n + 1) : (L.setIfInBounds i true).toList.count false <= n := by
 rw [Array.toList_setIfInBounds, List.count_set (by simpa using hi)]
 have e : L.toList[i]'(by simpa using hi) = false := by
  rw [Array.getD_eq_getD_getElem?, Array.getElem?_eq_getElem hi] at hf
  simpa using hf
 rw [e, if_pos (by decide), if_neg (by decide)]
 omega
theorem qcy {L : Array Bool} (h : L.toList.count false = 0) {i : Nat} (hi : i < L.size) : L.getD i false = true := by
 cases hv : L.getD i false with
 | true => rfl
 | false =>
  exfalso
  rw [Array.getD_eq_getD_getElem?, Array.getElem?_eq_getElem hi] at hv
  have hv' : L[i] = false := by simpa using hv
  have : false ∈ L.toList := by rw [<- hv']; simp
  have := List.count_pos_iff.2 this
  omega
theorem qen (hC : SoundC P C) {Q : Exit -> Act -> World -> Prop} {K : St -> Option R} {r : R} (hK : ∀ S' a' w', K S' = some r -> RelE P E ok S' a' w' -> Q .normal a' w') (hE : edgesOk ops = true) {m : Nat} (hm : ∀ i, m <= i -> i < ops.size -> ∀ j, j < i -> ((befores ops).getD i 0).testBit j = true) :
  ∀ (n : Nat) (L : Array Bool) (k : Nat) (S : St) (a : Act) (w : World), L.size = ops.size -> Closed ops L -> L.toList.count false <= n -> m <= k -> k <= ops.size -> (∀ i, i < ops.size -> (L.getD i false = true ↔ i < k)) -> RelE P E ok S a w ->
   runOps P C ops ((List.range (ops.size - k)).map (· + k)) S K = some r -> wpAny P .any ops Q n L a w := by
 intro n
 have fin : ∀ (L : Array Bool) (k : Nat) (S : St) (a : Act) (w : World), (∀ i, i < ops.size -> (L.getD i false = true ↔ i < k)) -> k <= ops.size -> (∀ i, i < ops.size -> L.getD i false = true) -> RelE P E ok S a w -> runOps P C ops ((List.range (ops.size - k)).map (· + k)) S K = some r -> Q .normal a w := fun L k S a w hL hk hall hR h => by
  have : k = ops.size := by
   rcases Nat.lt_or_ge k ops.size with hlt | hge
   ·have := (hL k hlt).1 (hall k hlt)
    omega
   ·omega
  subst this
  simp only [Nat.sub_self, List.range_zero, List.map_nil, runOps] at h
  exact hK S a w h hR
 have rdy : ∀ (L : Array Bool), (∀ i, i < ops.size -> L.getD i false = true) -> L.size = ops.size -> Region.ready .any ops L = [] := fun L h hs => by
  apply List.eq_nil_iff_forall_not_mem.2
  intro i hi
  obtain ⟨h1, o, ho, _⟩ := mem_ready.1 hi
  have hio := (Array.getElem?_eq_some_iff.1 ho).1
  have := h i hio
  rw [Array.getD_eq_getD_getElem?, Array.getElem?_eq_getElem (by omega)] at h1 this
  simp_all
 induction n with
 | zero =>
  intro L k S a w hs hC' hc hmk hk hL hR h
  have hall : ∀ i, i < ops.size -> L.getD i false = true := fun i hi => qcy (by omega) (by omega)
  exact ⟨rdy L hall hs, fin L k S a w hL hk hall hR h⟩
 | succ n ih =>
  intro L k S a w hs hC' hc hmk hk hL hR h
  refine ⟨fun hr => fin L k S a w hL hk (qcF hE hs hr) hR h, fun i hi => ?_⟩
  obtain ⟨h1, o, ho, h2⟩ := mem_ready.1 hi
  have hio := (Array.getElem?_eq_some_iff.1 ho).1
  have hif : L.getD i false = false := by
   rw [Array.getD_eq_getD_getElem?, Array.getElem?_eq_getElem (by omega)] at h1 ⊢
   exact h1
  have hik : ¬ i < k := fun hlt => by rw [(hL i hio).2 hlt] at hif; simp at hif
  have hki : i = k := by
   rcases Nat.lt_or_ge k i with hlt | hge
   ·have := qaT hE hC' i o ho h2 k (hm i (by omega) hio k hlt)
    have := (hL k (by omega)).1 this
    omega
   ·omega
  subst hki
  have hrange : (List.range (ops.size - i)).map (· + i) = i :: (List.range (ops.size - (i + 1))).map (· + (i + 1)) := by
   rw [show ops.size - i = (ops.size - (i + 1)) + 1 by omega, List.range_succ_eq_map]
   simp only [List.map_cons, Nat.zero_add, List.map_map]
   congr 1
   apply List.map_congr_left
   intro q _
   simp
   omega
  rw [hrange] at h
  refine qiT hC hR h fun S' a' w' hR' h' => ih _ (i + 1) S' a' w' (by simpa using hs) (qcG hC' hi) (qcB (by omega) hif hc) (by omega) (by omega) (fun q hq => ?_) hR' h'
  rw [getD_set' (by omega)]
  by_cases hiq : i = q
  ·simp [hiq]
  ·rw [if_neg hiq, hL q hq]
   omega
theorem qT {m : Nat} {f : Nat -> Bool} (h : (List.range m).all f = true) {i : Nat} (hi : i < m) : f i = true := List.all_eq_true.1 h i (by simpa using hi)
theorem qjs {m : Nat} (h : flowOk ops m = true) : edgesOk ops = true /\ ∀ i, i < m -> ∃ o, ops[i]? = some o /\ o.dst.isSome = true /\ (∀ j want, o.guard = some (j, want) -> waits (befores ops) i j = true) /\
  ∀ j, j < m -> i ≠ j -> dstOf ops i ≠ dstOf ops j /\ (waits (befores ops) i j = true ∨ waits (befores ops) j i = true ∨ ∀ t ∈ opTmps o, dstOf ops j ≠ some t) := by
 unfold flowOk at h
 simp only [Bool.and_eq_true] at h
 refine ⟨h.1, fun i hi => ?_⟩
 have h1 := qT h.2 hi
 split at h1
 ·simp at h1
 ·rename_i o ho
  simp only [Bool.and_eq_true] at h1
  obtain ⟨⟨h2, h3⟩, h4⟩ := h1
  refine ⟨o, ho, h2, fun j want hg => by rw [hg] at h3; exact h3, fun j hj hij => ?_⟩
  have h5 := qT h4 hj
  simp only [Bool.or_eq_true, beq_iff_eq] at h5
  rcases h5 with h5 | h5
  ·exact (hij h5).elim
  ·split at h5
   ·simp at h5
   ·rename_i o' ho'
    simp only [Bool.and_eq_true, bne_iff_ne, ne_eq, Bool.or_eq_true, Bool.not_eq_true'] at h5
    have e1 : dstOf ops i = o.dst := by simp [dstOf, ho]
    have e2 : dstOf ops j = o'.dst := by simp [dstOf, ho']
    rw [e1, e2]
    refine ⟨h5.1, ?_⟩
    rcases h5.2 with (h6 | h6) | h6
    ·exact .inl h6
    ·exact .inr (.inl h6)
    ·refine .inr (.inr fun t ht e => ?_)
     have := List.any_eq_false.1 h6 t ht
     simp [e] at this
theorem qbc {o : Oper} {x : Operand} {i : Nat} (h : x ∈ o.op.operands.toList) (hx : x = .tmp i) : i ∈ opTmps o := by
 subst hx
 unfold opTmps
 exact List.mem_filterMap.2 ⟨_, h, rfl⟩
theorem qko {p : Id -> Bool} {S0 S : St} (h0 : S0.has p = false) (hb : S.boxes = S0.boxes) (ht : ∀ q, anyV (fun x => x.g.any p) (S.tmp q) = false) : S.has p = false := by
 unfold St.has St.any at h0 ⊢
 simp only [Bool.or_eq_false_iff] at h0 ⊢
 refine ⟨?_, by rw [hb]; exact h0.2⟩
 rw [List.any_eq_false]
 intro t htm
 obtain ⟨i, hi, e⟩ := List.mem_iff_getElem.1 htm
 have := ht i
 rw [St.tmp, List.getD_eq_getElem?_getD, List.getElem?_eq_getElem hi] at this
 simp only [Option.getD_some] at this
 rw [e] at this
 simp [this]
theorem qhF (hC : SoundC P C) {Q : Exit -> Act -> World -> Prop} {K : St -> Option R} {r : R} (hK : ∀ S' a' w', K S' = some r -> RelE P E ok S' a' w' -> Q .normal a' w') {m : Nat} (hms : m <= ops.size) (hF : flowOk ops m = true)
  (hm : ∀ i, m <= i -> i < ops.size -> ∀ j, j < i -> ((befores ops).getD i 0).testBit j = true) {t : Nat -> TV} {st : Nat -> St} (hv : ∀ k, k < m -> HV P C ops (st k) k (t k) /\ st (k + 1) = (st k).put (dstOf ops k) (t k))
  (hs : siteOk ops m (st 0) (st m) = true) (htail : runOps P C ops ((List.range (ops.size - m)).map (· + m)) (st m) K = some r) :
  ∀ (n : Nat) (L : Array Bool) (S : St) (a : Act) (w : World), L.size = ops.size -> Closed ops L -> L.toList.count false <= n -> (∀ i, m <= i -> i < ops.size -> L.getD i false = false) -> StD ops m t (st 0) (fun i => L.getD i false = true) S -> RelE P E ok S a w ->
   wpAny P .any ops Q n L a w := by
 obtain ⟨hE, hflow⟩ := qjs hF
 have hdst : ∀ i, i < m -> (dstOf ops i).isSome = true := fun i hi => by
  obtain ⟨o, ho, h1, _⟩ := hflow i hi
  simp [dstOf, ho, h1]
 have huni : ∀ i j, i < m -> j < m -> j ≠ i -> dstOf ops j ≠ dstOf ops i := fun i j hi hj hne => by
  obtain ⟨o, ho, _, _, h4⟩ := hflow j hj
  exact (h4 i hi hne).1
 have hst : ∀ k, k <= m -> StD ops m t (st 0) (· < k) (st k) := by
  intro k
  induction k with
  | zero => exact fun _ => ⟨rfl, rfl, rfl, fun i q _ h => by omega, fun q _ => rfl⟩
  | succ k ih =>
   intro hk
   rw [(hv k (by omega)).2]
   exact (ih (by omega)).put (by omega) (fun j hj hne => huni k j (by omega) hj hne) (fun j hj => by omega) (hdst k (by omega))
 intro n
 -- all of the head is done
 have full : ∀ (n : Nat) (L : Array Bool) (S : St) (a : Act) (w : World), L.size = ops.size -> Closed ops L -> L.toList.count false <= n -> (∀ i, m <= i -> i < ops.size -> L.getD i false = false) -> StD ops m t (st 0) (fun i => L.getD i false = true) S -> RelE P E ok S a w ->
   (∀ i, i < m -> L.getD i false = true) -> wpAny P .any ops Q n L a w := fun n L S a w h1 h2 h3 h4 h5 h6 h7 => by
  have e : S = st m := h5.full (hst m (Nat.le_refl _)) h7 fun i hi => hi
  subst e
  refine qen hC hK hE hm n L m (st m) a w h1 h2 h3 (Nat.le_refl _) hms (fun i hi => ?_) h6 htail
  rcases Nat.lt_or_ge i m with hlt | hge
  ·simp [h7 i hlt, hlt]
  ·rw [h4 i hge hi]
   simp
   omega
 induction n with
 | zero =>
  intro L S a w h1 h2 h3 h4 h5 h6
  exact full 0 L S a w h1 h2 h3 h4 h5 h6 fun i hi => qcy (by omega) (by omega)
 | succ n ih =>
  intro L S a w h1 h2 h3 h4 h5 h6
  by_cases hall : ∀ i, i < m -> L.getD i false = true
  ·exact full (n + 1) L S a w h1 h2 h3 h4 h5 h6 hall
  have hx : ∃ i0, i0 < m /\ ¬ L.getD i0 false = true := by
   refine Classical.byContradiction fun hno => hall fun i hi => ?_
   exact Classical.byContradiction fun hh => hno ⟨i, hi, hh⟩
  obtain ⟨i0, hi0, hn0⟩ := hx
  refine ⟨fun hr => (hn0 (qcF hE h1 hr i0 (by omega))).elim, fun i hi => ?_⟩
  obtain ⟨g1, o, ho, g2⟩ := mem_ready.1 hi
  have hio := (Array.getElem?_eq_some_iff.1 ho).1
  have hif : L.getD i false = false := by
   rw [Array.getD_eq_getD_getElem?, Array.getElem?_eq_getElem (by omega)] at g1 ⊢
   exact g1
  have him : i < m := by
   rcases Nat.lt_or_ge i m with hlt | hge
   ·exact hlt
   ·exact (hn0 (qaT hE h2 i o ho g2 i0 (hm i hge hio i0 (by omega)))).elim
  obtain ⟨o', ho', hod, hguard, hpair⟩ := hflow i him
  rw [ho] at ho'
  cases ho'
  have hSi := hst i (by omega)
  -- slots that it reads
  have hagree : ∀ q, (∀ j, j < m -> j ≠ i -> dstOf ops j = some q -> waits (befores ops) i j = true ∨ waits (befores ops) j i = true) -> S.tmp q = (st i).tmp q := fun q hq => h5.agree hSi fun j hj hjq => by
   by_cases hji : j = i
   ·subst hji
    rw [hif]
    simp
   ·rcases hq j hj hji hjq with hw | hw
    ·obtain ⟨d1, d2⟩ := qai hE h2 hio (.inr hi) hw
     simp [d1, d2]
    ·have hji2 : ¬ L.getD j false = true := fun hd => by
      have := (qai hE h2 (by omega : j < ops.size) (.inl hd) hw).1
      rw [hif] at this
      simp at this
     have hlt : i < j := by
      unfold waits at hw
      simp only [Bool.and_eq_true, decide_eq_true_eq] at hw
      exact hw.1
     simp [hji2]
     omega
  have halike : Alike S (st i) o.op.operands.toList := by
   refine ⟨fun _ _ _ _ d _ => by unfold St.box; rw [h5.boxes, hSi.boxes], fun x hx q hxq => hagree q fun j hj hji hjq => ?_⟩
   have hmem := qbc hx hxq
   rcases (hpair j hj (Ne.symm hji)).2 with hw | hw | hw
   ·exact .inl hw
   ·exact .inr hw
   ·exact (hw q hmem hjq).elim
  have hwant : wantedA S ops o = wantedA (st i) ops o := by
   unfold wantedA
   cases hg : o.guard with
   | none => rfl
   | some jw =>
    obtain ⟨j, want⟩ := jw
    have hw := hguard j want hg
    have hji : j < i := by
     unfold waits at hw
     simp only [Bool.and_eq_true, decide_eq_true_eq] at hw
     exact hw.1
    simp only
    congr 1
    unfold yieldedA
    cases hd : (ops[j]?).bind (·.dst) with
    | none => rfl
    | some d =>
     simp only
     rw [hagree d fun j' hj' hne hq => ?_]
     by_cases hjj : j' = j
     ·subst hjj; exact .inl hw
     ·have : dstOf ops j' = dstOf ops j := by rw [hq]; exact hd.symm
      exact (huni j j' (by omega) hj' hjj this).elim
  have hsite : makes o = true -> S.has (ofSite (o.dst.getD 0)) = false := fun hmk => by
   have h7 := qT hs him
   rw [ho] at h7
   simp only at h7
   obtain ⟨d, hd⟩ := Option.isSome_iff_exists.1 hod
   rw [hmk, hd] at h7
   simp only [Bool.and_eq_true, Bool.not_eq_true'] at h7
   obtain ⟨h8, h9⟩ := h7
   rw [hd]
   simp only [Option.getD_some]
   refine qko h8 h5.boxes fun q => ?_
   by_cases hq : ∃ j, j < m /\ L.getD j false = true /\ dstOf ops j = some q
   ·obtain ⟨j, hj, hdj, hqj⟩ := hq
    have h10 := qT h9 hj
    simp only [Bool.or_eq_true, beq_iff_eq] at h10
    rcases h10 with (h10 | h10) | h10
    ·subst h10; rw [hif] at hdj; simp at hdj
    ·have := (qai hE h2 (by omega : j < ops.size) (.inl hdj) h10).1
     rw [hif] at this
     simp at this
    ·have e : (ops[j]?).bind (·.dst) = some q := hqj
     rw [e] at h10
     simp only [Bool.not_eq_true'] at h10
     rw [h5.done j q hj hdj hqj, <- (hst m (Nat.le_refl _)).done j q hj hj hqj]
     exact h10
   ·rw [h5.rest q fun j hj hdj e => hq ⟨j, hj, hdj, e⟩]
    exact qdl h8 q
  have hquiet : quiet P S o = quiet P (st i) o := qdy halike
  -- the state behind it
  have hnext : StD ops m t (st 0) (fun j => (L.setIfInBounds i true).getD j false = true) (S.put (dstOf ops i) (t i)) := h5.put him (fun j hj hne => huni i j him hj hne) (fun j hj => by
   rw [getD_set' (by omega)]
   by_cases hij : i = j
   ·simp [hij]
   ·simp [hij, Ne.symm hij]) (hdst i him)
  have hd2 : dstOf ops i = o.dst := by simp [dstOf, ho]
  rw [hd2] at hnext
  have go : ∀ a' w', RelE P E ok (S.put o.dst (t i)) a' w' -> wpAny P .any ops Q n (L.setIfInBounds i true) a' w' := fun a' w' hR' => ih _ _ a' w' (by simpa using h1) (qcG h2 hi) (qcB (by omega) hif h3) (fun j hj hjs => by rw [getD_set' (by omega), if_neg (by omega)]; exact h4 j hj hjs) hnext hR'
  obtain ⟨o2, ho2, hcase⟩ := (hv i him).1
  rw [ho] at ho2
  cases ho2
  rw [<- hwant, <- hquiet] at hcase
  unfold wpOp
  rw [ho]
  simp only
  obtain ⟨M, hM, hR⟩ := h6
  have hwr : ∀ b, wantedA S ops o = some b -> Region.wanted o (yielded ops a.tmps) = b := fun b hb => by
   unfold wantedA at hb
   unfold Region.wanted
   cases hg : o.guard with
   | none => rw [hg] at hb; simpa using hb
   | some jw =>
    obtain ⟨j, want⟩ := jw
    rw [hg] at hb
    simp only at hb ⊢
    cases hy : yieldedA S ops j with
    | none => rw [hy] at hb; simp at hb
    | some y =>
     rw [hy] at hb
     rw [qcE hR hy]
     simpa using hb
  rcases hcase with ⟨c1, c2⟩ | ⟨c1, c2⟩
  ·rw [if_pos (hwr _ c1)]
   refine .inl (qbP hC hR hsite c2 _ _ fun M' tv v w' e1 e2 e3 e4 => ?_)
   cases e1
   exact go _ _ ⟨M', e2.trans hM, e3.put o.dst _ _ e4⟩
  ·rw [if_neg (by rw [hwr _ c1]; simp)]
   have := go (a.put o.dst undef) w ⟨M, hM, by rw [c2]; exact hR.put o.dst _ _ qcN⟩
   exact this
end
section
variable {P : Program} {S S' : St} {C : CallSem} {R : Type} {ops : Array Oper}
theorem qbI {ids : List Id} {x : V} (h : meets x.g ids = false) : kill ids x = x := by unfold kill; rw [h]; rfl
theorem qcU {ids : List Id} {l : List V} (h : l.any (fun x => meets x.g ids) = false) : l.map (kill ids) = l := by
 have h := List.any_eq_false.1 h
 conv => rhs; rw [<- List.map_id l]
 refine List.map_congr_left fun x hx => ?_
 exact qbI (by simpa using h x hx)
theorem qaM {ids : List Id} {t : TV} (h : calm ids t = true) : mapTV (kill ids) t = t := by
 cases t with
 | pt y x i o => simp [calm] at h
 | val x => simp only [calm, anyV, Bool.not_eq_true'] at h; simp only [mapTV]; rw [qbI h]
 | agg l => simp only [calm, anyV, Bool.not_eq_true'] at h; simp only [mapTV]; rw [qcU h]
 | tup l =>
  simp only [calm, anyV, Bool.not_eq_true'] at h
  have h := List.any_eq_false.1 h
  simp only [mapTV]
  congr 1
  conv => rhs; rw [<- List.map_id l]
  refine List.map_congr_left fun c hc => ?_
  have := h c hc
  rw [qcU (by simpa using this)]
  rfl
 | ep x i o => simp only [calm, anyV, Bool.not_eq_true'] at h; simp only [mapTV]; rw [qbI h]
 | pp x o => simp only [calm, anyV, Bool.not_eq_true'] at h; simp only [mapTV]; rw [qbI h]
 | _ => rfl
theorem qbs {p : V -> Bool} (hp : p V.bad = false) {ids : List Id} {x : V} (h : p x = false) : p (kill ids x) = false := by
 unfold kill
 cases meets x.g ids <;> simp [hp, h]
theorem qcw {p : V -> Bool} (hp : p V.bad = false) {ids : List Id} {l : List V} (h : l.any p = false) : (l.map (kill ids)).any p = false := by
 rw [List.any_eq_false] at h ⊢
 intro x hx
 obtain ⟨y, hy, rfl⟩ := List.mem_map.1 hx
 have := qbs (ids := ids) hp (by simpa using h y hy : p y = false)
 simp [this]
theorem qgt {p : V -> Bool} (hp : p V.bad = false) {ids : List Id} {t : TV} (h : anyV p t = false) : anyV p (mapTV (kill ids) t) = false := by
 cases t with
 | val x => exact qbs hp h
 | agg l => exact qcw hp h
 | tup l =>
  simp only [anyV, mapTV] at h ⊢
  rw [List.any_eq_false] at h ⊢
  intro x hx
  obtain ⟨y, hy, rfl⟩ := List.mem_map.1 hx
  have := qcw (ids := ids) hp (by simpa using h y hy : y.2.any p = false)
  simp [this]
 | ep x i o => exact qbs hp h
 | pp x o => exact qbs hp h
 | pt y x i o =>
  simp only [anyV, Bool.or_eq_false_iff] at h
  exact qbs hp h.1
 | _ => simpa [mapTV] using h
theorem qid {f : V -> V} {t : TV} (d : Nat) : (mapTV f t).at d = t.at d := by cases t <;> rfl
theorem qjf {ids ids' : List Id} {t : TV} (h : calm ids t = true) : calm ids (mapTV (kill ids') t) = true := by
 cases t with
 | pt y x i o => simp [calm] at h
 | _ =>
  simp only [calm, Bool.not_eq_true'] at h
  simp only [calm, mapTV, Bool.not_eq_true']
  exact qgt (p := fun x : V => meets x.g ids) (ids := ids') rfl h
theorem qic {r : Bool} {e : Eff} {ids : List Id} {t : TV} (h : clear r e t = true) : clear r e (mapTV (kill ids) t) = true := by
 unfold clear at h ⊢
 simp only [Bool.and_eq_true, Bool.or_eq_true] at h ⊢
 refine ⟨h.1.imp id qjf, ?_⟩
 rcases h.2 with h2 | h2
 ·exact .inl h2
 ·refine .inr ?_
  cases hb : e.bx with
  | none => rfl
  | some d =>
   rw [hb] at h2
   simpa [qid] using h2
theorem qeQ (e : Eff) (S : St) (q : Nat) : ((e.act S).tmp q = e.tv /\ e.dst = some q) ∨ (e.act S).tmp q = S.tmp q ∨ (e.act S).tmp q = mapTV (kill e.ids) (S.tmp q) := by
 cases e with
 | put d v =>
  simp only [Eff.act, Eff.tv, Eff.dst]
  rw [St.tmp_put]
  by_cases h : d = some q /\ q < S.tmps.length
  ·rw [if_pos h]; exact .inl ⟨rfl, h.1⟩
  ·rw [if_neg h]; exact .inr (.inl rfl)
 | app ids d v =>
  simp only [Eff.act, Eff.tv, Eff.dst, Eff.ids]
  rw [St.tmp_put]
  by_cases h : some d = some q /\ q < (S.map (kill ids)).tmps.length
  ·rw [if_pos h]; exact .inl ⟨rfl, h.1⟩
  ·rw [if_neg h, qD]; exact .inr (.inr rfl)
 | new d b =>
  simp only [Eff.act, Eff.tv, Eff.dst]
  rw [qx]
  have := St.tmp_put S (some d) (.bp d 0) q
  simp only [St.put] at this
  rw [this]
  by_cases h : some d = some q /\ q < S.tmps.length
  ·rw [if_pos h]; exact .inl ⟨rfl, h.1⟩
  ·rw [if_neg h]; exact .inr (.inl rfl)
 | wr d b =>
  simp only [Eff.act, Eff.ids, St.write]
  rw [qx, qD]
  exact .inr (.inr rfl)
 | cal ids q' b d v =>
  simp only [Eff.act, Eff.tv, Eff.dst, Eff.ids]
  rw [St.tmp_put]
  by_cases h : some d = some q /\ q < ((S.map (kill ids)).setBox q' (some b)).tmps.length
  ·rw [if_pos h]; exact .inl ⟨rfl, h.1⟩
  ·rw [if_neg h, qx, qD]; exact .inr (.inr rfl)
theorem qeR (e : Eff) (S : St) (q : Nat) : ((e.act S).box q = e.bc /\ e.bx = some q) ∨ (e.act S).box q = S.box q ∨ (e.act S).box q = (S.box q).map (mapBox (kill e.ids)) := by
 cases e with
 | put d v =>
  refine .inr (.inl ?_)
  cases d <;> rfl
 | app ids d v =>
  refine .inr (.inr ?_)
  show ((S.map (kill ids)).put (some d) v).box q = _
  exact qC (kill ids) S q
 | new d b =>
  simp only [Eff.act, Eff.bc, Eff.bx]
  rw [qq]
  by_cases h : d = q /\ q < S.boxes.length
  ·rw [if_pos h]; exact .inl ⟨rfl, by rw [h.1]⟩
  ·rw [if_neg h]; exact .inr (.inl rfl)
 | wr d b =>
  simp only [Eff.act, Eff.bc, Eff.bx, St.write]
  rw [qq]
  by_cases h : d = q /\ q < (S.map (kill [.b d])).boxes.length
  ·rw [if_pos h]; exact .inl ⟨rfl, by rw [h.1]⟩
  ·rw [if_neg h, qC]; exact .inr (.inr rfl)
 | cal ids q' b d v =>
  have e0 : ((Eff.cal ids q' b d v).act S).box q = ((S.map (kill ids)).setBox q' (some b)).box q := rfl
  rw [e0]
  simp only [Eff.bc, Eff.bx]
  rw [qq]
  by_cases h : q' = q /\ q < (S.map (kill ids)).boxes.length
  ·rw [if_pos h]; exact .inl ⟨rfl, by rw [h.1]⟩
  ·rw [if_neg h, qC]; exact .inr (.inr rfl)
theorem qdk (e : Eff) (S : St) : (e.act S).tmps.length = S.tmps.length /\ (e.act S).boxes.length = S.boxes.length /\ (e.act S).np = S.np := by
 cases e with
 | put d v => cases d <;> simp [Eff.act, St.put]
 | app ids d v => simp [Eff.act, St.put, St.map]
 | new d b => simp [Eff.act, St.setBox]
 | wr d b => simp [Eff.act, St.write, St.setBox, St.map]
 | cal ids q b d v => simp [Eff.act, St.put, St.setBox, St.map]
theorem qgL {e : Eff} {ids : List Id} {b : Option Box} (h : calmBox e b = true) : calmBox e (b.map (mapBox (kill ids))) = true := by
 unfold calmBox at h ⊢
 simp only [Bool.or_eq_true, Bool.not_eq_true'] at h ⊢
 refine h.imp id fun h => ?_
 cases b with
 | none => rfl
 | some b => cases b with
  | cells l => exact qcw (p := fun x : V => meets x.g e.ids) rfl h
  | arr k m l => rfl
theorem qbe {e : Eff} {b : Option Box} (h : calmBox e b = true) (hi : e.ids ≠ []) : b.map (mapBox (kill e.ids)) = b := by
 unfold calmBox at h
 simp only [Bool.or_eq_true, Bool.not_eq_true', List.isEmpty_iff] at h
 have h := h.resolve_left hi
 cases b with
 | none => rfl
 | some b => cases b with
  | cells l => simp only [Option.map_some, mapBox]; rw [qcU h]
  | arr k m l => rfl
theorem qhq {p : V -> Bool} (hp : p V.bad = false) {ids : List Id} {b : Option Box} (h : boxAny p b = false) : boxAny p (b.map (mapBox (kill ids))) = false := by
 cases b with
 | none => rfl
 | some b => cases b with
  | cells l => exact qcw hp h
  | arr k m l => rfl
def Void (p : V -> Bool) (S : St) : Prop := (∀ q, anyV p (S.tmp q) = false) /\ ∀ d, boxAny p (S.box d) = false
theorem qiM {p : V -> Bool} (hp : p V.bad = false) {e : Eff} (h : Void p S) (he : e.any p = false) : Void p (e.act S) := by
 unfold Eff.any at he
 simp only [Bool.or_eq_false_iff] at he
 refine ⟨fun q => ?_, fun d => ?_⟩
 ·rcases qeQ e S q with h1 | h1 | h1
  ·rw [h1.1]; exact he.1
  ·rw [h1]; exact h.1 q
  ·rw [h1]; exact qgt hp (h.1 q)
 ·rcases qeR e S d with h1 | h1 | h1
  ·rw [h1.1]; exact he.2
  ·rw [h1]; exact h.2 d
  ·rw [h1]; exact qhq hp (h.2 d)
theorem qjd {p : V -> Bool} (h : S.any p = false) : Void p S := by
 unfold St.any at h
 simp only [Bool.or_eq_false_iff] at h
 refine ⟨fun q => ?_, fun d => ?_⟩
 ·unfold St.tmp
  rw [List.getD_eq_getElem?_getD]
  by_cases hq : q < S.tmps.length
  ·rw [List.getElem?_eq_getElem hq]
   simpa using List.any_eq_false.1 h.1 _ (List.getElem_mem hq)
  ·rw [List.getElem?_eq_none (by omega)]; rfl
 ·unfold St.box
  rw [List.getD_eq_getElem?_getD]
  by_cases hq : d < S.boxes.length
  ·rw [List.getElem?_eq_getElem hq]
   have := List.any_eq_false.1 h.2 _ (List.getElem_mem hq)
   simp only [Option.getD_some]
   revert this
   cases S.boxes[d] with
   | none => intro _; rfl
   | some b => cases b with
    | cells l => intro this; simpa [boxAny] using this
    | arr k m l => intro _; rfl
  ·rw [List.getElem?_eq_none (by omega)]; rfl
theorem qdS {p : V -> Bool} (h : Void p S) : S.any p = false := by
 unfold St.any
 simp only [Bool.or_eq_false_iff, List.any_eq_false]
 refine ⟨fun t ht => ?_, fun b hb => ?_⟩
 ·obtain ⟨i, hi, e⟩ := List.mem_iff_getElem.1 ht
  have := h.1 i
  rw [St.tmp, List.getD_eq_getElem?_getD, List.getElem?_eq_getElem hi] at this
  simp only [Option.getD_some] at this
  rw [e] at this
  simp [this]
 ·obtain ⟨i, hi, e⟩ := List.mem_iff_getElem.1 hb
  have := h.2 i
  rw [St.box, List.getD_eq_getElem?_getD, List.getElem?_eq_getElem hi] at this
  simp only [Option.getD_some] at this
  rw [e] at this
  cases b with
  | none => simp
  | some b => cases b with
   | cells l => simpa [boxAny] using this
   | arr k m l => simp
theorem qgR {ids : List Id} {d : Nat} {c : Box} {q : Nat} {d' : Nat} {b' : Box} {v' : TV} (h : newCal ids d c q d' = true) (S : St) : (Eff.new d c).act ((Eff.cal ids q b' d' v').act S) = (Eff.cal ids q b' d' v').act ((Eff.new d c).act S) := by
 unfold newCal at h
 simp only [Bool.and_eq_true, bne_iff_ne, ne_eq, Bool.not_eq_true', List.isEmpty_eq_false_iff] at h
 obtain ⟨⟨⟨h1, h2⟩, h3⟩, h4⟩ := h
 have hc : mapBox (kill ids) c = c := by
  have := qbe (e := .cal ids q b' d' v') (b := some c) (by simp only [calmBox, Eff.ids]; simp [h4]) h1
  simpa [Eff.ids] using this
 simp only [Eff.act, St.put, St.map, St.setBox]
 rw [List.map_set, List.map_set]
 simp only [mapTV, Option.map_some, hc]
 rw [List.set_comm _ _ h2, List.set_comm _ _ h3]
theorem qcl {a b : Eff} (h : a.comm b = true) (S : St) : a.act (b.act S) = b.act (a.act S) := by
 unfold Eff.comm at h
 split at h
 ·rename_i d v
  split at h
  ·rename_i d' v'
   have hne : d ≠ d' := by simpa using h
   simp only [Eff.act, St.put]
   rw [List.set_comm _ _ (Ne.symm hne)]
  ·rename_i ids d' v'
   simp only [Bool.and_eq_true, bne_iff_ne, ne_eq] at h
   simp only [Eff.act, St.put, St.map]
   rw [List.map_set, qaM h.2, List.set_comm _ _ (Ne.symm h.1)]
  ·rename_i d' b'
   have hne : d ≠ d' := by simpa using h
   simp only [Eff.act, St.put, St.setBox]
   rw [List.set_comm _ _ (Ne.symm hne)]
  ·rename_i q b'
   simp only [Eff.act, St.put, St.write, St.map, St.setBox]
   rw [List.map_set, qaM h]
  ·rename_i ids q b d' v'
   simp only [Bool.and_eq_true, bne_iff_ne, ne_eq] at h
   simp only [Eff.act, St.put, St.map, St.setBox]
   rw [List.map_set, qaM h.2, List.set_comm _ _ (Ne.symm h.1)]
  ·simp at h
 ·rename_i d c
  split at h
  ·rename_i d' c'
   have hne : d ≠ d' := by simpa using h
   simp only [Eff.act, St.setBox]
   rw [List.set_comm _ _ (Ne.symm hne), List.set_comm _ _ (Ne.symm hne)]
  ·rename_i ids q b' d' v'
   exact qgR h S
  ·simp at h
 ·rename_i ids q b' d' v'
  split at h
  ·rename_i d c
   exact (qgR h S).symm
  ·simp at h
 ·simp at h
def runL (e : Nat -> Eff) (L : Nat -> Bool) : Nat -> St -> St
 | 0, S => S
 | k + 1, S => match L k with | true => (e k).act (runL e L k S) | false => runL e L k S
theorem qbh {e : Nat -> Eff} {L L' : Nat -> Bool} : ∀ (m : Nat) (S : St), (∀ j, j < m -> L j = L' j) -> runL e L m S = runL e L' m S
 | 0, S, h => rfl
 | k + 1, S, h => by
  simp only [runL]
  rw [h k (by omega), qbh k S fun j hj => h j (by omega)]
theorem qfR {e : Nat -> Eff} {L L' : Nat -> Bool} {i : Nat} (hi : L i = false) (hi' : L' i = true) (hL : ∀ j, j ≠ i -> L' j = L j) : ∀ (m : Nat) (S : St), i < m -> (∀ j, i < j -> j < m -> L j = true -> ∀ S, (e i).act ((e j).act S) = (e j).act ((e i).act S)) -> (e i).act (runL e L m S) = runL e L' m S
 | 0, S, h, hc => by omega
 | k + 1, S, h, hc => by
  by_cases hk : i = k
  ·subst hk
   simp only [runL]
   rw [hi, hi', qbh i S fun j hj => hL j (by omega)]
  ·simp only [runL]
   rw [hL k (Ne.symm hk)]
   have ih := qfR hi hi' hL k S (by omega) fun j h1 h2 => hc j h1 (by omega)
   cases hLk : L k with
   | false => exact ih
   | true =>
    simp only
    rw [hc k (by omega) (by omega) hLk, ih]
theorem qfL {e : Nat -> Eff} {L : Nat -> Bool} : ∀ (m : Nat) (S : St), (runL e L m S).tmps.length = S.tmps.length /\ (runL e L m S).boxes.length = S.boxes.length /\ (runL e L m S).np = S.np
 | 0, S => ⟨rfl, rfl, rfl⟩
 | k + 1, S => by
  have ih := qfL (e := e) (L := L) k S
  simp only [runL]
  split
  ·have := qdk (e k) (runL e L k S)
   exact ⟨this.1.trans ih.1, this.2.1.trans ih.2.1, this.2.2.trans ih.2.2⟩
  ·exact ih
theorem qaB {e : Nat -> Eff} {L : Nat -> Bool} {I : St -> Prop} : ∀ (m : Nat) (S : St), I S -> (∀ k S, k < m -> L k = true -> I S -> I ((e k).act S)) -> I (runL e L m S)
 | 0, S, h, hk => h
 | k + 1, S, h, hk => by
  have ih := qaB k S h fun j S hj => hk j S (by omega)
  simp only [runL]
  split
  ·rename_i hL
   exact hk k _ (by omega) hL ih
  ·exact ih
structure Look (q : List Nat) (b : Nat -> Prop) (S S' : St) : Prop where
 slot : ∀ i ∈ q, S.tmp i = S'.tmp i
 box : ∀ d, ¬ b d -> S.box d = S'.box d
 tl : S.tmps.length = S'.tmps.length
 bl : S.boxes.length = S'.boxes.length
theorem Look.refl {q : List Nat} {b : Nat -> Prop} (S : St) : Look q b S S := ⟨fun _ _ => rfl, fun _ _ => rfl, rfl, rfl⟩
theorem Look.symm {q : List Nat} {b : Nat -> Prop} (h : Look q b S S') : Look q b S' S := ⟨fun i hi => (h.slot i hi).symm, fun d hd => (h.box d hd).symm, h.tl.symm, h.bl.symm⟩
theorem Look.trans {q : List Nat} {b : Nat -> Prop} {S'' : St} (h : Look q b S S') (h' : Look q b S' S'') : Look q b S S'' := ⟨fun i hi => (h.slot i hi).trans (h'.slot i hi), fun d hd => (h.box d hd).trans (h'.box d hd), h.tl.trans h'.tl, h.bl.trans h'.bl⟩
theorem Look.act {q : List Nat} {b : Nat -> Prop} (h : Look q b S S') (e : Eff) : Look q b (e.act S) (e.act S') := by
 have l1 := qdk e S
 have l2 := qdk e S'
 refine ⟨fun i hi => ?_, fun d hd => ?_, by rw [l1.1, l2.1]; exact h.tl, by rw [l1.2.1, l2.2.1]; exact h.bl⟩
 ·have := h.slot i hi
  cases e with
  | put d v => simp only [Eff.act]; rw [St.tmp_put, St.tmp_put, this, h.tl]
  | app ids d v => simp only [Eff.act]; rw [St.tmp_put, St.tmp_put, qD, qD, this]; simp [St.map, h.tl]
  | new d b' =>
   simp only [Eff.act]
   rw [qx, qx]
   have e1 := St.tmp_put S (some d) (.bp d 0) i
   have e2 := St.tmp_put S' (some d) (.bp d 0) i
   simp only [St.put] at e1 e2
   rw [e1, e2, this, h.tl]
  | wr d b' => simp only [Eff.act, St.write]; rw [qx, qx, qD, qD, this]
  | cal ids q' b' d v => simp only [Eff.act]; rw [St.tmp_put, St.tmp_put, qx, qx, qD, qD, this]; simp [St.map, St.setBox, h.tl]
 ·have := h.box d hd
  cases e with
  | put d' v => cases d' <;> exact this
  | app ids d' v =>
   show (S.map (kill ids)).box d = (S'.map (kill ids)).box d
   rw [qC, qC, this]
  | new d' b' =>
   simp only [Eff.act]
   rw [qq, qq]
   show (if d' = d /\ d < S.boxes.length then some b' else S.box d) = (if d' = d /\ d < S'.boxes.length then some b' else S'.box d)
   rw [this, h.bl]
  | wr d' b' =>
   simp only [Eff.act, St.write]
   rw [qq, qq, qC, qC, this]
   simp [St.map, h.bl]
  | cal ids q' b' d' v =>
   show ((S.map (kill ids)).setBox q' (some b')).box d = ((S'.map (kill ids)).setBox q' (some b')).box d
   rw [qq, qq, qC, qC, this]
   simp [St.map, h.bl]
theorem Look.side {q : List Nat} {b : Nat -> Prop} {e : Eff} (h1 : ∀ i ∈ q, e.dst ≠ some i) (h2 : ∀ d, e.bx = some d -> b d) (h3 : e.ids ≠ [] -> ∀ i ∈ q, calm e.ids (S.tmp i) = true) (h4 : e.ids ≠ [] -> ∀ d, ¬ b d -> calmBox e (S.box d) = true) (h5 : (∀ d v, e = .app [] d v -> False) /\ ∀ q b d v, e = .cal [] q b d v -> False) : Look q b (e.act S) S := by
 have l1 := qdk e S
 refine ⟨fun i hi => ?_, fun d hd => ?_, l1.1, l1.2.1⟩
 ·cases e with
  | put d v =>
   simp only [Eff.act]
   rw [St.tmp_put, if_neg fun hh => h1 i hi hh.1]
  | app ids d v =>
   have hne : ids ≠ [] := fun hh => h5.1 d v (by rw [hh])
   simp only [Eff.act]
   rw [St.tmp_put, if_neg fun hh => h1 i hi hh.1, qD]
   exact qaM (h3 hne i hi)
  | new d b' =>
   simp only [Eff.act]
   rw [qx]
   have e1 := St.tmp_put S (some d) (.bp d 0) i
   simp only [St.put] at e1
   rw [e1, if_neg fun hh => h1 i hi hh.1]
  | wr d b' =>
   simp only [Eff.act, St.write]
   rw [qx, qD]
   exact qaM (h3 (by simp [Eff.ids]) i hi)
  | cal ids q' b' d v =>
   have hne : ids ≠ [] := fun hh => h5.2 q' b' d v (by rw [hh])
   simp only [Eff.act]
   rw [St.tmp_put, if_neg fun hh => h1 i hi hh.1, qx, qD]
   exact qaM (h3 hne i hi)
 ·cases e with
  | put d' v => cases d' <;> rfl
  | app ids d' v =>
   have hne : ids ≠ [] := fun hh => h5.1 d' v (by rw [hh])
   show (S.map (kill ids)).box d = _
   rw [qC]
   exact qbe (h4 hne d hd) hne
  | new d' b' =>
   simp only [Eff.act]
   rw [qq, if_neg fun hh => hd (h2 d (by simp [Eff.bx, hh.1]))]
   rfl
  | wr d' b' =>
   simp only [Eff.act, St.write]
   rw [qq, if_neg fun hh => hd (h2 d (by simp [Eff.bx, hh.1])), qC]
   exact qbe (e := .wr d' b') (h4 (by simp [Eff.ids]) d hd) (by simp [Eff.ids])
  | cal ids q' b' d' v =>
   have hne : ids ≠ [] := fun hh => h5.2 q' b' d' v (by rw [hh])
   show ((S.map (kill ids)).setBox q' (some b')).box d = _
   rw [qq, if_neg fun hh => hd (h2 d (by simp [Eff.bx, hh.1])), qC]
   exact qbe (e := .cal ids q' b' d' v) (h4 hne d hd) hne
end
section
variable {P : Program} {S S' : St} {C : CallSem} {R : Type} {ops : Array Oper} {E : Env} {ok : OkT}
theorem qal {α : Type} {c : Bool} {t : Tr α} {K : α -> Option R} (h : c = true) : (Tr.chk c t).go C K = t.go C K := by rw [h]; rfl
theorem qgW {α : Type} {c : Bool} {t : Tr α} {K : α -> Option R} (h : c = true) : (Tr.must c t).go C K = t.go C K := by rw [h]; rfl
theorem qaf {α : Type} {a b : α} (h : (Tr.ret a).go C some = some b) : b = a := (Option.some.inj h).symm
theorem qdN {d : Nat} {t : TypeId} {i : Option (List V)} {e : Eff} (h : (newE P d t i).go C some = some e) : arrKind P t = none /\ e = .new d (.cells (i.getD (zeros P t))) /\ (okCells P (cellTys P depth t) (i.getD (zeros P t)) && !(i.getD (zeros P t)).isEmpty && (i.isSome || (zeros P t).length == (zeroCells P t).length && !(zeroCells P t).isEmpty)) = true := by
 unfold newE at h
 obtain ⟨c1, h1⟩ := qh h
 obtain ⟨c2, h2⟩ := qh h1
 exact ⟨by simpa using c1, qaf h2, c2⟩
theorem qfs {d : Nat} {t : TypeId} {i : Option (List V)} {e : Eff} (h : (newE P d t i).go C some = some e) (hn : ∀ d b, e = .new d b -> noPtr S d = true /\ d < S.boxes.length) : (allocSt P S d t i).go C some = some (e.act S) := by
 obtain ⟨h1, h2, h3⟩ := qdN h
 obtain ⟨n1, n2⟩ := hn _ _ h2
 unfold allocSt
 rw [qal (by simp [n1, n2]), h1]
 subst h2
 cases i with
 | none =>
  simp only [Option.getD_none, Option.isSome_none, Bool.false_or] at h3 ⊢
  rw [qal h3]
  rfl
 | some vs =>
  simp only [Option.getD_some, Option.isSome_some, Bool.true_or] at h3 ⊢
  rw [qal h3]
  rfl
theorem qek {d : Nat} {ts : List TypeId} {a b : V} {e : Eff} (h : (appendE P d ts a b).go C some = some e) : (appendSt P S d ts a b).go C some = some (e.act S) /\ e.dst = some d /\ e.bx = none /\ e.ids ≠ [] := by
 unfold appendE at h
 split at h
 ·rename_i t t'
  obtain ⟨c1, h1⟩ := qh h
  split at h1
  ·rename_i el hel
   obtain ⟨c2, h2⟩ := qh h1
   split at h2
   ·rename_i id hid
    have fin : (appGo P S d el id a b).go C some = some (e.act S) /\ e.dst = some d /\ e.bx = none /\ e.ids ≠ [] := by
     unfold appE at h2
     unfold appGo
     split at h2
     ·obtain ⟨c3, h3⟩ := qh h2
      obtain ⟨c4, h4⟩ := qv h3
      have := qaf h4
      subst this
      refine ⟨?_, rfl, rfl, by simp [Eff.ids]⟩
      rw [qal c3, qgW c4]
      rfl
     ·obtain ⟨c3, h3⟩ := qh h2
      obtain ⟨c4, h4⟩ := qv h3
      rw [qal c3, qgW c4]
      split at h4
      ·rename_i hc
       have := qaf h4
       subst this
       exact ⟨rfl, rfl, rfl, by simp [Eff.ids]⟩
      ·rename_i hc
       have := qaf h4
       subst this
       exact ⟨rfl, rfl, rfl, by simp [Eff.ids]⟩
     ·exact (qg h2).elim
    refine ⟨?_, fin.2⟩
    simp only [appendSt]
    rw [qal c1, hel]
    simp only
    rw [qal c2, hid]
    exact fin.1
   ·exact (qg h2).elim
  ·exact (qg h1).elim
 ·exact (qg h).elim
theorem qjo {q d : Nat} {g : List Id} {j : Nat} {l : List V} {o : List (T × Bool)} {ids : List Id} (hq : S.box q = some (.cells l)) (hl : (l.length == o.length) = true) : backBoxes (S.map (kill ids)) d g j [q] [o] = some ((S.map (kill ids)).setBox q (some (.cells (backV d g j o)))) := by
 simp only [backBoxes]
 rw [qC, hq]
 simp only [Option.map_some, mapBox, List.length_map]
 rw [hl]
theorem qdq {d : Nat} {f : FuncId} {caps : List T} {cg : List Id} {ts : List TypeId} {xs : List Operand} {e : Eff} (h : (callE P S d f caps cg ts xs).go C some = some e) : ∃ ids q b v, e = .cal ids q b d v /\ ids ≠ [] := by
 unfold callE at h
 obtain ⟨c1, h1⟩ := qh h
 split at h1
 ·exact (qg h1).elim
 ·split at h1
  ·obtain ⟨c2, h2⟩ := qh h1
   simp only [Tr.go] at h2
   obtain ⟨res, hres, h3⟩ := Option.bind_eq_some_iff.1 h2
   split at h3
   ·obtain ⟨c3, h4⟩ := qh h3
    have := qaf h4
    subst this
    exact ⟨_, _, _, _, rfl, by simp⟩
   ·exact (qg h3).elim
  ·exact (qg h1).elim
theorem qiY {d : Nat} {f : FuncId} {caps : List T} {cg : List Id} {ts : List TypeId} {xs : List Operand} {e : Eff} (h : (callE P S d f caps cg ts xs).go C some = some e) (hs : S.has (ofSite d) = false) : (callSt P S d (some d) f caps cg ts xs).go C some = some (e.act S) := by
  unfold callE at h
  obtain ⟨c1, h1⟩ := qh h
  unfold callSt
  rw [qal (by simp [c1, hs])]
  split at h1
  · exact (qg h1).elim
  · rename_i as has
    split at h1
    · rename_i q hq
      simp only [has, hq] at h1 ⊢
      obtain ⟨c2, h2⟩ := qh h1
      rw [qal (by simpa [nodupN] using c2)]
      simp only [Tr.go] at h2 ⊢
      obtain ⟨res, hres, h3⟩ := Option.bind_eq_some_iff.1 h2
      rw [hres]
      simp only [Option.bind_some]
      split at h3
      · rename_i cs l o hc hl ho
        obtain ⟨c3, h4⟩ := qh h3
        have := qaf h4
        subst this
        generalize ((C f (as.map (·.1) ++ caps.map Arg.v)).enc res) = rr at hc ho ⊢
        obtain ⟨rets, outs⟩ := rr
        simp only at hc ho ⊢
        have fin : ∀ z : Nat, (match backComps d (List.flatMap (fun p : Arg × List Id => p.2) as ++ cg) 0 rets, backBoxes (S.map (kill (gs (ownedOf S [q]) ++ [q].map Id.b))) d (List.flatMap (fun p : Arg × List Id => p.2) as ++ cg) (retLen rets) [q] outs with
             | some [c], some S' => (Tr.ret (S'.put (some d) (compTV c)) : Tr St)
             | some cs, some S' => .ret (S'.put (some d) (.tup cs))
             | _, _ => .no).go C some = some (Eff.act (.cal (gs (ownedOf S [q]) ++ [Id.b q]) q (.cells (backV d (List.flatMap (fun p : Arg × List Id => p.2) as ++ cg) (retLen rets) o)) d (compsTV cs)) S) := fun _ => by
          rw [hc, ho]
          have := qjo (S := S) (q := q) (d := d) (g := List.flatMap (fun p : Arg × List Id => p.2) as ++ cg) (j := retLen rets) (l := l) (o := o) (ids := gs (ownedOf S [q]) ++ [Id.b q]) hl c3
          simp only [List.map_cons, List.map_nil]
          rw [this]
          match cs with
          | [] => rfl
          | [c] => rfl
          | c :: c' :: r => rfl
        rcases rets with _ | ⟨x, _ | ⟨y, r⟩⟩
        · exact fin 0
        · cases x with
          | box l => simp [backComps] at hc
          | vals a l => exact fin 0
        · cases x <;> exact fin 0
      · exact (qg h3).elim
    · exact (qg h1).elim
theorem qix {o : Oper} {e : Eff} (h : (loudE P S o).go C some = some e) (hn : ∀ d b, e = .new d b -> noPtr S d = true /\ d < S.boxes.length) (hcal : ∀ ids q b d v, e = .cal ids q b d v -> S.has (ofSite d) = false) : (step P S o).go C some = some (e.act S) := by
 unfold loudE at h
 split at h
 ·rename_i t ho
  split at h
  ·rename_i d hd
   simp only [step, ho, hd]
   exact qfs h hn
  ·exact (qg h).elim
 ·rename_i t x ho
  split at h
  ·rename_i d vs hd hv
   simp only [step, ho, hd, hv]
   exact qfs h hn
  ·exact (qg h).elim
 ·rename_i t p x ho
  split at h
  ·rename_i xs d off hd hv hp
   split at h
   ·rename_i l hl
    obtain ⟨c1, h1⟩ := qh h
    have := qaf h1
    subst this
    simp only [step, ho, hd, hv, hp, storeSt, hl]
    rw [qal c1]
    rfl
   ·exact (qg h).elim
  ·exact (qg h).elim
 ·rename_i args ts ho
  split at h
  ·rename_i x y d ha hd
   split at h
   ·rename_i va vb e1 e2
    simp only [step, ho, ha, hd, e1, e2]
    exact (qek h).1
   ·exact (qg h).elim
  ·exact (qg h).elim
 ·rename_i f args ts ho
  split at h
  ·rename_i x d hx hd
   split at h
   ·rename_i g caps hg
    obtain ⟨c1, h1⟩ := qh h
    obtain ⟨ids, q, b, v, he, _⟩ := qdq h1
    have hs := hcal ids q b d v he
    simp only [Bool.not_eq_true'] at c1
    simp only [step, ho, hx, hg, c1, hd]
    exact qiY h1 hs
   ·exact (qg h).elim
  ·exact (qg h).elim
 ·exact (qg h).elim
theorem qcm {o : Oper} {e : Eff} (h : (loudE P S o).go C some = some e) : e.dst = o.dst /\ (∀ d v, e = .app [] d v -> False) /\ (∀ q b d v, e = .cal [] q b d v -> False) := by
 unfold loudE at h
 split at h
 ·split at h
  ·rename_i d hd
   obtain ⟨_, h2, _⟩ := qdN h
   subst h2
   exact ⟨by rw [hd]; rfl, fun d v hh => (by cases hh), fun q b d v hh => (by cases hh)⟩
  ·exact (qg h).elim
 ·split at h
  ·rename_i d vs hd hv
   obtain ⟨_, h2, _⟩ := qdN h
   subst h2
   exact ⟨by rw [hd]; rfl, fun d v hh => (by cases hh), fun q b d v hh => (by cases hh)⟩
  ·exact (qg h).elim
 ·split at h
  ·rename_i xs d off hd hv hp
   split at h
   ·obtain ⟨c1, h1⟩ := qh h
    have := qaf h1
    subst this
    exact ⟨by rw [hd]; rfl, fun d v hh => (by cases hh), fun q b d v hh => (by cases hh)⟩
   ·exact (qg h).elim
  ·exact (qg h).elim
 ·split at h
  ·rename_i x y d ha hd
   split at h
   ·obtain ⟨_, h2, _, h4⟩ := qek (S := S) h
    exact ⟨by rw [h2, hd], fun d v hh => h4 (by rw [hh]; rfl), fun q b d v hh => h4 (by rw [hh]; rfl)⟩
   ·exact (qg h).elim
  ·exact (qg h).elim
 ·split at h
  ·rename_i x d hx hd
   split at h
   ·obtain ⟨_, h1⟩ := qh h
    obtain ⟨ids, q, b, v, he, hn⟩ := qdq h1
    subst he
    refine ⟨by rw [hd]; rfl, fun d v hh => (by cases hh), fun q b d v hh => ?_⟩
    cases hh
    exact hn rfl
   ·exact (qg h).elim
  ·exact (qg h).elim
 ·exact (qg h).elim
theorem qfU : ∀ (xs : List Operand), (∀ x ∈ xs, ∀ i, x = .tmp i -> S.tmp i = S'.tmp i) -> qsOf P S xs = qsOf P S' xs
 | [], h => rfl
 | x :: xs, h => by
  simp only [qsOf]
  rw [qi (h x (by simp)), qfU xs fun y hy => h y (by simp [hy])]
theorem qhA : ∀ (xs : List Operand) (q : Nat), q ∈ qsOf P S xs -> ∃ x ∈ xs, (ev P S 0 x).at q = true
 | [], q, h => by simp [qsOf] at h
 | x :: xs, q, h => by
  simp only [qsOf] at h
  split at h
  ·rename_i d e
   rcases List.mem_cons.1 h with rfl | h
   ·exact ⟨x, by simp, by rw [e]; simp [TV.at]⟩
   ·obtain ⟨y, hy, e2⟩ := qhA xs q h
    exact ⟨y, by simp [hy], e2⟩
  ·obtain ⟨y, hy, e2⟩ := qhA xs q h
   exact ⟨y, by simp [hy], e2⟩
theorem qgB {d : Nat} {f : FuncId} {caps : List T} {cg : List Id} {ts : List TypeId} {xs : List Operand} (hb : ∀ x ∈ xs, ∀ t d, (ev P S t x).at d = true -> S.box d = S'.box d) (ht : ∀ x ∈ xs, ∀ i, x = .tmp i -> S.tmp i = S'.tmp i) : callE P S d f caps cg ts xs = callE P S' d f caps cg ts xs := by
 unfold callE
 rw [qcC _ _ hb ht]
 have hq0 := qfU (P := P) xs ht
 rw [hq0]
 congr 1
 cases argsOf P S' ts xs with
 | none => rfl
 | some as =>
  simp only
  split
  ·rename_i q hq
   rw [<- hq0] at hq
   obtain ⟨x, hx, e⟩ := qhA (P := P) (S := S) xs q (by rw [hq]; simp)
   have hbox := hb x hx 0 q e
   have how : ownedOf S [q] = ownedOf S' [q] := by simp [ownedOf, hbox]
   rw [how, hbox]
  ·rfl
theorem qhn {o : Oper} (h : Alike S S' o.op.operands.toList) : loudE P S o = loudE P S' o := by
 have hb : ∀ x ∈ o.op.operands.toList, ∀ t d, (ev P S t x).at d = true -> S.box d = S'.box d := fun x hx t d => qfb h hx t d
 have ht := h.2
 unfold loudE
 cases ho : o.op <;> rw [ho] at ht hb <;> simp only [Op.operands] at ht hb
 case box t x => simp only; rw [qi (ht x (by simp))]
 case store t p x =>
  have hx := hb p (by simp) 0
  have e : ev P S 0 p = ev P S' 0 p := qi (ht p (by simp)) 0
  simp only
  rw [qi (ht x (by simp))]
  rw [e] at hx ⊢
  revert hx
  generalize ev P S' 0 p = tv
  generalize cellsTV (ev P S' t x) = cv
  generalize o.dst = od
  intro hx
  cases od with
  | some d => rfl
  | none => cases cv with
   | none => rfl
   | some xs => cases tv with
    | bp d off => simp only [hx d (by simp [TV.at])]
    | _ => rfl
 case call c =>
  obtain ⟨callee, args, ts⟩ := c
  simp only [Call.operands] at ht
  cases callee with
  | builtin b =>
   cases b with
   | append =>
    simp only
    split
    ·rename_i x y d ha hd
     have hx : x ∈ args.toList := by rw [ha]; simp
     have hy : y ∈ args.toList := by rw [ha]; simp
     rw [qi (ht x (by simp at hx ⊢; exact hx)), qi (ht y (by simp at hy ⊢; exact hy))]
    ·rfl
   | _ => rfl
  | value f =>
   have ha : ∀ x ∈ args.toList, ∀ i, x = .tmp i -> S.tmp i = S'.tmp i := fun x hx => ht x (by simp at hx ⊢; exact .inr hx)
   have hb' : ∀ x ∈ args.toList, ∀ t d, (ev P S t x).at d = true -> S.box d = S'.box d := fun y hy => hb y (by simp [Call.operands] at hy ⊢; exact .inr hy)
   simp only
   rw [qi (ht f (by simp))]
   split
   ·split
    ·rw [qgB hb' ha]
    ·rfl
   ·rfl
  | _ => rfl
 all_goals rfl
def EV (P : Program) (C : CallSem) (ops : Array Oper) (S : St) (k : Nat) (e : Eff) : Prop :=
 ∃ o, ops[k]? = some o /\ ((loud P o = false /\ ∃ v, e = .put o.dst v /\ (quiet P S o).go C some = some v) ∨ (loud P o = true /\ (loudE P S o).go C some = some e))
theorem qfS {K : St -> List Eff -> Option R} {r : R} : ∀ (n i : Nat) (S : St) (es : List Eff), runMix P C ops (List.range' i n) S es K = some r ->
  ∃ (fs : List Eff) (st : Nat -> St), fs.length = n /\ st 0 = S /\ (∀ k, k < n -> EV P C ops (st k) (i + k) (effAt fs k) /\ st (k + 1) = (effAt fs k).act (st k)) /\ K (st n) (es ++ fs) = some r
 | 0, i, S, es, h => ⟨[], fun _ => S, rfl, rfl, fun k h2 => by omega, by simpa [runMix] using h⟩
 | n + 1, i, S, es, h => by
  rw [List.range'_succ] at h
  simp only [runMix] at h
  split at h
  ·simp at h
  ·rename_i o ho
   have fin : ∀ (e : Eff), EV P C ops S i e -> runMix P C ops (List.range' (i + 1) n) (e.act S) (es ++ [e]) K = some r -> ∃ (fs : List Eff) (st : Nat -> St), fs.length = n + 1 /\ st 0 = S /\ (∀ k, k < n + 1 -> EV P C ops (st k) (i + k) (effAt fs k) /\ st (k + 1) = (effAt fs k).act (st k)) /\ K (st (n + 1)) (es ++ fs) = some r := fun e hv hrun => by
    obtain ⟨fs, st, h1, h2, h3, h4⟩ := qfS n (i + 1) _ _ hrun
    refine ⟨e :: fs, fun k => match k with | 0 => S | k + 1 => st k, by simp [h1], rfl, fun k hk => ?_, by simpa using h4⟩
    cases k with
    | zero => exact ⟨hv, h2⟩
    | succ k =>
     have := h3 k (by omega)
     have e1 : effAt (e :: fs) (k + 1) = effAt fs k := by simp [effAt]
     rw [e1, show i + (k + 1) = i + 1 + k by omega]
     exact this
   split at h
   ·rename_i hl
    obtain ⟨e, h1, h2⟩ := qeq _ h
    exact fin e ⟨o, ho, .inr ⟨hl, h1⟩⟩ h2
   ·rename_i hl
    obtain ⟨v, h1, h2⟩ := qeq _ h
    exact fin (.put o.dst v) ⟨o, ho, .inl ⟨hl, v, rfl, h1⟩⟩ h2
theorem qgw {m : Nat} (h : mixFlow P ops m = true) : edgesOk ops = true /\ ∀ i, i < m -> ∃ o, ops[i]? = some o /\ o.guard = none /\ (loud P o = true ∨ o.dst.isSome = true) /\
  ∀ j, j < m -> i ≠ j -> ∃ o', ops[j]? = some o' /\ (o.dst = none ∨ o.dst ≠ o'.dst) /\ (unord (befores ops) i j = true -> ∀ t ∈ opTmps o, o'.dst ≠ some t) := by
 unfold mixFlow at h
 simp only [Bool.and_eq_true] at h
 refine ⟨h.1, fun i hi => ?_⟩
 have h1 := qT h.2 hi
 split at h1
 ·simp at h1
 ·rename_i o ho
  simp only [Bool.and_eq_true, Bool.or_eq_true, Option.isNone_iff_eq_none] at h1
  obtain ⟨⟨h2, h3⟩, h4⟩ := h1
  refine ⟨o, ho, h2, h3, fun j hj hij => ?_⟩
  have h5 := qT h4 hj
  simp only [Bool.or_eq_true, beq_iff_eq] at h5
  rcases h5 with h5 | h5
  ·exact (hij h5).elim
  ·split at h5
   ·simp at h5
   ·rename_i o' ho'
    simp only [Bool.and_eq_true, Bool.or_eq_true, Option.isNone_iff_eq_none, bne_iff_ne, ne_eq, Bool.not_eq_true'] at h5
    refine ⟨o', ho', h5.1, fun hu t ht e => ?_⟩
    rcases h5.2 with h6 | h6
    ·rw [hu] at h6; simp at h6
    ·have := List.any_eq_false.1 h6 t ht
     simp [e] at this
theorem qhm (bs : Array Nat) (i j : Nat) : unord bs i j = unord bs j i := by unfold unord; rw [Bool.and_comm]
structure LoudOk (ops : Array Oper) (m : Nat) (S0 : St) (es : List Eff) (j : Nat) : Prop where
 side : ∀ i, i < m -> i ≠ j -> unord (befores ops) i j = true -> ∃ o', ops[i]? = some o' /\ (effAt es i).comm (effAt es j) = true /\ ∀ t ∈ opTmps o', clear (reads o') (effAt es j) (S0.tmp t) = true /\ ∀ k, k < m -> (effAt es k).dst = some t -> clear (reads o') (effAt es j) (effAt es k).tv = true
 box0 : ∀ i o', i < m -> i ≠ j -> unord (befores ops) i j = true -> ops[i]? = some o' -> reads o' = true -> ∀ d, calmBox (effAt es j) (S0.box d) = true
 box : ∀ i o', i < m -> i ≠ j -> unord (befores ops) i j = true -> ops[i]? = some o' -> reads o' = true -> ∀ k, k < m -> calmBox (effAt es j) (effAt es k).bc = true
 new : ∀ d b, effAt es j = .new d b -> noPtr S0 d = true /\ d < S0.boxes.length /\ ∀ k, k < m -> k ≠ j -> waits (befores ops) k j = false -> (effAt es k).tv.at d = false /\ (effAt es k).bx ≠ some d /\ (effAt es k).any (fun x => x.g.any (isB d)) = false
 cal : ∀ ids q b d v, effAt es j = .cal ids q b d v -> S0.has (ofSite d) = false /\ ∀ k, k < m -> k ≠ j -> waits (befores ops) k j = false -> (effAt es k).any (fun x => x.g.any (ofSite d)) = false
theorem qhN (e : Eff) : calmBox e none = true := by simp [calmBox, boxAny]
theorem qV {m : Nat} {S0 : St} {es : List Eff} (h : mixOk P ops m S0 es = true) {j : Nat} (hj : j < m) {o : Oper} (ho : ops[j]? = some o) :
  (loud P o = true -> LoudOk ops m S0 es j) /\ (loud P o = false -> makes o = true -> ∀ d, o.dst = some d -> S0.has (ofSite d) = false /\ ∀ k, k < m -> k ≠ j -> waits (befores ops) k j = false -> (effAt es k).any (fun x => x.g.any (ofSite d)) = false) := by
 unfold mixOk at h
 have h1 := qT h hj
 rw [ho] at h1
 simp only at h1
 refine ⟨fun hl => ?_, fun hl hm d hd => ?_⟩
 ·rw [hl] at h1
  simp only [Bool.and_eq_true] at h1
  obtain ⟨⟨h2, h34⟩, h5⟩ := h1
  have h34 : ∀ i o', i < m -> i ≠ j -> unord (befores ops) i j = true -> ops[i]? = some o' -> reads o' = true -> (S0.boxes.all (calmBox (effAt es j))) = true /\ ((List.range m).all fun k => calmBox (effAt es j) (effAt es k).bc) = true := fun i o' hi hne hu ho' hr => by
   rw [Bool.or_eq_true] at h34
   rcases h34 with h | h
   ·exfalso
    rw [Bool.not_eq_true'] at h
    have h := List.any_eq_false.1 h i (List.mem_range.2 hi)
    have hne' : (i != j) = true := by simpa using hne
    rw [ho', hne', hu] at h
    simp [hr] at h
   ·simpa only [Bool.and_eq_true] using h
  refine ⟨fun i hi hne hu => ?_, fun i o' hi hne hu ho' hr d => ?_, fun i o' hi hne hu ho' hr k hk => qT (h34 i o' hi hne hu ho' hr).2 hk, fun d b hb => ?_, fun ids q b d v hb => ?_⟩
  ·have h6 := qT h2 hi
   rw [hu] at h6
   have hne' : (i == j) = false := by simpa using hne
   rw [hne'] at h6
   simp only [Bool.false_or, Bool.not_true] at h6
   split at h6
   ·simp at h6
   ·rename_i o' ho'
    simp only [Bool.and_eq_true] at h6
    refine ⟨o', ho', h6.1, fun t ht => ?_⟩
    have h7 := List.all_eq_true.1 h6.2 t ht
    simp only [Bool.and_eq_true] at h7
    refine ⟨h7.1, fun k hk hd => ?_⟩
    have h8 := qT h7.2 hk
    simpa [hd] using h8
  ·unfold St.box
   rw [List.getD_eq_getElem?_getD]
   by_cases hd : d < S0.boxes.length
   ·rw [List.getElem?_eq_getElem hd]
    exact List.all_eq_true.1 (h34 i o' hi hne hu ho' hr).1 _ (List.getElem_mem hd)
   ·rw [List.getElem?_eq_none (by omega)]
    exact qhN _
  ·rw [hb] at h5
   simp only [Bool.and_eq_true, decide_eq_true_eq] at h5
   refine ⟨h5.1.1, h5.1.2, fun k hk hne hw => ?_⟩
   have h6 := qT h5.2 hk
   have hne' : (k == j) = false := by simpa using hne
   rw [hne', hw] at h6
   simp only [Bool.false_or, Bool.and_eq_true, Bool.not_eq_true', bne_iff_ne, ne_eq] at h6
   exact ⟨h6.1.1, h6.1.2, h6.2⟩
  ·rw [hb] at h5
   simp only [Bool.and_eq_true, Bool.not_eq_true'] at h5
   refine ⟨h5.1, fun k hk hne hw => ?_⟩
   have h6 := qT h5.2 hk
   have hne' : (k == j) = false := by simpa using hne
   rw [hne', hw] at h6
   simpa using h6
 ·rw [hl] at h1
  simp only [hm, hd, Bool.and_eq_true, Bool.not_eq_true'] at h1
  refine ⟨h1.1, fun k hk hne hw => ?_⟩
  have h6 := qT h1.2 hk
  have hne' : (k == j) = false := by simpa using hne
  rw [hne', hw] at h6
  simpa using h6
theorem qcW {e : Nat -> Eff} {L : Nat -> Bool} {k : Nat} : ∀ (m : Nat) (S : St), k <= m -> (∀ j, k <= j -> j < m -> L j = false) -> runL e L m S = runL e L k S
 | 0, S, h, hL => by
  have : k = 0 := by omega
  rw [this]
 | m + 1, S, h, hL => by
  by_cases hk : k = m + 1
  ·rw [hk]
  ·simp only [runL]
   rw [hL m (by omega) (by omega)]
   exact qcW m S (by omega) fun j h1 h2 => hL j h1 (by omega)
theorem qhz {o : Oper} (h : loud P o = true) : reads o = true := by
 unfold loud at h
 unfold reads
 cases ho : o.op <;> rw [ho] at h <;> first | rfl | cases h
theorem qgD {o : Oper} (h : reads o = false) (ht : ∀ x ∈ o.op.operands.toList, ∀ i, x = .tmp i -> S.tmp i = S'.tmp i) : quiet P S o = quiet P S' o := by
 unfold reads at h
 unfold quiet
 cases ho : o.op <;> rw [ho] at ht h <;> simp only [Op.operands] at ht <;> first | cases h | skip
 case fieldAddr s x f => simp only; rw [qi (ht x (by simp))]
 case nilCheck x => simp only; rw [qi (ht x (by simp))]
 case move x => simp only; rw [qi (ht x (by simp))]
 case assign x => simp only; rw [qi (ht x (by simp))]
theorem qib (hC : SoundC P C) {Q : Exit -> Act -> World -> Prop} {K : St -> Option R} {r : R} (hK : ∀ S' a' w', K S' = some r -> RelE P E ok S' a' w' -> Q .normal a' w') {m : Nat} (hms : m <= ops.size) (hF : mixFlow P ops m = true)
  (hm : ∀ i, m <= i -> i < ops.size -> ∀ j, j < i -> ((befores ops).getD i 0).testBit j = true) {es : List Eff} {st : Nat -> St} (hv : ∀ k, k < m -> EV P C ops (st k) k (effAt es k) /\ st (k + 1) = (effAt es k).act (st k))
  (hs : mixOk P ops m (st 0) es = true) (htail : runOps P C ops ((List.range (ops.size - m)).map (· + m)) (st m) K = some r) :
  ∀ (n : Nat) (L : Array Bool) (a : Act) (w : World), L.size = ops.size -> Closed ops L -> L.toList.count false <= n -> (∀ i, m <= i -> i < ops.size -> L.getD i false = false) -> RelE P E ok (runL (effAt es) (fun i => L.getD i false) m (st 0)) a w ->
   wpAny P .any ops Q n L a w := by
 obtain ⟨hE, hflow⟩ := qgw hF
 have hput : ∀ k, k < m -> ∀ o, ops[k]? = some o -> loud P o = false -> ∃ v, effAt es k = .put o.dst v /\ (quiet P (st k) o).go C some = some v := fun k hk o ho hl => by
  obtain ⟨o', ho', h⟩ := (hv k hk).1
  rw [ho] at ho'
  cases ho'
  rcases h with ⟨_, h⟩ | ⟨h, _⟩
  ·exact h
  ·rw [hl] at h; simp at h
 have hloud : ∀ k, k < m -> ∀ o, ops[k]? = some o -> loud P o = true -> (loudE P (st k) o).go C some = some (effAt es k) := fun k hk o ho hl => by
  obtain ⟨o', ho', h⟩ := (hv k hk).1
  rw [ho] at ho'
  cases ho'
  rcases h with ⟨h, _⟩ | ⟨_, h⟩
  ·rw [hl] at h; simp at h
  ·exact h
 have hedst : ∀ k, k < m -> ∀ o, ops[k]? = some o -> (effAt es k).dst = o.dst := fun k hk o ho => by
  cases hl : loud P o with
  | false => obtain ⟨v, h, _⟩ := hput k hk o ho hl; rw [h]; rfl
  | true => exact (qcm (hloud k hk o ho hl)).1
 have hst : ∀ k, k <= m -> runL (effAt es) (fun j => decide (j < k)) k (st 0) = st k := by
  intro k
  induction k with
  | zero => exact fun _ => rfl
  | succ k ih =>
   intro hk
   simp only [runL]
   rw [show decide (k < k + 1) = true by simp]
   simp only
   rw [(hv k (by omega)).2, <- ih (by omega)]
   congr 1
   exact qbh k _ fun j hj => by simp [hj]; omega
 have hcomm : ∀ i j, i < m -> j < m -> i ≠ j -> unord (befores ops) i j = true -> ∀ S, (effAt es i).act ((effAt es j).act S) = (effAt es j).act ((effAt es i).act S) := fun i j hi hj hne hu S => by
  obtain ⟨o, ho, _, hd, hp⟩ := hflow i hi
  obtain ⟨o', ho', h1, h2⟩ := hp j hj hne
  obtain ⟨o2, ho2, _, hd', _⟩ := hflow j hj
  rw [ho'] at ho2
  cases ho2
  cases hli : loud P o with
  | false =>
   cases hlj : loud P o' with
   | false =>
    obtain ⟨v, e1, _⟩ := hput i hi o ho hli
    obtain ⟨v', e2, _⟩ := hput j hj o' ho' hlj
    rw [hli] at hd
    rw [hlj] at hd'
    simp only [Bool.false_eq_true, false_or] at hd hd'
    obtain ⟨d, hd⟩ := Option.isSome_iff_exists.1 hd
    obtain ⟨d', hd'⟩ := Option.isSome_iff_exists.1 hd'
    refine qcl ?_ S
    rw [e1, e2, hd, hd']
    rw [hd, hd'] at h1
    simp only [Eff.comm, bne_iff_ne, ne_eq]
    intro hh
    rw [hh] at h1
    simp at h1
   | true =>
    obtain ⟨o3, ho3, hc, _⟩ := ((qV hs hj ho').1 hlj).side i hi hne hu
    exact qcl hc S
  | true =>
   cases hlj : loud P o' with
   | true =>
    obtain ⟨o3, ho3, hc, _⟩ := ((qV hs hj ho').1 hlj).side i hi hne hu
    exact qcl hc S
   | false =>
    obtain ⟨o3, ho3, hc, _⟩ := ((qV hs hi ho).1 hli).side j hj (Ne.symm hne) (by rw [qhm]; exact hu)
    exact (qcl hc S).symm
 -- what a step reads stays clear of what comes either way
 have hslot : ∀ i j, i < m -> j < m -> i ≠ j -> unord (befores ops) i j = true -> ∀ o, ops[i]? = some o -> ∀ o', ops[j]? = some o' -> loud P o' = true -> ∀ (L : Nat -> Bool) (k : Nat), k <= m -> ∀ t ∈ opTmps o, clear (reads o) (effAt es j) ((runL (effAt es) L k (st 0)).tmp t) = true := fun i j hi hj hne hu o ho o' ho' hl L k hk t ht => by
  obtain ⟨o2, ho2, _, hc⟩ := ((qV hs hj ho').1 hl).side i hi hne hu
  rw [ho] at ho2
  cases ho2
  obtain ⟨c1, c2⟩ := hc t ht
  refine qaB (I := fun S => clear (reads o) (effAt es j) (S.tmp t) = true) k (st 0) c1 fun q S hq _ hI => ?_
  rcases qeQ (effAt es q) S t with h1 | h1 | h1
  ·rw [h1.1]; exact c2 q (by omega) h1.2
  ·rw [h1]; exact hI
  ·rw [h1]; exact qic hI
 have hbox : ∀ i j, i < m -> j < m -> i ≠ j -> unord (befores ops) i j = true -> ∀ o, ops[i]? = some o -> reads o = true -> ∀ o', ops[j]? = some o' -> loud P o' = true -> ∀ (L : Nat -> Bool) (k : Nat), k <= m -> ∀ d, calmBox (effAt es j) ((runL (effAt es) L k (st 0)).box d) = true := fun i j hi hj hne hu o ho hr o' ho' hl L k hk => by
  have H := (qV hs hj ho').1 hl
  refine qaB (I := fun S => ∀ d, calmBox (effAt es j) (S.box d) = true) k (st 0) (H.box0 i o hi hne hu ho hr) fun q S hq _ hI d => ?_
  rcases qeR (effAt es q) S d with h1 | h1 | h1
  ·rw [h1.1]; exact H.box i o hi hne hu ho hr q (by omega)
  ·rw [h1]; exact hI d
  ·rw [h1]; exact qgL (hI d)
 intro n
 have full : ∀ (n : Nat) (L : Array Bool) (a : Act) (w : World), L.size = ops.size -> Closed ops L -> L.toList.count false <= n -> (∀ i, m <= i -> i < ops.size -> L.getD i false = false) -> RelE P E ok (runL (effAt es) (fun i => L.getD i false) m (st 0)) a w ->
   (∀ i, i < m -> L.getD i false = true) -> wpAny P .any ops Q n L a w := fun n L a w h1 h2 h3 h4 h6 h7 => by
  rw [qbh (L' := fun j => decide (j < m)) m _ fun j hj => by simp [h7 j hj, hj], hst m (Nat.le_refl _)] at h6
  refine qen hC hK hE hm n L m (st m) a w h1 h2 h3 (Nat.le_refl _) hms (fun i hi => ?_) h6 htail
  rcases Nat.lt_or_ge i m with hlt | hge
  ·simp [h7 i hlt, hlt]
  ·rw [h4 i hge hi]
   simp
   omega
 induction n with
 | zero =>
  intro L a w h1 h2 h3 h4 h6
  exact full 0 L a w h1 h2 h3 h4 h6 fun i hi => qcy (by omega) (by omega)
 | succ n ih =>
  intro L a w h1 h2 h3 h4 h6
  by_cases hall : ∀ i, i < m -> L.getD i false = true
  ·exact full (n + 1) L a w h1 h2 h3 h4 h6 hall
  have hx : ∃ i0, i0 < m /\ ¬ L.getD i0 false = true := by
   refine Classical.byContradiction fun hno => hall fun i hi => ?_
   exact Classical.byContradiction fun hh => hno ⟨i, hi, hh⟩
  obtain ⟨i0, hi0, hn0⟩ := hx
  refine ⟨fun hr => (hn0 (qcF hE h1 hr i0 (by omega))).elim, fun i hi => ?_⟩
  obtain ⟨g1, o, ho, g2⟩ := mem_ready.1 hi
  have hio := (Array.getElem?_eq_some_iff.1 ho).1
  have hif : L.getD i false = false := by
   rw [Array.getD_eq_getD_getElem?, Array.getElem?_eq_getElem (by omega)] at g1 ⊢
   exact g1
  have him : i < m := by
   rcases Nat.lt_or_ge i m with hlt | hge
   ·exact hlt
   ·exact (hn0 (qaT hE h2 i o ho g2 i0 (hm i hge hio i0 (by omega)))).elim
  obtain ⟨o', ho', hguard, hod, hpair⟩ := hflow i him
  rw [ho] at ho'
  cases ho'
  generalize hSd : runL (effAt es) (fun i => L.getD i false) m (st 0) = S at h6
  -- steps done out of turn are unordered
  have hun : ∀ k, k < m -> k ≠ i -> L.getD k false ≠ decide (k < i) -> unord (befores ops) i k = true := fun k hk hki hne => by
   unfold unord
   simp only [Bool.and_eq_true, Bool.not_eq_true']
   cases hLk : L.getD k false with
   | true =>
    have hge : ¬ k < i := fun hh => hne (by rw [hLk]; simp [hh])
    refine ⟨?_, ?_⟩
    ·unfold waits
     simp [hge]
    ·cases hw : waits (befores ops) k i with
     | false => rfl
     | true =>
      have := (qai hE h2 (by omega : k < ops.size) (.inl hLk) hw).1
      rw [hif] at this
      simp at this
   | false =>
    have hlt : k < i := by
     refine Classical.byContradiction fun hh => hne (by rw [hLk]; simp; omega)
    refine ⟨?_, ?_⟩
    ·cases hw : waits (befores ops) i k with
     | false => rfl
     | true =>
      have := (qai hE h2 hio (.inr hi) hw).1
      rw [hLk] at this
      simp at this
    ·unfold waits
     simp only [Bool.and_eq_false_imp, decide_eq_true_eq]
     intro hh
     omega
  have hwn : ∀ k, k < m -> L.getD k false = true -> k ≠ i /\ waits (befores ops) k i = false := fun k hk hLk => by
   refine ⟨fun hh => by rw [hh, hif] at hLk; simp at hLk, ?_⟩
   cases hw : waits (befores ops) k i with
   | false => rfl
   | true =>
    have := (qai hE h2 (by omega : k < ops.size) (.inl hLk) hw).1
    rw [hif] at this
    simp at this
  have hlook : ∀ k, k <= m -> Look (opTmps o) (fun d => (∃ j, j < m /\ j ≠ i /\ unord (befores ops) i j = true /\ (effAt es j).bx = some d) ∨ reads o = false) (runL (effAt es) (fun i => L.getD i false) k (st 0)) (runL (effAt es) (fun j => decide (j < i)) k (st 0)) := by
   intro k
   induction k with
   | zero => exact fun _ => Look.refl _
   | succ k ihk =>
    intro hk
    have ihk := ihk (by omega)
    simp only [runL]
    by_cases heq : L.getD k false = decide (k < i)
    ·rw [heq]
     split
     ·exact ihk.act _
     ·exact ihk
    ·have hki : k ≠ i := fun hh => heq (by rw [hh, hif]; simp)
     have hu := hun k (by omega) hki heq
     obtain ⟨ok, hok, hdk, hq2⟩ := hpair k (by omega) (Ne.symm hki)
     have hside : ∀ L', Look (opTmps o) (fun d => (∃ j, j < m /\ j ≠ i /\ unord (befores ops) i j = true /\ (effAt es j).bx = some d) ∨ reads o = false) ((effAt es k).act (runL (effAt es) L' k (st 0))) (runL (effAt es) L' k (st 0)) := fun L' => by
      refine Look.side (fun t ht => by rw [hedst k (by omega) ok hok]; exact hq2 hu t ht) (fun d hd => .inl ⟨k, by omega, hki, hu, hd⟩) (fun hne t ht => ?_) (fun hne d hd => ?_) ⟨fun d v hh => ?_, fun q b d v hh => ?_⟩
      ·cases hl : loud P ok with
       | false => obtain ⟨v, hh, _⟩ := hput k (by omega) ok hok hl; rw [hh] at hne; exact (hne rfl).elim
       | true =>
        have := hslot i k him (by omega) (Ne.symm hki) hu o ho ok hok hl L' k (by omega) t ht
        unfold clear at this
        simp only [Bool.and_eq_true, Bool.or_eq_true, List.isEmpty_iff] at this
        exact this.1.resolve_left hne
      ·cases hl : loud P ok with
       | false => obtain ⟨v, hh, _⟩ := hput k (by omega) ok hok hl; rw [hh] at hne; exact (hne rfl).elim
       | true => exact hbox i k him (by omega) (Ne.symm hki) hu o ho (by cases hr : reads o with | true => rfl | false => exact (hd (.inr hr)).elim) ok hok hl L' k (by omega) d
      ·cases hl : loud P ok with
       | false => obtain ⟨v', hh', _⟩ := hput k (by omega) ok hok hl; rw [hh'] at hh; cases hh
       | true => exact (qcm (hloud k (by omega) ok hok hl)).2.1 d v hh
      ·cases hl : loud P ok with
       | false => obtain ⟨v', hh', _⟩ := hput k (by omega) ok hok hl; rw [hh'] at hh; cases hh
       | true => exact (qcm (hloud k (by omega) ok hok hl)).2.2 q b d v hh
     cases hLk : L.getD k false with
     | true =>
      have : decide (k < i) = false := by
       rw [hLk] at heq
       cases hdec : decide (k < i) <;> simp_all
      rw [this]
      exact (hside _).trans ihk
     | false =>
      have : decide (k < i) = true := by
       rw [hLk] at heq
       cases hdec : decide (k < i) <;> simp_all
      rw [this]
      exact ihk.trans (hside _).symm
  have hlk := hlook m (Nat.le_refl _)
  have hsti : runL (effAt es) (fun j => decide (j < i)) m (st 0) = st i := by
   rw [qcW (k := i) m _ (by omega) fun j h1 h2 => by simp; omega, hst i (by omega)]
  rw [hSd, hsti] at hlk
  have halike : reads o = true -> Alike S (st i) o.op.operands.toList := fun hr => by
   refine ⟨fun x hx q hxq d hd => hlk.box d fun hB => ?_, fun x hx q hxq => hlk.slot q (qbc hx hxq)⟩
   obtain ⟨j, hj, hne, hu, hbx⟩ := hB.resolve_right (by rw [hr]; simp)
   obtain ⟨oj, hoj, _, _, _⟩ := hflow j hj
   cases hl : loud P oj with
   | false => obtain ⟨v, hh, _⟩ := hput j hj oj hoj hl; rw [hh] at hbx; simp [Eff.bx] at hbx
   | true =>
    have := hslot i j him hj (Ne.symm hne) hu o ho oj hoj hl (fun i => L.getD i false) m (Nat.le_refl _) q (qbc hx hxq)
    rw [hSd] at this
    unfold clear at this
    rw [hbx, hr] at this
    simp only [Bool.and_eq_true, Bool.not_true, Bool.false_or, Bool.not_eq_true'] at this
    rw [hd] at this
    simp at this
  have hvoid : ∀ p : V -> Bool, p V.bad = false -> (st 0).any p = false -> (∀ k, k < m -> k ≠ i -> waits (befores ops) k i = false -> (effAt es k).any p = false) -> Void p S := fun p hp h0 hk => by
   rw [<- hSd]
   refine qaB (I := Void p) m (st 0) (qjd h0) fun k S hkm hLk hI => ?_
   obtain ⟨w1, w2⟩ := hwn k hkm hLk
   exact qiM hp hI (hk k hkm w1 w2)
  have hnext : (effAt es i).act S = runL (effAt es) (fun j => (L.setIfInBounds i true).getD j false) m (st 0) := by
   rw [<- hSd]
   refine qfR (L := fun j => L.getD j false) hif (by rw [getD_set' (by omega)]; simp) (fun j hj => by rw [getD_set' (by omega), if_neg (Ne.symm hj)]) m _ him fun j hij hjm hLj => ?_
   exact hcomm i j him hjm (by omega) (hun j hjm (by omega) (by rw [hLj]; simp; omega))
  have go : ∀ a' w', RelE P E ok ((effAt es i).act S) a' w' -> wpAny P .any ops Q n (L.setIfInBounds i true) a' w' := fun a' w' hR' => by
   rw [hnext] at hR'
   exact ih _ a' w' (by simpa using h1) (qcG h2 hi) (qcB (by omega) hif h3) (fun j hj hjs => by rw [getD_set' (by omega), if_neg (by omega)]; exact h4 j hj hjs) hR'
  unfold wpOp
  rw [ho]
  simp only
  have hw : Region.wanted o (yielded ops a.tmps) = true := by simp [Region.wanted, hguard]
  rw [if_pos hw]
  obtain ⟨M, hM, hR⟩ := h6
  cases hl : loud P o with
  | false =>
   obtain ⟨v, e1, e2⟩ := hput i him o ho hl
   rw [<- show quiet P S o = quiet P (st i) o from (by
    cases hr : reads o with
    | true => exact qdy (halike hr)
    | false => exact qgD hr fun x hx q hxq => hlk.slot q (qbc hx hxq))] at e2
   rw [hl] at hod
   simp only [Bool.false_eq_true, false_or] at hod
   obtain ⟨d, hd⟩ := Option.isSome_iff_exists.1 hod
   have hsite : makes o = true -> S.has (ofSite (o.dst.getD 0)) = false := fun hmk => by
    obtain ⟨s1, s2⟩ := (qV hs him ho).2 hl hmk d hd
    rw [hd]
    exact qdS (hvoid _ rfl s1 s2)
   refine .inl (qbP hC hR hsite e2 _ _ fun M' tv v' w' f1 f2 f3 f4 => ?_)
   cases f1
   refine go _ _ ⟨M', f2.trans hM, ?_⟩
   rw [e1]
   exact f3.put o.dst _ _ f4
  | true =>
   have e2 := hloud i him o ho hl
   rw [<- qhn (halike (qhz hl))] at e2
   have hn : ∀ d b, effAt es i = .new d b -> noPtr S d = true /\ d < S.boxes.length := fun d b hb => by
    obtain ⟨n1, n2, n3⟩ := ((qV hs him ho).1 hl).new d b hb
    obtain ⟨p1, p2, p3, p4⟩ := qbL n1
    have hlen := qfL (e := effAt es) (L := fun i => L.getD i false) m (st 0)
    rw [hSd] at hlen
    have hV : Void (fun x => x.g.any (isB d)) S := hvoid _ rfl p1 fun k hk h1 h2 => (n3 k hk h1 h2).2.2
    have hat : ∀ q, (S.tmp q).at d = false := by
     rw [<- hSd]
     refine qaB (I := fun S => ∀ q, (S.tmp q).at d = false) m (st 0) (fun q => ?_) fun k S hkm hLk hI q => ?_
     ·unfold St.tmp
      rw [List.getD_eq_getElem?_getD]
      by_cases hq : q < (st 0).tmps.length
      ·rw [List.getElem?_eq_getElem hq]
       simpa using List.any_eq_false.1 p2 _ (List.getElem_mem hq)
      ·rw [List.getElem?_eq_none (by omega)]; rfl
     ·obtain ⟨w1, w2⟩ := hwn k hkm hLk
      rcases qeQ (effAt es k) S q with h1 | h1 | h1
      ·rw [h1.1]; exact (n3 k hkm w1 w2).1
      ·rw [h1]; exact hI q
      ·rw [h1, qid]; exact hI q
    have hbn : S.box d = none := by
     rw [<- hSd]
     refine qaB (I := fun S => S.box d = none) m (st 0) p3 fun k S hkm hLk hI => ?_
     obtain ⟨w1, w2⟩ := hwn k hkm hLk
     rcases qeR (effAt es k) S d with h1 | h1 | h1
     ·exact ((n3 k hkm w1 w2).2.1 h1.2).elim
     ·rw [h1]; exact hI
     ·rw [h1, hI]; rfl
    refine ⟨?_, by rw [hlen.2.1]; exact n2⟩
    unfold noPtr
    simp only [Bool.and_eq_true, decide_eq_true_eq, Bool.not_eq_true']
    refine ⟨⟨⟨by rw [hlen.2.2]; exact p4, ?_⟩, by rw [hbn]⟩, qdS hV⟩
    rw [List.any_eq_false]
    intro t ht
    obtain ⟨q, hq, e⟩ := List.mem_iff_getElem.1 ht
    have := hat q
    rw [St.tmp, List.getD_eq_getElem?_getD, List.getElem?_eq_getElem hq] at this
    simp only [Option.getD_some] at this
    rw [e] at this
    simp [this]
   have hcal : ∀ ids q b d v, effAt es i = .cal ids q b d v -> S.has (ofSite d) = false := fun ids q b d v hb => by
    obtain ⟨s1, s2⟩ := ((qV hs him ho).1 hl).cal ids q b d v hb
    exact qdS (hvoid _ rfl s1 s2)
   refine .inl (qct hC hR (qix e2 hn hcal) _ _ fun M' S' a' w' f1 f2 f3 => ?_)
   cases f1
   exact go _ _ ⟨M', f2.trans hM, f3⟩
theorem qgr (hC : SoundC P C) (hmix : P.follows .mixedOrders = true) {Q : Exit -> Act -> World -> Prop} {K : St -> Option R} {r : R} (hK : ∀ S' a' w', K S' = some r -> RelE P E ok S' a' w' -> Q .normal a' w') {id : Nat} {draw : Bool} {S : St} {a : Act} {w : World}
  (hR : RelE P E ok S a w) (h : runRegion P C ops draw S K = some r) : (Code.region id ops draw).wp P Q a w := by
 unfold runRegion at h
 cases draw with
 | false => exact wp_region (qbN hC hK _ S a w hR h)
 | true =>
  simp only at h
  cases hA : anyLoud P ops (headLen ops ops.size) with
  | true =>
   rw [hA] at h
   simp only at h
   split at h
   ·simp at h
   ·rename_i hF
    rw [List.range_eq_range'] at h
    obtain ⟨es, st, h0, h1, h2, h3⟩ := qfS _ 0 S [] h
    split at h3
    ·simp at h3
    ·rename_i hs
     rw [List.nil_append] at hs
     subst h1
     simp only [Nat.zero_add] at h2
     refine wp_region_any hmix (qib hC hK (qcv ops _) hF (qbm ops _) h2 hs h3 ops.size _ a _ (by simp) (fun j o _ hl => ?_) ?_ (fun i _ hi => ?_) ?_)
     ·rw [Array.getD_eq_getD_getElem?] at hl
      by_cases hj : j < ops.size <;> simp [hj] at hl
     ·exact Nat.le_trans List.count_le_length (by simp)
     ·rw [Array.getD_eq_getD_getElem?]
      simp [hi]
     ·obtain ⟨M, hM, hR⟩ := hR
      rw [qcW (k := 0) _ _ (Nat.zero_le _) fun j _ hj => ?_]
      ·exact ⟨M, hM, hR.grow ⟨rfl, rfl, rfl, Nat.le_refl _, fun _ _ => rfl⟩⟩
      ·rw [Array.getD_eq_getD_getElem?]
       by_cases hi : j < ops.size <;> simp [hi]
  | false =>
  rw [hA] at h
  simp only at h
  split at h
  ·simp at h
  ·rename_i hF
   rw [List.range_eq_range'] at h
   obtain ⟨t, st, h1, h2, h3⟩ := qfA _ 0 S h
   split at h3
   ·simp at h3
   ·rename_i hs
    rw [Nat.zero_add] at hs h3
    subst h1
    refine wp_region_any hmix (qhF hC hK (qcv ops _) hF (qbm ops _) (fun k hk => h2 k (Nat.zero_le _) (by omega)) hs h3 ops.size _ (st 0) a _ (by simp) (fun j o _ hl => ?_) ?_ (fun i _ hi => ?_) ?_ ?_)
    ·rw [Array.getD_eq_getD_getElem?] at hl
     by_cases hj : j < ops.size <;> simp [hj] at hl
    ·exact Nat.le_trans List.count_le_length (by simp)
    ·rw [Array.getD_eq_getD_getElem?]
     simp [hi]
    ·refine ⟨rfl, rfl, rfl, fun i q _ hd => ?_, fun q _ => rfl⟩
     rw [Array.getD_eq_getD_getElem?] at hd
     by_cases hi : i < ops.size <;> simp [hi] at hd
    ·obtain ⟨M, hM, hR⟩ := hR
     exact ⟨M, hM, hR.grow ⟨rfl, rfl, rfl, Nat.le_refl _, fun _ _ => rfl⟩⟩
end
section
variable {P : Program} {M M' : Mdl} {w w' : World} {S : St} {a : Act} {E : Env} {C : CallSem} {R : Type} {ok : OkT}
def Mdl.ren (M : Mdl) (L id : Id) (mg : List Id) : Mdl :=
 ⟨fun r b => if r = L then (M.β L b ∨ M.β id b ∨ ∃ r' ∈ mg, M.β r' b) else (r ≠ id /\ r ∉ mg /\ M.β r b), M.bx, fun r => if r = L then M.hd id else M.hd r, M.ok⟩
theorem qab {L id : Id} {mg : List Id} {r : Id} {b : Nat} (h : (M.ren L id mg).β r b) : (r = L /\ ∃ r', r' ∈ L :: id :: mg /\ M.β r' b) ∨ (r ∉ L :: id :: mg /\ M.β r b) := by
 unfold Mdl.ren at h
 simp only at h
 split at h
 ·rename_i e
  subst e
  left
  refine ⟨rfl, ?_⟩
  rcases h with h | h | ⟨r', h1, h2⟩
  ·exact ⟨r, by simp, h⟩
  ·exact ⟨id, by simp, h⟩
  ·exact ⟨r', by simp [h1], h2⟩
 ·rename_i e
  right
  exact ⟨by simp [e, h.1, h.2.1], h.2.2⟩
theorem qhv {L id : Id} {mg : List Id} {r' : Id} {b : Nat} (h : r' ∈ L :: id :: mg) (hb : M.β r' b) : (M.ren L id mg).β L b := by
 unfold Mdl.ren
 simp only [if_true]
 simp only [List.mem_cons] at h
 rcases h with h | h | h
 ·subst h; exact .inl hb
 ·subst h; exact .inr (.inl hb)
 ·exact .inr (.inr ⟨r', h, hb⟩)
theorem qiC {L id : Id} {mg : List Id} (hH : isH L = false) (r : Id) : (M.ren L id mg).hd r = if r = L then M.hd id else M.hd r := qgn (M := M) (N := M.ren L id mg) (L := L) (v := M.hd id) hH rfl rfl r
theorem qdU (L id : Id) (mg : List Id) (hH : isH L = false) : Turn M (M.ren L id mg) w w (L :: id :: mg) := by
 refine ⟨rfl, fun r hr => ?_, fun r hr => ?_, fun r b hr hb _ => ?_, fun _ _ _ _ => rfl, Nat.le_refl _⟩
 ·simp only [List.mem_cons, not_or] at hr
  funext b
  simp [Mdl.ren, hr.1, hr.2.1, hr.2.2]
 ·simp only [List.mem_cons, not_or] at hr
  rw [qiC hH, if_neg hr.1]
 ·rcases qab hb with ⟨_, r', h1, h2⟩ | ⟨h1, h2⟩
  ·exact ⟨r', h1, h2⟩
  ·exact (h1 hr).elim
theorem qgi {L id : Id} {mg : List Id} (hB : Base E M w) (hn : ∀ r ∈ L :: id :: mg, notB r = true) : Base E (M.ren L id mg) w := by
 refine ⟨hB.os, hB.tape, hB.output, hB.size, hB.old, fun r s b hr hs => ?_, fun r b hr => ?_, fun r b hr => ?_, fun d b hd => ?_, fun r b hr => ?_, hB.okN, hB.pin⟩
 ·rcases qab hr with ⟨rfl, r', h1, h2⟩ | ⟨h1, h2⟩ <;> rcases qab hs with ⟨rfl, s', h3, h4⟩ | ⟨h3, h4⟩
  ·rfl
  ·rw [hB.dis _ _ _ h4 h2] at h3; exact (h3 h1).elim
  ·rw [hB.dis _ _ _ h2 h4] at h1; exact (h1 h3).elim
  ·exact hB.dis _ _ _ h2 h4
 ·rcases qab hr with ⟨_, r', _, h2⟩ | ⟨_, h2⟩ <;> exact hB.lt _ _ h2
 ·rcases qab hr with ⟨_, r', _, h2⟩ | ⟨_, h2⟩ <;> exact hB.new _ _ h2
 ·have h1 : ∀ r ∈ L :: id :: mg, Id.b d ≠ r := fun r hr => qaq (hn r hr) d
  simp only [Mdl.ren, if_neg (h1 L (by simp))]
  exact ⟨h1 id (by simp), fun hm => h1 _ (by simp [hm]) rfl, hB.bxβ d b hd⟩
 ·rcases qab hr with ⟨_, r', _, h2⟩ | ⟨_, h2⟩ <;> exact hB.okβ _ _ h2
theorem qkg {L id : Id} {mg g : List Id} {sep : Bool} {x : V} {v : Value} (hH : isH L = false) (hB : Base E M w) (h : VrG P M w x v) (ho : x.own = some id) (hL : L ∈ g) (hg : ∀ r ∈ x.g, r ∈ g ∨ r = id ∨ r ∈ mg) (hs : sep = true -> x.sep = true /\ ∀ r ∈ x.g, r = id ∨ r ∈ mg) :
  VrG P (M.ren L id mg) w ⟨x.t, g, sep, some L⟩ v := by
 obtain ⟨h1, h2, h3⟩ := h.own id ho
 have av : ∀ q, avoid M w x.g q -> avoid (M.ren L id mg) w g q := fun q hq => by
  refine ⟨hq.1, fun r hr hβ => ?_, hq.2.2⟩
  rcases qab hβ with ⟨rfl, _⟩ | ⟨h4, h5⟩
  ·exact hr hL
  ·simp only [List.mem_cons, not_or] at h4
   exact hq.2.1 r (fun hm => by
    rcases hg r hm with h6 | h6 | h6
    ·exact hr h6
    ·exact h4.2.1 h6
    ·exact h4.2.2 h6) h5
 have same : ∀ A : Nat -> Prop, Same A w w := fun A b hb => rfl
 refine ⟨h.rd.keep (same _) av, fun hsep => ?_, fun id' hid' => ?_⟩
 ·obtain ⟨s1, s2⟩ := hs hsep
  refine (h.sep s1).mono fun q ⟨r, hr, hβ⟩ => ⟨L, hL, ?_⟩
  rcases s2 r hr with h4 | h4
  ·exact qhv (r' := r) (by simp [h4]) hβ
  ·exact qhv (r' := r) (by simp [h4]) hβ
 ·simp at hid'
  subst hid'
  refine ⟨hL, by rw [qiC hH, if_pos rfl, h2], ?_⟩
  have hown : ∀ b, M.β id b -> (M.ren L id mg).β L b := fun b hb => qhv (r' := id) (by simp) hb
  cases hx : x.t with
  | nums e k z l => rw [hx] at h3; exact ⟨h3.1, h3.2.1, fun b hb => hown b (h3.2.2 b hb)⟩
  | sl e z l =>
   rw [hx] at h3
   obtain ⟨cs, q1, q2, q3, q4⟩ := h3
   exact ⟨cs, q1, q2, fun b hb => hown b (q3 b hb), fun b hb i j hi hj => (q4 b hb i j hi hj).keep (same _) fun q hq => ⟨av q hq.1, hq.2⟩⟩
  | _ => rw [hx] at h3; exact h3.elim
theorem Car.rename {L id : Id} {mg g : List Id} {sep : Bool} {x : V} (hH : isH L = false) (hB : Base E M w) {v0 : Value} (hx : VrG P M w x v0) (ho : x.own = some id) (hL : L ∈ g) (hg : ∀ r ∈ x.g, r ∈ g ∨ r = id ∨ r ∈ mg) (hs : sep = true -> x.sep = true /\ ∀ r ∈ x.g, r = id ∨ r ∈ mg) :
  Car P M (M.ren L id mg) w w (rename L id mg x g sep) := by
 have T := qdU (M := M) (w := w) L id mg hH
 have hnew := qkg (mg := mg) hH hB hx ho hL hg hs
 have key : ∀ y : V, (y.own = some id /\ y.t ≠ .bad /\ YthocpcfjfgnkgaaGreatRv.rename L id mg x g sep y = ⟨x.t, g, sep, some L⟩) ∨ YthocpcfjfgnkgaaGreatRv.rename L id mg x g sep y = YthocpcfjfgnkgaaGreatRv.kill (L :: id :: mg) y := fun y => by
  unfold YthocpcfjfgnkgaaGreatRv.rename
  cases h : y.own == some id && !y.t.isBad with
  | true =>
   simp only [Bool.and_eq_true, beq_iff_eq, Bool.not_eq_true'] at h
   exact .inl ⟨h.1, qaU.1 h.2, rfl⟩
  | false => exact .inr rfl
 have K : Car P M (M.ren L id mg) w w (YthocpcfjfgnkgaaGreatRv.kill (L :: id :: mg)) := Car.kill T hB
 have hv0 := (hx.own id ho).2.1
 refine ⟨fun y v h => ?_, fun y hy => ?_, fun y ad n cap h hy => ?_⟩
 ·rcases key y with ⟨h1, h2, h3⟩ | h3
  ·rw [h3]
   intro _
   rw [<- ((h h2).own id h1).2.1, hv0]
   exact hnew
  ·rw [h3]; exact K.vr y v h
 ·rcases key y with ⟨h1, h2, h3⟩ | h3
  ·exact h2
  ·rw [h3] at hy; exact K.ne y hy
 ·rcases key y with ⟨h1, h2, h3⟩ | h3
  ·rw [h3]
   obtain ⟨b, cur, e, e1, _, q3, q4, _⟩ := qam h h1 rfl
   have hv : v0 = .slice (some ad) n cap := by rw [<- hv0]; exact (h.own id h1).2.1
   obtain ⟨b', cur', e', e1', _, q3', q4', _⟩ := qam hx ho hv
   rw [e1] at e1'
   cases e1'
   rw [q4] at q4'
   cases q4'
   rw [q3, q3']
  ·rw [h3] at hy ⊢; exact K.el y ad n cap h hy
theorem Rel.carry {f : V -> V} {ids : List Id} (F : Car P M M' w w f) (T : Turn M M' w w ids) (hR : Rel P E M S a w) (hB' : Base E M' w) (hn : ∀ r ∈ ids, notB r = true) (hbx : ∀ d, M'.bx d = M.bx d) : Rel P E M' (S.map f) a w := by
 obtain ⟨h1, h2⟩ := hR.car F T hbx
 exact ⟨hB'.inv fun q y hy => h2 q y (fun hm => qaq (hn _ hm) q rfl) hy, hR.defers, by rw [hR.size]; simp [St.map], h1⟩
theorem qed {L id : Id} {x : V} {v : Value} (hR : Rel P E M S a w) (hL : notB L = true) (hH : isH L = false) (hx : Vr P M w x v) (ho : x.own = some id) : ∃ M', M'.ok = M.ok /\ Rel P E M' (renameSt L id x S) a w := by
 unfold renameSt
 split
 ·rename_i hc
  simp only [Bool.and_eq_true, Bool.not_eq_true'] at hc
  have hG := hx (qaU.1 hc.2)
  have hB := hR.inv.base
  split
  ·rename_i hs
   simp only [Bool.and_eq_true] at hs
   have hn : ∀ r ∈ L :: id :: x.g, notB r = true := fun r hr => by
    simp only [List.mem_cons] at hr
    rcases hr with rfl | rfl | hr
    ·exact hL
    ·exact hc.1
    ·exact List.all_eq_true.1 hs.2 r hr
   exact ⟨M.ren L id x.g, rfl, hR.carry (Car.rename hH hB hG ho (by simp) (fun r hr => .inr (.inr hr)) fun _ => ⟨hs.1, fun r hr => .inr hr⟩) (qdU L id x.g hH) (qgi hB hn) hn fun _ => rfl⟩
  ·have hn : ∀ r ∈ L :: id :: x.g.filter (fun i => !isLoc i), notB r = true := fun r hr => by
    simp only [List.mem_cons, List.mem_filter] at hr
    rcases hr with rfl | rfl | hr
    ·exact hL
    ·exact hc.1
    ·cases r <;> first | rfl | (have := hr.2; simp [isLoc] at this)
   refine ⟨M.ren L id (x.g.filter fun i => !isLoc i), rfl, hR.carry (Car.rename hH hB hG ho (by simp) (fun r hr => ?_) fun h => by simp at h) (qdU L id _ hH) (qgi hB hn) hn fun _ => rfl⟩
   by_cases h1 : r = id
   ·exact .inr (.inl h1)
   ·by_cases h2 : r = L
    ·left; simp [h2]
    ·cases h3 : isLoc r with
     | true => left; simp [h1, h2, hr, h3]
     | false => exact .inr (.inr (List.mem_filter.2 ⟨hr, by simp [h3]⟩))
 ·exact ⟨M, rfl, hR⟩
def Mdl.free (M : Mdl) (L : Id) : Mdl := ⟨fun r b => r ≠ L /\ M.β r b, M.bx, fun r => if r = L then .slice none 0 0 else M.hd r, M.ok⟩
theorem qeS {L : Id} (hH : isH L = false) (r : Id) : (M.free L).hd r = if r = L then .slice none 0 0 else M.hd r := qgn (M := M) (N := M.free L) (L := L) (v := .slice none 0 0) hH rfl rfl r
theorem qdb (L : Id) (hH : isH L = false) : Turn M (M.free L) w w [L] := by
 refine ⟨rfl, fun r hr => ?_, fun r hr => ?_, fun r b hr hb _ => ?_, fun _ _ _ _ => rfl, Nat.le_refl _⟩
 ·have : r ≠ L := by simpa using hr
  funext b
  simp [Mdl.free, this]
 ·have : r ≠ L := by simpa using hr
  rw [qeS hH, if_neg this]
 ·exact ⟨r, hr, hb.2⟩
theorem qfw {L : Id} (hB : Base E M w) (hn : notB L = true) : Base E (M.free L) w :=
 ⟨hB.os, hB.tape, hB.output, hB.size, hB.old, fun r s b hr hs => hB.dis _ _ _ hr.2 hs.2, fun r b hr => hB.lt _ _ hr.2, fun r b hr => hB.new _ _ hr.2, fun d b hd => ⟨qaq hn d, hB.bxβ d b hd⟩, fun r b hr => hB.okβ _ _ hr.2, hB.okN, hB.pin⟩
theorem qcM {t : T} (h : nilOk P t = true) : isNilT t = true /\ t ≠ .bad := by
 unfold nilOk at h
 split at h <;> simp_all [isNilT]
theorem qhh {t : T} {L : Id} (h : nilOk P t = true) (hh : M.hd L = .slice none 0 0) : VrG P M w (nilV t L) (.slice none 0 0) := by
 unfold nilOk at h
 unfold nilV
 split at h
 ·rename_i e k
  simp only [beq_iff_eq] at h
  refine ⟨.nums none 0 0 _ _ true [] rfl rfl (by omega) (fun _ => rfl) (Nat.le_refl _) (fun j hj => by omega), fun _ => .nilN _ _ _ _, fun id hid => ?_⟩
  simp at hid
  subst hid
  exact ⟨by simp, hh, World.ownsRow_nil _ _ _ _, h, fun b hb => by simp [Value.ownBlock] at hb⟩
 ·rename_i e
  simp only [bne_iff_ne, ne_eq] at h
  refine ⟨.sl none 0 0 _ true [] (fun _ => undef) rfl rfl (by omega) (fun _ => rfl) (Nat.le_refl _) (fun h => by omega) (fun q hq => by simp at hq) (fun h => by omega) (fun i j hi => by omega), fun _ => .nilS _ _ _, fun id hid => ?_⟩
  simp at hid
  subst hid
  exact ⟨by simp, hh, [], by simpa using World.ownsRow_nil _ _ _ _, Nat.pos_of_ne_zero h, fun b hb => by simp [Value.ownBlock] at hb, fun b hb => by simp [Value.ownBlock] at hb⟩
 ·simp at h
theorem Rel.tell {i : Nat} {t : TV} (hR : Rel P E M S a w) (ht : TVr P M w t (a.tmps.getD i undef)) : Rel P E M { S with tmps := S.tmps.set i t } a w := by
 refine ⟨⟨hR.inv.os, hR.inv.tape, hR.inv.output, hR.inv.size, hR.inv.old, hR.inv.dis, hR.inv.lt, hR.inv.new, hR.inv.bxβ, hR.inv.okβ, hR.inv.okN, hR.inv.pin, hR.inv.boxes⟩, hR.defers, by simpa using hR.size, fun j => ?_⟩
 rw [qgX]
 split
 ·rename_i h
  rw [<- h.1]
  exact ht
 ·exact hR.tmps j
theorem qhG (hR : Rel P E M S a w) (i : Nat) : ∃ M', M'.ok = M.ok /\ Rel P E M' (claimT P S i) a w := by
 unfold claimT
 have ht := hR.tmps i
 split
 ·rename_i x e
  rw [e] at ht
  split
  ·rename_i id ho
   split
   ·exact ⟨M, rfl, hR⟩
   ·exact qed hR rfl rfl ht ho
  ·split
   ·rename_i hn
    obtain ⟨h1, h2⟩ := qcM hn
    have hv := qbo h1 (ht h2).rd
    have hR' := hR.carry (Car.kill (qdb (.l i 0) rfl) hR.inv.base) (qdb (.l i 0) rfl) (qfw hR.inv.base rfl) (fun r hr => by simp at hr; subst hr; rfl) fun _ => rfl
    refine ⟨M.free (.l i 0), rfl, hR'.tell ?_⟩
    rw [hv]
    exact fun _ => qhh hn (by rw [qeS rfl, if_pos rfl])
   ·exact ⟨M, rfl, hR⟩
 ·exact ⟨M, rfl, hR⟩
theorem qhx (hR : Rel P E M S a w) (d j : Nat) : ∃ M', M'.ok = M.ok /\ Rel P E M' (claimC P S d j) a w := by
 unfold claimC
 split
 ·rename_i l hb
  split
  ·rename_i x hx
   obtain ⟨b, h1, cs, ty, h3, h4⟩ := hR.inv.boxes d _ hb
   have hj : j < l.length := (List.getElem?_eq_some_iff.1 hx).1
   have hgx : l.getD j V.bad = x := by rw [List.getD_eq_getElem?_getD, hx]; rfl
   have hvx := h4.2 j hj
   rw [hgx] at hvx
   split
   ·rename_i id ho
    split
    ·exact ⟨M, rfl, hR⟩
    ·exact qed hR rfl rfl hvx ho
   ·split
    ·rename_i hn
     obtain ⟨n1, n2⟩ := qcM hn
     have hv := qbo n1 (hvx n2).rd
     have T := qdb (M := M) (w := w) (.l d (j + 1)) rfl
     have F : Car P M (M.free (.l d (j + 1))) w w (YthocpcfjfgnkgaaGreatRv.kill [.l d (j + 1)]) := Car.kill T hR.inv.base
     have hR' := hR.carry F T (qfw hR.inv.base rfl) (fun r hr => by simp at hr; subst hr; rfl) fun _ => rfl
     refine ⟨M.free (.l d (j + 1)), rfl, ⟨hR'.inv.base.inv fun q y hy => ?_, hR'.defers, hR'.size, fun i => hR'.tmps i⟩⟩
     rw [qq] at hy
     split at hy
     ·rename_i hq
      cases hy
      obtain ⟨rfl, _⟩ := hq
      have hc := h4.car F
      refine ⟨b, h1, cs, ty, h3, by simp [h4.1], fun i hi => ?_⟩
      simp only [List.length_set, List.length_map] at hi
      by_cases hij : j = i
      ·subst hij
       have e1 : ((l.map (YthocpcfjfgnkgaaGreatRv.kill [.l d (j + 1)])).set j (nilV x.t (.l d (j + 1)))).getD j V.bad = nilV x.t (.l d (j + 1)) := by simp [List.getD_eq_getElem?_getD, hj]
       rw [e1, hv]
       exact fun _ => qhh hn (by rw [qeS rfl, if_pos rfl])
      ·have e1 : ((l.map (YthocpcfjfgnkgaaGreatRv.kill [.l d (j + 1)])).set j (nilV x.t (.l d (j + 1)))).getD i V.bad = (l.map (YthocpcfjfgnkgaaGreatRv.kill [.l d (j + 1)])).getD i V.bad := by simp [List.getD_eq_getElem?_getD, List.getElem?_set, hij]
       rw [e1]
       exact hc.2 i (by simpa using hi)
     ·exact hR'.inv.boxes q y hy
    ·exact ⟨M, rfl, hR⟩
  ·exact ⟨M, rfl, hR⟩
 ·exact ⟨M, rfl, hR⟩
theorem qdQ {α : Type} {f : St -> α -> St} (hf : ∀ S x, RelE P E ok S a w -> RelE P E ok (f S x) a w) : ∀ (l : List α) (S : St), RelE P E ok S a w -> RelE P E ok (l.foldl f S) a w
 | [], S, h => h
 | x :: l, S, h => qdQ hf l _ (hf S x h)
def Mdl.drop (M : Mdl) : Mdl := ⟨fun r b => isLoc r = true /\ M.β r b, M.bx, M.hd, M.ok⟩
theorem qiJ (hB : Base E M w) : Base E M.drop w :=
 ⟨hB.os, hB.tape, hB.output, hB.size, hB.old, fun r s b hr hs => hB.dis _ _ _ hr.2 hs.2, fun r b hr => hB.lt _ _ hr.2, fun r b hr => hB.new _ _ hr.2, fun d b hd => ⟨rfl, hB.bxβ d b hd⟩, fun r b hr => hB.okβ _ _ hr.2, hB.okN, hB.pin⟩
theorem qjZ (r : Id) : M.drop.hd r = M.hd r := by cases r <;> rfl
theorem qjH {x : V} {v : Value} (h : Vr P M w x v) : Vr P M.drop w (dropV x) v := by
 unfold dropV
 split
 ·rename_i hl
  refine fun hne => (h hne).move (fun _ _ => rfl) (fun _ _ => rfl) (fun b hb => ⟨hb.1, fun r hr hβ => hb.2.1 r hr hβ.2, hb.2.2⟩) (fun r hr => ?_) fun r _ => qjZ r
  have := List.all_eq_true.1 hl r hr
  funext b
  simp [Mdl.drop, this]
 ·intro hne
  have hne' : x.t ≠ .bad := hne
  refine ⟨(h hne').rd.keep (fun _ _ => rfl) fun b hb => ⟨hb.1, fun r hr hβ => hb.2.1 r (fun hm => hr (List.mem_filter.2 ⟨hm, hβ.1⟩)) hβ.2, hb.2.2⟩, fun h => by simp at h, fun id hid => by simp at hid⟩
theorem qjq (hR : RelE P E ok S a w) : RelE P E ok (S.map dropV) a w := by
 obtain ⟨M, hM, hR⟩ := hR
 have F : Car P M M.drop w w dropV := by
  refine ⟨fun x v h => qjH h, fun x hx => ?_, fun x ad n cap _ _ => ?_⟩
  ·unfold dropV at hx
   split at hx <;> exact hx
  ·unfold dropV
   split <;> rfl
 refine ⟨M.drop, hM, (qiJ hR.inv.base).inv fun q y hy => ?_, hR.defers, by rw [hR.size]; simp [St.map], fun i => ?_⟩
 ·rw [qC] at hy
  cases hb : S.box q with
  | none => simp [hb] at hy
  | some z =>
   simp [hb] at hy
   subst hy
   obtain ⟨b, h1, h2⟩ := hR.inv.boxes q z hb
   exact ⟨b, h1, h2.car F rfl⟩
 ·rw [qD]
  exact (hR.tmps i).car F fun _ _ _ h => h
theorem qjr (keep : List Nat) (hR : RelE P E ok S a w) : RelE P E ok (hold keep S) a w := by
 obtain ⟨M, hM, hR⟩ := hR
 refine ⟨M, hM, hR.inv.base.inv fun q y hy => ?_, hR.defers, by rw [hR.size]; simp [hold], fun i => ?_⟩
 ·unfold hold at hy
  unfold St.box at hy
  simp only [List.getD_eq_getElem?_getD, List.getElem?_map, List.getElem?_zipIdx] at hy
  cases hb : S.boxes[q]? with
  | none => simp [hb] at hy
  | some z =>
   simp only [hb, Option.map_some, Option.getD_some] at hy
   split at hy
   ·refine hR.inv.boxes q y ?_
    unfold St.box
    rw [List.getD_eq_getElem?_getD, hb]
    exact hy
   ·simp at hy
 ·unfold hold St.tmp
  simp only [List.getD_eq_getElem?_getD, List.getElem?_map, List.getElem?_zipIdx]
  cases ht : S.tmps[i]? with
  | none => trivial
  | some t =>
   have h := hR.tmps i
   rw [St.tmp, List.getD_eq_getElem?_getD, ht] at h
   simp only [Option.map_some, Option.getD_some] at h ⊢
   split
   ·split <;> first | trivial | exact h
   ·trivial
theorem qjS {g : List Id} {x : V} {v : Value} (h : Vr P M w x v) : Vr P M w (partV g x) v := by
 unfold partV
 cases hg : (x.own.isSome && !x.t.scalar && x.g.all (g.contains ·)) with
 | false => exact fun hne => (hne rfl).elim
 | true =>
  simp only [Bool.and_eq_true] at hg
  have hsub : ∀ r, r ∈ x.g -> r ∈ g := fun r hr => by simpa using List.all_eq_true.1 hg.2 r hr
  intro hne
  have H := h hne
  refine ⟨H.rd.keep (fun _ _ => rfl) fun b hb => ⟨hb.1, fun r hr hβ => hb.2.1 r (fun hm => hr (hsub r hm)) hβ, hb.2.2⟩, fun h => by simp at h, fun id hid => ?_⟩
  obtain ⟨o1, o2, o3⟩ := H.own id hid
  refine ⟨hsub id o1, o2, ?_⟩
  show Own P M w g id v x.t
  cases ht : x.t with
  | nums e k z l => rw [ht] at o3; exact o3
  | sl e z l =>
   rw [ht] at o3
   obtain ⟨cs, q1, q2, q3, q4⟩ := o3
   exact ⟨cs, q1, q2, q3, fun b hb i j hi hj => (q4 b hb i j hi hj).keep (fun _ _ => rfl) fun q hq => ⟨⟨hq.1.1, fun r hr hβ => hq.1.2.1 r (fun hm => hr (hsub r hm)) hβ, hq.1.2.2⟩, hq.2⟩⟩
  | _ => rw [ht] at o3; exact o3
theorem qjt {g : List Id} {x : V} {v : Value} (h : Vr P M w x v) : Vr P M w (match x.t.scalar with | true => V.s x.t | false => (match x.g.all (g.contains ·) with | true => ⟨x.t, g, false, none⟩ | false => V.bad)) v := by
 cases hs : x.t.scalar with
 | true => exact vr_s (h (qfz hs)).rd hs
 | false =>
  cases hg : x.g.all (g.contains ·) with
  | false => exact fun hne => (hne rfl).elim
  | true =>
   refine fun hne => ⟨(h hne).rd.keep (fun _ _ => rfl) fun b hb => ⟨hb.1, fun r hr hβ => hb.2.1 r (fun hm => hr ?_) hβ, hb.2.2⟩, fun h => by simp at h, fun id hid => by simp at hid⟩
   simpa using List.all_eq_true.1 hg r hm
theorem qge {g : List Id} {x : V} {v : Value} (h : Vr P M w x v) : Vr P M w (weakV g x) v := by
 unfold weakV
 split
 ·exact qjS h
 ·exact qjt h
theorem qjG {g : List Id} {x : V} (h : (weakV g x).t ≠ .bad) : x.t ≠ .bad /\ (weakV g x).t = x.t := by
 unfold weakV at h ⊢
 split at h
 ·unfold partV at h ⊢
  cases hg : (x.own.isSome && !x.t.scalar && x.g.all (_root_.List.contains _ ·)) with
  | false => rw [hg] at h; exact (h rfl).elim
  | true => rw [hg] at h; exact ⟨h, rfl⟩
 ·cases hs : x.t.scalar with
  | true => exact ⟨qfz hs, rfl⟩
  | false =>
   rw [hs] at h
   simp only at h
   split at h
   ·exact ⟨h, rfl⟩
   ·exact (h rfl).elim
theorem qje (g : List Id) : ∀ {t : TV} {v : Value}, TVr P M w t v -> TVr P M w (mapTV (weakV g) t) v := fun h =>
 h.map (fun x v h => qge h) (fun d b h => h) fun x hx => by
  obtain ⟨h1, h2⟩ := qjG hx
  refine ⟨h1, ?_⟩
  rw [h2]
  cases x.t <;> simp
theorem qbg (K : List (Nat × Option (List Id))) : ∀ (ts : List TV) (n i : Nat), (weakTs K n ts).length = ts.length /\ (weakTs K n ts).getD i .undef = (match look none K (n + i) with | some g => mapTV (weakV g) (ts.getD i .undef) | none => ts.getD i .undef)
 | [], n, i => ⟨rfl, by simp only [weakTs, List.getD_nil]; split <;> rfl⟩
 | t :: ts, n, i => by
  refine ⟨by simp [weakTs, (qbg K ts (n + 1) 0).1], ?_⟩
  cases i with
  | zero => simp only [weakTs, List.getD_cons_zero, Nat.add_zero]; rfl
  | succ i =>
   simp only [weakTs, List.getD_cons_succ]
   rw [(qbg K ts (n + 1) i).2, show n + 1 + i = n + (i + 1) by omega]
theorem qdW : ∀ (fs : List (Option (List Id))) (l : List V), (weakCs fs l).length = l.length /\ ∀ i, i < l.length -> ∃ f : V -> V, (f = id ∨ ∃ g, f = weakV g) /\ (weakCs fs l).getD i V.bad = f (l.getD i V.bad)
 | [], l => ⟨by unfold weakCs; cases l <;> rfl, fun i hi => ⟨id, .inl rfl, by unfold weakCs; cases l <;> rfl⟩⟩
 | f :: fs, [] => ⟨rfl, fun i hi => by simp at hi⟩
 | f :: fs, x :: xs => by
  obtain ⟨h1, h2⟩ := qdW fs xs
  refine ⟨by simp [weakCs, h1], fun i hi => ?_⟩
  cases i with
  | zero =>
   cases f with
   | none => exact ⟨id, .inl rfl, rfl⟩
   | some g => exact ⟨weakV g, .inr ⟨g, rfl⟩, rfl⟩
  | succ i =>
   simp only [weakCs, List.getD_cons_succ]
   exact h2 i (by simpa using hi)
theorem qel (K : List (Nat × List (Option (List Id)))) : ∀ (bs : List (Option Box)) (n i : Nat), (weakBs K n bs).getD i none = (match bs.getD i none with | some (.cells l) => some (.cells (weakCs (look [] K (n + i)) l)) | b => b)
 | [], n, i => by simp [weakBs]
 | b :: bs, n, i => by
  cases i with
  | zero => simp only [weakBs, List.getD_cons_zero, Nat.add_zero]; rfl
  | succ i =>
   simp only [weakBs, List.getD_cons_succ]
   rw [qel K bs (n + 1) i, show n + 1 + i = n + (i + 1) by omega]
theorem qhM (K : Keep) (hR : RelE P E ok S a w) : RelE P E ok (weaken K S) a w := by
 obtain ⟨M, hM, hR⟩ := hR
 refine ⟨M, hM, hR.inv.base.inv fun q y hy => ?_, hR.defers, by rw [hR.size]; exact ((qbg K.slots S.tmps 0 0).1).symm, fun i => ?_⟩
 ·unfold weaken St.box at hy
  rw [qel] at hy
  cases hb : S.boxes.getD q none with
  | none => rw [hb] at hy; simp at hy
  | some z =>
   rw [hb] at hy
   obtain ⟨b, h1, h2⟩ := hR.inv.boxes q z hb
   cases z with
   | arr k m l => simp at hy; subst hy; exact ⟨b, h1, h2⟩
   | cells l =>
    simp only [Option.some.injEq] at hy
    subst hy
    obtain ⟨cs, ty, h3, h4, h5⟩ := h2
    obtain ⟨e1, e2⟩ := qdW (look [] K.cells (0 + q)) l
    refine ⟨b, h1, cs, ty, h3, by rw [e1, h4], fun i hi => ?_⟩
    rw [e1] at hi
    obtain ⟨f, hf, e3⟩ := e2 i hi
    rw [e3]
    rcases hf with rfl | ⟨g, rfl⟩
    ·exact h5 i hi
    ·exact qge (h5 i hi)
 ·unfold weaken St.tmp
  rw [(qbg K.slots S.tmps 0 i).2]
  split
  ·exact qje _ (hR.tmps i)
  ·exact hR.tmps i
theorem qdx (d : Nat) : ∀ (fs : List (Option (List Id))) (j : Nat) (S : St), RelE P E ok S a w -> RelE P E ok (claimCs P S d j fs) a w
 | [], j, S, h => h
 | f :: fs, j, S, h => by
  simp only [claimCs]
  refine qdx d fs (j + 1) _ ?_
  have hc : RelE P E ok (claimC P S d j) a w := by
   obtain ⟨M, hM, h⟩ := h
   obtain ⟨M', h1, h2⟩ := qhx h d j
   exact ⟨M', h1.trans hM, h2⟩
  split
  ·exact hc
  ·exact hc
  ·exact h
theorem qdE (K : Keep) (hR : RelE P E ok S a w) : RelE P E ok (norm P K S) a w := by
 unfold norm
 refine qhM K (qjq (qdQ (fun S c h => qdx _ _ _ _ h) _ _ (qdQ (fun S s h => ?_) _ _ (qjr _ hR))))
 have hc : RelE P E ok (claimT P S s.1) a w := by
  obtain ⟨M, hM, h⟩ := h
  obtain ⟨M', h1, h2⟩ := qhG h s.1
  exact ⟨M', h1.trans hM, h2⟩
 split
 ·exact hc
 ·exact hc
 ·exact h
end
section
variable {P : Program} {S : St} {a : Act} {w : World} {E : Env} {C : CallSem} {R : Type} {ok : OkT}
def exOf : Ex -> Exit
 | .normal => .normal
 | .exit i => .exit i
 | .ret => .ret
end
section
variable {P : Program} {w : World} {A : Nat -> Prop} {H : Hand} {args : List Arg} {vs : Array Value}
def okE (A : Nat -> Prop) (w : World) (args : List Arg) (H : Hand) : OkT := ⟨fun b => A b ∨ w.heap.size <= b ∨ Handed args H b, fun _ => undef⟩
def Mdl.entry (args : List Arg) (H : Hand) (w : World) (A : Nat -> Prop) : Mdl :=
  ⟨fun r b => match r with | .b i => isBox args i /\ b = H.bk i | .l i (j + 1) => isBox args i /\ H.cs i j b | _ => False,
   fun i => match args[i]? with | some (.box _) => some (H.bk i) | _ => none,
   fun r => match r with | .l i (j + 1) => (match w.heap[H.bk i]? with | some (.cells cs _ _) => cs.getD j undef | _ => undef) | _ => undef,
   okE A w args H⟩
def Env.entry (args : List Arg) (H : Hand) (w : World) : Env := ⟨w, Handed args H, args.length, fun i => match args[i]? with | some (.box _) => some (H.bk i) | _ => none⟩
theorem qau {r : Id} {b : Nat} (h : (Mdl.entry args H w A).β r b) : Handed args H b := by
 cases r with
 | b i => exact ⟨i, h.1, .inl h.2⟩
 | l i j =>
  cases j with
  | zero => exact h.elim
  | succ j => exact ⟨i, h.1, .inr ⟨j, h.2⟩⟩
 | n d j => exact h.elim
 | h j => exact h.elim
theorem qdZ (h : ArgsR P w A H args vs) : Base (Env.entry args H w) (Mdl.entry args H w A) w := by
 refine ⟨rfl, rfl, rfl, Nat.le_refl _, fun b _ _ => rfl, fun r s b hr hs => ?_, fun r b hr => h.lt b (qau hr), fun r b hr => .inr (qau hr), fun d b hd => ?_, fun r b hr => Or.inr (Or.inr (qau hr)), ⟨fun b hb => Or.inr (Or.inl hb), h.gl, fun b hb => ⟨(h.A b (h.glA b hb)).1, (h.A b (h.glA b hb)).2, Or.inl (h.glA b hb)⟩⟩, ⟨fun d b hd => ⟨?_, hd⟩, fun d b hd => .inl ?_⟩⟩
 ·cases r with
  | n d j => exact hr.elim
  | h j => exact hr.elim
  | b i =>
   cases s with
   | n d j => exact hs.elim
   | h j => exact hs.elim
   | b i' => rw [h.d1 i i' hr.1 hs.1 (hr.2.symm.trans hs.2)]
   | l i' j' =>
    cases j' with
    | zero => exact hs.elim
    | succ j' => exact (h.d3 i' i j' hs.1 hr.1 (hr.2 ▸ hs.2)).elim
  | l i j =>
   cases j with
   | zero => exact hr.elim
   | succ j =>
    cases s with
    | n d j => exact hs.elim
    | h j => exact hs.elim
    | b i' => exact (h.d3 i i' j hr.1 hs.1 (hs.2 ▸ hr.2)).elim
    | l i' j' =>
     cases j' with
     | zero => exact hs.elim
     | succ j' =>
      obtain ⟨e1, e2⟩ := h.d2 i i' j j' b hr.1 hs.1 hr.2 hs.2
      rw [e1, e2]
 ·simp only [Mdl.entry] at hd
  split at hd
  ·rename_i l hl
   cases hd
   exact ⟨⟨l, hl⟩, rfl⟩
  ·simp at hd
 ·simp only [Env.entry] at hd ⊢
  split at hd
  ·rename_i l hl
   exact (List.getElem?_eq_some_iff.1 hl).1
  ·simp at hd
 ·simp only [Mdl.entry, Env.entry] at hd ⊢
  split at hd
  ·rename_i l hl
   exact (List.getElem?_eq_some_iff.1 hl).1
  ·simp at hd
theorem qdr (h : ArgsR P w A H args vs) (g : List Id) : ∀ b, A b -> avoid (Mdl.entry args H w A) w g b := fun b hb =>
 ⟨(h.A b hb).1, fun r _ hβ => (h.A b hb).2 (qau hβ), Or.inl hb⟩
theorem qca (i : Nat) : ∀ (l : List (T × Bool)) (j : Nat), (entryCells i j l).length = l.length /\ ∀ q, q < l.length -> (entryCells i j l).getD q V.bad = (match (l.getD q (.bad, false)).1.scalar with
  | true => V.s (l.getD q (.bad, false)).1
  | false => (match (l.getD q (.bad, false)).2 with | true => ⟨(l.getD q (.bad, false)).1, [.l i (j + q)], true, some (.l i (j + q))⟩ | false => ⟨(l.getD q (.bad, false)).1, [], false, none⟩))
 | [], j => ⟨rfl, fun q hq => by simp at hq⟩
 | (t, own) :: rest, j => by
  obtain ⟨h1, h2⟩ := qca i rest (j + 1)
  refine ⟨by simp [entryCells, h1], fun q hq => ?_⟩
  cases q with
  | zero => simp only [entryCells, List.getD_cons_zero]; cases t.scalar <;> cases own <;> rfl
  | succ q =>
   simp only [entryCells, List.getD_cons_succ]
   rw [h2 q (by simpa using hq), show j + 1 + q = j + (q + 1) by omega]
theorem qgN (h : ArgsR P w A H args vs) {i : Nat} {l : List (T × Bool)} (hl : args[i]? = some (.box l)) {cs : Array Value} {ty : TypeId} (hh : w.heap[H.bk i]? = some (.cells cs ty (0, 0))) (hs : cs.size = l.length)
  (hc : ∀ j, j < l.length -> CellR P w A (H.cs i j) (l.getD j (.bad, false)) (cs.getD j undef)) : VrL P (Mdl.entry args H w A) w (entryCells i 1 l) cs := by
 have hB := qdZ h
 have hib : isBox args i := ⟨l, hl⟩
 obtain ⟨e1, e2⟩ := qca i l 1
 refine ⟨by rw [e1, hs], fun j hj => ?_⟩
 rw [e1] at hj
 rw [e2 j hj]
 have hcj := hc j hj
 have hvj : (Mdl.entry args H w A).hd (.l i (j + 1)) = cs.getD j undef := by simp [Mdl.entry, hd_l, hh]
 generalize cs.getD j undef = v at hcj hvj
 generalize l.getD j (.bad, false) = c at hcj
 obtain ⟨t, own⟩ := c
 unfold CellR at hcj
 simp only at hcj ⊢
 cases hsc : t.scalar with
 | true =>
  rw [hsc] at hcj
  simp at hcj
  exact vr_s hcj hsc
 | false =>
  cases own with
  | true =>
   rw [hsc] at hcj
   simp at hcj
   obtain ⟨q1, q2, q3⟩ := hcj
   refine fun _ => qcz hB.okβ hB.dis q1 q2 q3 (by simp) (fun b hb => ?_) (fun b hb => h.lt b ⟨i, hib, .inr ⟨j, hb⟩⟩) ?_
   ·rw [Nat.add_comm]
    exact ⟨hib, hb⟩
   ·rw [Nat.add_comm]
    exact hvj
  | false =>
   rw [hsc] at hcj
   simp at hcj
   exact fun _ => ⟨hcj.keep (fun _ _ => rfl) (qdr h []), fun h => by simp at h, fun id hid => by simp at hid⟩
theorem qiQ (h : ArgsR P w A H args vs) {i : Nat} {x : Arg} (hx : args[i]? = some x) : TVr P (Mdl.entry args H w A) w (entryTV i x) (vs.getD i undef) := by
 have ha := h.arg i x hx
 have av := qdr h []
 cases x with
 | own t => exact ha.elim
 | box l =>
  exact ⟨H.bk i, by simp [Mdl.entry, hx], ha.1⟩
 | v t =>
  have ha' : Rd P w A (vs.getD i undef) t := ha
  have hk : Rd P w (avoid (Mdl.entry args H w A) w []) (vs.getD i undef) t := ha'.keep (fun _ _ => rfl) av
  cases t with
  | agg l =>
   generalize vs.getD i undef = v at hk
   cases hk with
   | agg us _ hn hr =>
    refine ⟨us, rfl, by simp [hn], fun j hj => ?_⟩
    have hj' : j < l.length := by simpa using hj
    have := hr j hj'
    have e : (l.map fun t => V.of t []).getD j V.bad = V.of (l.getD j .bad) [] := by simp [List.getD_eq_getElem?_getD, hj']
    rw [e]
    exact qfJ this
  | ptr l =>
   generalize vs.getD i undef = v at hk
   cases hk with
   | ptr ad _ c hA hc hr =>
    intro _
    refine ⟨ad, ⟨.ptr ad l c hA hc hr, fun h => by simp at h, fun id hid => by simp at hid⟩, ?_⟩
    simp [Addr.add]
  | _ => exact qfJ hk
theorem qit {fn : Func} (h : ArgsR P w A H args vs) (hn : args.length <= fn.ntmps) :
  Rel P (Env.entry args H w) (Mdl.entry args H w A) (entry fn args) { tmps := vs ++ Array.replicate (fn.ntmps - vs.size) undef, defers := [] } w := by
 have hB := qdZ h
 have hsz := h.size
 refine ⟨hB.inv fun q y hy => ?_, ⟨rfl, rfl⟩, by simp [entry, hsz], fun i => ?_⟩
 ·unfold entry St.box at hy
  simp only [List.getD_eq_getElem?_getD] at hy
  rw [List.getElem?_append] at hy
  split at hy
  ·simp only [List.getElem?_map, List.getElem?_zipIdx] at hy
   cases hq : args[q]? with
   | none => simp [hq] at hy
   | some x =>
    simp only [hq, Option.map_some, Option.getD_some, Nat.zero_add] at hy
    cases x with
    | box l =>
     simp only [entryBox, Option.some.injEq] at hy
     subst hy
     obtain ⟨h1, cs, ty, h2, h3, h4⟩ := h.arg q _ hq
     exact ⟨H.bk q, by simp [Mdl.entry, hq], cs, ty, h2, qgN h hq h2 h3 h4⟩
    | v t => simp [entryBox] at hy
    | own t => simp [entryBox] at hy
  ·rw [List.getElem?_replicate] at hy
   split at hy <;> simp at hy
 ·unfold entry St.tmp
  simp only [List.getD_eq_getElem?_getD, Array.getD_eq_getD_getElem?]
  by_cases hi : i < args.length
  ·rw [List.getElem?_append_left (by simpa using hi), Array.getElem?_append_left (by omega)]
   simp only [List.getElem?_map, List.getElem?_zipIdx, List.getElem?_eq_getElem hi, Option.map_some, Option.getD_some, Nat.zero_add]
   have := qiQ h (i := i) (x := args[i]) (by simp [hi])
   rwa [Array.getD_eq_getD_getElem?] at this
  ·rw [List.getElem?_append_right (by simpa using hi), List.getElem?_replicate]
   split <;> trivial
end
section
variable {P : Program} {M : Mdl} {w w' : World} {S : St} {a : Act} {A : Nat -> Prop} {H : Hand} {args : List Arg} {vs : Array Value}
def plainV (P : Program) (x : V) : Bool := x.t.scalar || (x.own.isNone && nilOk P x.t)
theorem qav : ∀ (l : List V) (u : List Id) (ms : List Bool), (flagVs P u ms l).1.length = l.length /\ (∀ r ∈ u, r ∈ (flagVs P u ms l).2) /\
  (∀ j, j < l.length -> ((flagVs P u ms l).1.getD j (.bad, false)).1 = (l.getD j V.bad).t /\
   (plainV P (l.getD j V.bad) = false -> ((flagVs P u ms l).1.getD j (.bad, false)).2 = true -> (l.getD j V.bad).sep = true /\ (l.getD j V.bad).own.isSome = true /\ (l.getD j V.bad).g.all notB = true /\ (∀ r ∈ (l.getD j V.bad).g, r ∉ u) /\ ∀ r ∈ (l.getD j V.bad).g, r ∈ (flagVs P u ms l).2)) /\
  (∀ i j, i < j -> j < l.length -> plainV P (l.getD i V.bad) = false -> ((flagVs P u ms l).1.getD i (.bad, false)).2 = true -> plainV P (l.getD j V.bad) = false -> ((flagVs P u ms l).1.getD j (.bad, false)).2 = true -> ∀ r ∈ (l.getD j V.bad).g, r ∉ (l.getD i V.bad).g)
 | [], u, ms => ⟨rfl, fun r h => h, fun j hj => by simp at hj, fun i j _ hj => by simp at hj⟩
 | x :: xs, u, ms => by
  obtain ⟨h1, h2, h3, h4⟩ := qav xs (flagV P u (ms.headD true) x).2 ms.tail
  have hu : ∀ r ∈ u, r ∈ (flagV P u (ms.headD true) x).2 := fun r hr => by
   unfold flagV
   split
   ·exact hr
   ·split
    ·exact hr
    ·split
     ·split
      ·exact List.mem_append_right _ hr
      ·exact hr
     ·split <;> exact hr
  have h0 : (flagV P u (ms.headD true) x).1.1 = x.t := by
   unfold flagV
   split
   ·rfl
   ·split
    ·rfl
    ·split
     ·split <;> rfl
     ·split <;> rfl
  have hq : plainV P x = false -> (flagV P u (ms.headD true) x).1.2 = true -> x.sep = true /\ x.own.isSome = true /\ x.g.all notB = true /\ (∀ r ∈ x.g, r ∉ u) /\ ∀ r ∈ x.g, r ∈ (flagV P u (ms.headD true) x).2 := fun h h' => by
   unfold flagV plainV at *
   simp only [Bool.or_eq_false_iff] at h
   rw [h.1] at h' ⊢
   simp only at h' ⊢
   split at h'
   ·simp at h'
   ·cases ho : x.own with
    | none =>
     have h2 := h.2
     rw [ho] at h2 h'
     simp at h2
     rw [h2] at h'
     simp at h'
    | some id =>
     rw [ho] at h'
     simp only at h' ⊢
     split at h'
     ·rename_i hc
      simp only [Bool.and_eq_true, Bool.not_eq_true'] at hc
      exact ⟨hc.1.1, rfl, hc.2, fun r hr => qU hc.1.2 r hr, fun r hr => by simp [hr]⟩
     ·simp at h'
  refine ⟨by rw [flagVs, List.length_cons, List.length_cons]; exact congrArg (· + 1) h1, fun r hr => h2 r (hu r hr), fun j hj => ?_, fun i j hij hj => ?_⟩
  ·cases j with
   | zero =>
    simp only [flagVs, List.getD_cons_zero]
    refine ⟨h0, fun a b => ?_⟩
    obtain ⟨q1, q2, q3, q4, q5⟩ := hq a b
    exact ⟨q1, q2, q3, q4, fun r hr => h2 r (q5 r hr)⟩
   | succ j =>
    simp only [flagVs, List.getD_cons_succ]
    obtain ⟨p1, p3⟩ := h3 j (by simpa using hj)
    refine ⟨p1, fun a b => ?_⟩
    obtain ⟨q1, q2, q3, q4, q5⟩ := p3 a b
    exact ⟨q1, q2, q3, fun r hr hm => q4 r hr (hu r hm), q5⟩
  ·cases j with
   | zero => omega
   | succ j =>
    cases i with
    | succ i =>
     simp only [flagVs, List.getD_cons_succ]
     exact h4 i j (by omega) (by simpa using hj)
    | zero =>
     simp only [flagVs, List.getD_cons_succ, List.getD_cons_zero]
     intro a b c d r hr hm
     exact ((h3 j (by simpa using hj)).2 c d).2.2.2.1 r hr ((hq a b).2.2.2.2 r hm)
theorem qcT {u : List Id} : ∀ {l : List V} {fs : List (T × Bool)}, sharedOk u l fs = true -> fs.length = l.length -> ∀ j, j < l.length -> (fs.getD j (.bad, false)).2 = false -> ∀ r ∈ (l.getD j V.bad).g, r ∉ u
 | [], fs, _, _, j, hj => by simp at hj
 | x :: xs, [], _, h, j, hj => by simp at h
 | x :: xs, f :: fs, h, hl, j, hj => by
  simp only [sharedOk, Bool.and_eq_true, Bool.or_eq_true, Bool.not_eq_true'] at h
  cases j with
  | zero =>
   simp only [List.getD_cons_zero]
   intro hf r hr
   rcases h.1 with h | h
   ·rw [h] at hf; simp at hf
   ·exact qU h r hr
  | succ j =>
   simp only [List.getD_cons_succ]
   exact qcT h.2 (by simpa using hl) j (by simpa using hj)
def outG (P : Program) (M : Mdl) (all : List V) (fs : List (T × Bool)) (j b : Nat) : Prop :=
 j < all.length /\ (fs.getD j (.bad, false)).2 = true /\ plainV P (all.getD j V.bad) = false /\ inside M (all.getD j V.bad).g b
structure Fin (P : Program) (M : Mdl) (w w' : World) (A : Nat -> Prop) (H : Hand) (args : List Arg) (all : List V) (fs : List (T × Bool)) (bz : Bool) (mask : List Bool) : Prop where
 fe : fs = (flagVs P [] mask all).1
 bad : all.any (·.t.isBad) = false
 sh : sharedOk (flagVs P [] mask all).2 all fs = true
 far : all.all (fun x => x.g.all (farB args.length)) = true
 nb : bz = true -> all.all (fun x => x.g.all notB) = true
 base : Base (Env.entry args H w) M w'
 ok : M.ok = okE A w args H
def outZ (M : Mdl) (np : Nat) (bz : Bool) (q : Nat) : Prop := bz = true /\ ∃ d, M.bx d = some q /\ np <= d
theorem Fin.pin {all : List V} {fs : List (T × Bool)} {bz : Bool} {mask : List Bool} (F : Fin P M w w' A H args all fs bz mask) {i : Nat} (hi : isBox args i) : M.β (.b i) (H.bk i) /\ i < args.length := by
 obtain ⟨l, hl⟩ := hi
 have h := F.base.pin.1 i (H.bk i) (by simp [Env.entry, hl])
 exact ⟨F.base.bxβ _ _ h.2, h.1⟩
theorem Fin.cell {all : List V} {fs : List (T × Bool)} {bz : Bool} {mask : List Bool} (F : Fin P M w w' A H args all fs bz mask) {j : Nat} (hj : j < all.length) {v : Value} (hv : Vr P M w' (all.getD j V.bad) v) :
  CellR P w' (restA w w' A H args (outG P M all fs) (outZ M args.length bz)) (outG P M all fs j) (fs.getD j (.bad, false)) v := by
 have hne := qbZ F.bad hj
 have hvr := hv hne
 obtain ⟨f1, f2, f3, f4⟩ := qav (P := P) all [] mask
 have hfs := F.fe
 rw [<- hfs] at f1 f3 f4
 obtain ⟨p1, p3⟩ := f3 j hj
 have hB := F.base
 unfold CellR
 cases hc : (fs.getD j (.bad, false)).2 && !(fs.getD j (.bad, false)).1.scalar with
 | false =>
  simp only
  rw [p1]
  by_cases hs : (all.getD j V.bad).t.scalar = true
  ·exact hvr.rd.any hs _
  ·have hfl : (fs.getD j (.bad, false)).2 = false := by
    cases hb : (fs.getD j (.bad, false)).2 with
    | false => rfl
    | true => rw [hb, p1, Bool.eq_false_iff.2 hs] at hc; simp at hc
   refine hvr.rd.keep (fun _ _ => rfl) fun b hb => ⟨?_, hb.1, fun i hi => ?_, fun i hi e => ?_, fun hz => ?_⟩
   ·have := hb.2.2
    rw [F.ok] at this
    exact this
   ·obtain ⟨q1, q2, q3, r, q4, q5⟩ := hi
    refine hb.2.1 r (fun hm => ?_) q5
    exact qcT F.sh f1 j hj hfl r hm (((f3 i q1).2 q3 q2).2.2.2.2 r q4)
   ·obtain ⟨q1, q2⟩ := F.pin hi
    refine hb.2.1 _ (fun hm => ?_) (e ▸ q1)
    have := List.all_eq_true.1 F.far (all.getD j V.bad) (by rw [List.getD_eq_getElem?_getD, List.getElem?_eq_getElem hj]; simp)
    have := List.all_eq_true.1 this _ hm
    simp [farB] at this
    omega
   ·obtain ⟨z1, d, z2, z3⟩ := hz
    refine hb.2.1 _ (fun hm => ?_) (hB.bxβ d b z2)
    have := List.all_eq_true.1 (F.nb z1) (all.getD j V.bad) (by rw [List.getD_eq_getElem?_getD, List.getElem?_eq_getElem hj]; simp)
    have := List.all_eq_true.1 this _ hm
    simp [notB] at this
 | true =>
  simp only [Bool.and_eq_true, Bool.not_eq_true'] at hc
  simp only
  rw [p1] at hc ⊢
  cases hpl : plainV P (all.getD j V.bad) with
  | true =>
   unfold plainV at hpl
   rw [hc.2, Bool.false_or, Bool.and_eq_true] at hpl
   replace hpl := hpl.2
   have hn := (qcM hpl).1
   have hv0 := qbo hn hvr.rd
   subst hv0
   unfold nilOk at hpl
   split at hpl
   ·rename_i e k heq
    rw [heq]
    simp only [beq_iff_eq] at hpl
    exact ⟨.nums none 0 0 _ _ true [] rfl rfl (by omega) (fun _ => rfl) (Nat.le_refl _) (fun j hj => by omega), .nilN _ _ _ _, World.ownsRow_nil _ _ _ _, hpl, fun b hb => by simp [Value.ownBlock] at hb⟩
   ·rename_i e heq
    rw [heq]
    simp only [bne_iff_ne, ne_eq] at hpl
    exact ⟨.sl none 0 0 _ true [] (fun _ => undef) rfl rfl (by omega) (fun _ => rfl) (Nat.le_refl _) (fun h => by omega) (fun q hq => by simp at hq) (fun h => by omega) (fun i j hi => by omega), .nilS _ _ _, ⟨[], by simpa using World.ownsRow_nil _ _ _ _⟩, Nat.pos_of_ne_zero hpl, fun b hb => by simp [Value.ownBlock] at hb⟩
   ·simp at hpl
  | false =>
   obtain ⟨q1, q2, q3, _, q5⟩ := p3 hpl hc.1
   have hin : ∀ b, inside M (all.getD j V.bad).g b -> outG P M all fs j b := fun b hb => ⟨hj, hc.1, hpl, hb⟩
   have hs := hvr.sep q1
   obtain ⟨id, hid⟩ := Option.isSome_iff_exists.1 q2
   obtain ⟨o1, o2, o3⟩ := hvr.own id hid
   refine ⟨(hvr.rd.inside hs).keep (fun _ _ => rfl) hin, hs.mono hin, ?_⟩
   have hb0 : ∀ b, M.β id b -> outG P M all fs j b := fun b hb => hin b ⟨id, o1, hb⟩
   generalize (all.getD j V.bad).t = t at o3
   cases t with
   | nums e k z l => exact ⟨o3.1, o3.2.1, fun b hb => hb0 b (o3.2.2 b hb)⟩
   | sl e z l =>
    obtain ⟨cs, c1, c2, c3, c4⟩ := o3
    exact ⟨⟨cs, c1⟩, c2, fun b hb => hb0 b (c3 b hb)⟩
   | _ => exact o3.elim
theorem Fin.g {all : List V} {fs : List (T × Bool)} {bz : Bool} {mask : List Bool} (F : Fin P M w w' A H args all fs bz mask) : (∀ j b, outG P M all fs j b -> (w.heap.size <= b ∨ Handed args H b) /\ b < w'.heap.size /\ ∀ i, isBox args i -> b ≠ H.bk i) /\ ∀ i j b, outG P M all fs i b -> outG P M all fs j b -> i = j := by
 obtain ⟨f1, f2, f3, f4⟩ := qav (P := P) all [] mask
 rw [<- F.fe] at f1 f3 f4
 refine ⟨fun j b ⟨h1, h2, h3, r, h4, h5⟩ => ⟨F.base.new r b h5, F.base.lt r b h5, fun i hi e => ?_⟩, fun i j b ⟨h1, h2, h3, r, h4, h5⟩ ⟨k1, k2, k3, s, k4, k5⟩ => ?_⟩
 ·subst e
  have := List.all_eq_true.1 ((f3 j h1).2 h3 h2).2.2.1 r h4
  rw [F.base.dis _ _ _ h5 (F.pin hi).1] at this
  simp [notB] at this
 ·have e := F.base.dis _ _ _ h5 k5
  subst e
  rcases Nat.lt_trichotomy i j with h | h | h
  ·exact (f4 i j h k1 h3 h2 k3 k2 r k4 h4).elim
  ·exact h
  ·exact (f4 j i h h1 k3 k2 h3 h2 r h4 k4).elim
end
section
variable {P : Program} {M : Mdl} {w w' : World} {S : St} {a : Act} {E : Env} {A : Nat -> Prop} {H : Hand} {args : List Arg} {C : CallSem}
def resM (tmps : Array Value) : ResultVar -> Sem Value
 | .tmp t => pure (tmps.getD t undef)
 | .cell a t => do loadVar t (<- asAddr (tmps.getD a undef))
theorem qgg {α β : Type} {f : α -> Sem β} (g : Nat -> β) : ∀ (as : List α) (k : Nat), (∀ i (hi : i < as.length), (f as[i]).run P w = .ok (g (k + i)) w) -> (as.mapM f).run P w = .ok ((List.range as.length).map fun j => g (k + j)) w
 | [], k, h => by simp
 | x :: as, k, h => by
  have h0 := h 0 (by simp)
  have h1 := qgg g as (k + 1) fun i hi => by
   have := h (i + 1) (by simpa using hi)
   rw [show k + 1 + i = k + (i + 1) by omega]
   simpa using this
  simp only [List.getElem_cons_zero] at h0
  simp only [List.mapM_cons, Sem.run_bind, h0, Result.andThen_ok, h1, Sem.run_pure, List.length_cons, List.range_succ_eq_map, List.map_cons, List.map_map]
  congr 2
  apply List.map_congr_left
  intro j _
  show g (k + 1 + j) = g (k + (j + 1))
  congr 1
  omega
theorem qO {α : Type} (l m : List α) (d : α) {j : Nat} (h : j < l.length) : (l ++ m).getD j d = l.getD j d := by
 simp [List.getD_eq_getElem?_getD, List.getElem?_append_left h]
theorem getD_app' {α : Type} (l m : List α) (d : α) (j : Nat) : (l ++ m).getD (l.length + j) d = m.getD j d := by
 rw [List.getD_eq_getElem?_getD, List.getElem?_append_right (by omega), List.getD_eq_getElem?_getD]
 congr 2
 omega
theorem qdu {fn : Func} {tmps : Array Value} (vs : List Value) (hl : vs.length = fn.results.size) (h : ∀ i (hi : i < fn.results.size), (resM tmps fn.results[i]).run P w = .ok (vs.getD i undef) w) :
  (results fn tmps).run P w = .ok (retV vs) w := by
 have e : results fn tmps = (do let vs <- fn.results.mapM (resM tmps); pure (if h : vs.size = 1 then vs[0] else .tuple vs)) := by
  unfold results
  rfl
 have hm := qgg (f := resM tmps) (fun i => vs.getD i undef) fn.results.toList 0 (fun i hi => by simpa using h i (by simpa using hi))
 have hv : ((List.range fn.results.toList.length).map fun j => vs.getD (0 + j) undef) = vs := by
  apply List.ext_getElem (by simp [hl])
  intro i i1 i2
  simp [List.getD_eq_getElem?_getD, i2]
 rw [hv] at hm
 have hm' : (fn.results.mapM (resM tmps)).run P w = .ok vs.toArray w := by
  have e0 : fn.results = fn.results.toList.toArray := by simp
  rw [e0, List.mapM_toArray]
  simp [hm]
 rw [e]
 simp only [Sem.run_bind, hm', Result.andThen_ok, Sem.run_pure]
 match vs with
 | [] => rfl
 | [v] => rfl
 | _ :: _ :: _ => simp [retV]
def RvR (P : Program) (M : Mdl) (w : World) (np : Nat) : Nat × List V -> Value -> Prop
 | (0, l), v => ∃ x, l = [x] /\ Vr P M w x v
 | (1, l), v => ∃ us, v = .agg us /\ VrL P M w l us
 | (2, l), v => ∃ d b cs ty, np <= d /\ M.bx d = some b /\ v = .pointer (some ⟨b, 0, none⟩) /\ w.heap[b]? = some (.cells cs ty (0, 0)) /\ VrL P M w l cs
 | _, _ => False
theorem qdm (hR : Rel P E M S a w) {r : ResultVar} {tv : TV} (h : resTV P S r = .ret tv) : ∃ v, (resM a.tmps r).run P w = .ok v w /\ TVr P M w tv v := by
 cases r with
 | tmp t =>
  simp only [resTV, Tr.ret.injEq] at h
  subst h
  exact ⟨_, rfl, hR.tmps t⟩
 | cell q t =>
  simp only [resTV] at h
  split at h
  ·rename_i d off hq
   have ht := hR.tmps q
   rw [hq] at ht
   have hg : (loadTV P S t (.bp d off)).go (fun _ _ => (⟨(none : Option Unit), fun _ => ⟨[], []⟩⟩ : Ans)) some = some tv := by rw [h]; rfl
   obtain ⟨tv', u, h1, h2, h3⟩ := qea hR.inv ht hg
   cases h1
   obtain ⟨b, h4, h5⟩ := ht
   refine ⟨u, ?_, h3⟩
   rw [h5] at h2
   simp only [resM, h5, asAddr, Sem.run_bind, Sem.run_pure, Result.andThen_ok]
   simpa [Instr.loadAt, Instr.sureAddr] using h2
  ·simp at h
theorem qkb (hR : Rel P E M S a w) {np : Nat} {r : ResultVar} {k : Nat × List V} (h : retOf P S np r = some k) : ∃ v, (resM a.tmps r).run P w = .ok v w /\ RvR P M w np k v := by
 unfold retOf at h
 split at h
 ·rename_i x hx
  obtain ⟨v, h1, h2⟩ := qdm hR hx
  cases h
  exact ⟨v, h1, x, rfl, h2⟩
 ·rename_i l hx
  obtain ⟨v, h1, h2⟩ := qdm hR hx
  cases h
  exact ⟨v, h1, h2⟩
 ·rename_i d hx
  obtain ⟨v, h1, b, h2, h3⟩ := qdm hR hx
  split at h
  ·rename_i l hl
   split at h
   ·simp at h
   ·rename_i hd
    cases h
    obtain ⟨b', q1, cs, ty, q2, q3⟩ := hR.inv.boxes d _ hl
    rw [h2] at q1
    cases q1
    exact ⟨v, h1, d, b, cs, ty, by simpa using hd, h2, h3, q2, q3⟩
  ·simp at h
 ·simp at h
theorem qfX (hR : Rel P E M S a w) {np : Nat} : ∀ {rv : List ResultVar} {rs : List (Nat × List V)}, retsOf P S np rv = some rs -> rs.length = rv.length /\ ∃ vs : List Value, vs.length = rv.length /\ (∀ i (hi : i < rv.length), (resM a.tmps rv[i]).run P w = .ok (vs.getD i undef) w) /\ ∀ i, i < rv.length -> RvR P M w np (rs.getD i (0, [])) (vs.getD i undef)
 | [], rs, h => by
  simp [retsOf] at h
  subst h
  exact ⟨rfl, [], rfl, fun i hi => by simp at hi, fun i hi => by simp at hi⟩
 | r :: rv, rs, h => by
  simp only [retsOf] at h
  split at h
  ·rename_i x y hx hy
   cases h
   obtain ⟨v, h1, h2⟩ := qkb hR hx
   obtain ⟨h3, vs, h4, h5, h6⟩ := qfX hR hy
   refine ⟨by simp [h3], v :: vs, by simp [h4], fun i hi => ?_, fun i hi => ?_⟩
   ·cases i with
    | zero => simpa using h1
    | succ i => simpa using h5 i (by simpa using hi)
   ·cases i with
    | zero => simpa using h2
    | succ i => simpa using h6 i (by simpa using hi)
  ·simp at h
def flatN (rs : List (Nat × List V)) : Nat := (rs.flatMap (·.2)).length
theorem qfV {α : Type} (l : List α) (k n j : Nat) (d : α) (h : j < n) : ((l.drop k).take n).getD j d = l.getD (k + j) d := qaI l k n j d h
theorem qii {all : List V} {fs : List (T × Bool)} {bz : Bool} {mask : List Bool} (F : Fin P M w w' A H args all fs bz mask) (hfl : fs.length = all.length) :
  ∀ (rs : List (Nat × List V)) (vs : List Value) (k : Nat), (∀ p ∈ rs, p.1 = 2 -> bz = true) -> vs.length = rs.length -> (∀ i, i < rs.length -> RvR P M w' args.length (rs.getD i (0, [])) (vs.getD i undef)) -> k + flatN rs <= all.length -> (∀ j, j < flatN rs -> all.getD (k + j) V.bad = (rs.flatMap (·.2)).getD j V.bad) ->
   RetsR P w' (restA w w' A H args (outG P M all fs) (outZ M args.length bz)) w.heap.size (outG P M all fs) k (mkRets rs (fs.drop k)) vs
 | [], vs, k, hz, hl, hv, hk, hall => by
  have : vs = [] := List.eq_nil_of_length_eq_zero hl
  subst this
  simp [mkRets, RetsR]
 | (n, l) :: rs, [], k, hz, hl, hv, hk, hall => by simp at hl
 | (n, l) :: rs, v :: vs, k, hz, hl, hv, hk, hall => by
  have hv0 := hv 0 (by simp)
  simp only [List.getD_cons_zero] at hv0
  have hfn : flatN ((n, l) :: rs) = l.length + flatN rs := by simp [flatN]
  have hcell : ∀ j, j < l.length -> ∀ v, Vr P M w' (l.getD j V.bad) v -> CellR P w' (restA w w' A H args (outG P M all fs) (outZ M args.length bz)) (outG P M all fs (k + j)) (fs.getD (k + j) (.bad, false)) v := fun j hj v hv => by
   refine F.cell (by omega) ?_
   rw [hall j (by omega), List.flatMap_cons]
   show Vr P M w' ((l ++ List.flatMap (·.2) rs).getD j V.bad) v
   rw [qO _ _ _ hj]
   exact hv
  have hlen : ((fs.drop k).take l.length).length = l.length := by simp; omega
  have hrest := qii F hfl rs vs (k + l.length) (fun p hp => hz p (List.mem_cons_of_mem _ hp)) (by simpa using hl) (fun i hi => by simpa using hv (i + 1) (by simpa using hi)) (by omega) (fun j hj => by
   have := hall (l.length + j) (by omega)
   rw [List.flatMap_cons] at this
   have e : ((n, l).2 ++ List.flatMap (·.2) rs).getD (l.length + j) V.bad = (List.flatMap (·.2) rs).getD j V.bad := getD_app' l _ _ j
   rw [e] at this
   rw [Nat.add_assoc]
   exact this)
  have hget : ∀ j, j < l.length -> ((fs.drop k).take l.length).getD j (.bad, false) = fs.getD (k + j) (.bad, false) := fun j hj => qfV _ _ _ _ _ hj
  have hvl : ∀ us : Array Value, VrL P M w' l us -> us.size = ((fs.drop k).take l.length).length /\ ∀ j, j < ((fs.drop k).take l.length).length -> CellR P w' (restA w w' A H args (outG P M all fs) (outZ M args.length bz)) (outG P M all fs (k + j)) (((fs.drop k).take l.length).getD j (.bad, false)) (us.getD j undef) := fun us hu => by
   refine ⟨by rw [hlen, hu.1], fun j hj => ?_⟩
   rw [hlen] at hj
   rw [hget j hj]
   exact hcell j hj _ (hu.2 j hj)
  rw [<- List.drop_drop] at hrest
  match n, hv0 with
  | 0, hv0 =>
   obtain ⟨x, rfl, hx⟩ := hv0
   simp only [mkRets, RetsR, Ret.len, hlen]
   refine ⟨⟨fs.getD k (.bad, false), ?_, ?_⟩, hrest⟩
   ·apply List.ext_getElem (by simp at hlen ⊢; omega)
    intro i i1 i2
    simp at i2
    subst i2
    have := hget 0 (by simp)
    rw [List.getD_eq_getElem?_getD, List.getElem?_eq_getElem i1] at this
    exact this
   ·simpa using hcell 0 (by simp) v (by simpa using hx)
  | 1, hv0 =>
   obtain ⟨us, rfl, hu⟩ := hv0
   simp only [mkRets, RetsR, Ret.len, hlen]
   exact ⟨⟨us, rfl, hvl us hu⟩, hrest⟩
  | 2, hv0 =>
   obtain ⟨d, b, cs, ty, hd, hb, rfl, hh, hu⟩ := hv0
   simp only [mkRets, RetsR, Ret.len, hlen]
   have hβ := F.base.bxβ d b hb
   have hn0 : w.heap.size <= b := by
    rcases F.base.pin.2 d b hb with h | h
    ·exact absurd h (by show ¬ d < args.length; omega)
    ·exact h
   refine ⟨⟨b, cs, ty, rfl, hn0, fun hh' => ?_, fun j hj => ?_, hh, hvl cs hu⟩, hrest⟩
   ·exact hh'.2.2.2.2 ⟨hz _ List.mem_cons_self rfl, d, hb, hd⟩
   ·obtain ⟨q1, q2, q3, r, q4, q5⟩ := hj
    have f3 := (qav (P := P) all [] mask).2.2.1 j q1
    rw [<- F.fe] at f3
    have := List.all_eq_true.1 (f3.2 q3 q2).2.2.1 r q4
    rw [F.base.dis _ _ _ q5 hβ] at this
    simp [notB] at this
  | n + 3, hv0 => exact hv0.elim
theorem qgb {all : List V} {fs : List (T × Bool)} {bz : Bool} {mask : List Bool} (F : Fin P M w w' A H args all fs bz mask) (hfl : fs.length = all.length) (hR : Rel P E M S a w') :
  ∀ (as : List Arg) (i k : Nat) (os : List (List V)), as = args.drop i -> outsOf S i as = some os -> k + os.flatten.length <= all.length -> (∀ j, j < os.flatten.length -> all.getD (k + j) V.bad = os.flatten.getD j V.bad) ->
   OutsR P w' (restA w w' A H args (outG P M all fs) (outZ M args.length bz)) H (outG P M all fs) k i as (mkOuts os (fs.drop k))
 | [], i, k, os, has, ho, hk, hall => by
  simp [outsOf] at ho
  subst ho
  simp [mkOuts, OutsR]
 | x :: as, i, k, os, has, ho, hk, hall => by
  have hx : args[i]? = some x := by
   have := congrArg (fun l : List Arg => l[0]?) has
   simpa using this.symm
  have has' : as = args.drop (i + 1) := by
   have := congrArg List.tail has
   simpa using this
  cases x with
  | own t => simp [outsOf] at ho
  | v t =>
   simp only [outsOf] at ho
   have := qgb F hfl hR as (i + 1) k os has' ho hk hall
   cases os <;> simpa [OutsR] using this
  | box l0 =>
   simp only [outsOf] at ho
   split at ho
   ·rename_i l r hl hr
    split at ho
    ·rename_i hlen
     cases ho
     simp only [beq_iff_eq] at hlen
     have hp := F.base.pin.1 i (H.bk i) (by simp [Env.entry, hx])
     obtain ⟨b, q1, cs, ty, q2, q3⟩ := hR.inv.boxes i _ hl
     rw [hp.2] at q1
     cases q1
     have hfn : (l :: r).flatten.length = l.length + r.flatten.length := by simp
     have hln : ((fs.drop k).take l.length).length = l.length := by simp; omega
     have hrest := qgb F hfl hR as (i + 1) (k + l.length) r has' hr (by omega) (fun j hj => by
      have := hall (l.length + j) (by omega)
      rw [List.flatten_cons, getD_app'] at this
      rw [Nat.add_assoc]
      exact this)
     rw [<- List.drop_drop] at hrest
     simp only [mkOuts, OutsR, hln]
     refine ⟨hlen, ⟨cs, ty, q2, q3.1, fun j hj => ?_⟩, hrest⟩
     rw [qfV _ _ _ _ _ hj]
     refine F.cell (by omega) ?_
     rw [hall j (by omega), List.flatten_cons, qO _ _ _ hj]
     exact q3.2 j hj
    ·simp at ho
   ·simp at ho
theorem qew {fs : List (T × Bool)} : ∀ (rs : List (Nat × List V)) (k : Nat), k + flatN rs <= fs.length -> totLen (mkRets rs (fs.drop k)) = flatN rs
 | [], k, h => rfl
 | (n, l) :: rs, k, h => by
  have hfn : flatN ((n, l) :: rs) = l.length + flatN rs := by simp [flatN]
  have ih := qew (fs := fs) rs (k + l.length) (by omega)
  rw [<- List.drop_drop] at ih
  have hln : ((fs.drop k).take l.length).length = l.length := by simp; omega
  unfold mkRets
  split <;> simp_all [totLen, Ret.len]
theorem qiR {vs0 : Array Value} (hargs : ArgsR P w A H args vs0) {fn : Func} {res : Res} (hR : RelE P (Env.entry args H w) (okE A w args H) S a w') {mask : List Bool} (h : finish P mask fn args S = some res) :
  ∃ v, (results fn a.tmps).run P w' = .ok v w' /\ After P w A H args res (.returned v) w' := by
 obtain ⟨M, hM, hR⟩ := hR
 unfold finish at h
 split at h
 ·rename_i os rs hos hrs
  simp only at h
  split at h
  ·rename_i hc
   simp only [Bool.and_eq_true, Bool.or_eq_true, Bool.not_eq_true'] at hc
   obtain ⟨⟨⟨c1, c2⟩, c3⟩, c4⟩ := hc
   cases h
   have hfl := (qav (P := P) (rs.flatMap (·.2) ++ os.flatten) [] mask).1
   have F : Fin P M w w' A H args (rs.flatMap (·.2) ++ os.flatten) (flagVs P [] mask (rs.flatMap (·.2) ++ os.flatten)).1 (!rs.all (fun r => r.1 != 2)) mask := by
    refine ⟨rfl, c1, c2, c3, fun hb => ?_, hR.inv.base, hM⟩
    rcases c4 with c4 | c4
    ·rw [c4] at hb; simp at hb
    ·exact c4.2
   obtain ⟨g1, g2⟩ := F.g
   obtain ⟨r1, vs, r2, r3, r4⟩ := qfX hR hrs
   have hB := hR.inv.base
   refine ⟨retV vs, qdu vs (by simpa using r2) (fun i hi => by
    have := r3 i (by simpa using hi)
    rw [Array.getElem_toList] at this
    exact this), vs, outG P M _ _, outZ M args.length (!rs.all (fun r => r.1 != 2)), rfl, hB.os, hB.tape, hB.output, hB.size, fun b hb hn => hB.old b hb hn, g1, g2, ?_, ?_⟩
   ·have := qii F hfl rs vs 0 (fun p hp e => by
     cases hz : rs.all (fun r => r.1 != 2) with
     | false => rfl
     | true =>
      have := List.all_eq_true.1 hz p hp
      simp [e] at this) (by omega) (fun i hi => r4 i (by omega)) (by simp [flatN]) (fun j hj => by rw [Nat.zero_add, qO _ _ _ hj])
    simpa using this
   ·have hl := qew (fs := (flagVs P [] mask (rs.flatMap (·.2) ++ os.flatten)).1) rs 0 (by rw [hfl]; simp [flatN])
    simp only [List.drop_zero] at hl
    rw [hl]
    have := qgb F hfl hR args 0 (flatN rs) os (by simp) hos (by simp [flatN]) (fun j hj => by
     rw [show flatN rs = (rs.flatMap (·.2)).length from rfl, getD_app'])
    exact this
  ·simp at h
 ·simp at h
def SoundA (P : Program) (f : FuncId) (g : List Arg -> Option Res) : Prop :=
 ∀ args res, g args = some res -> ∀ (w : World) (vs : Array Value) (A : Nat -> Prop) (H : Hand), ArgsR P w A H args vs -> Calls P f vs w (After P w A H args res)
def SoundF (P : Program) (f : FuncId) (g : List Arg -> Option Res) : Prop := SoundA P f g /\ SoundMk P f g
end
inductive AC where
 | skip
 | region (id : Nat) (ops : Array Oper) (draw : Bool)
 | seq (cut : Option Keep) (a b : AC)
 | cond (x : Operand) (a b : AC)
 | block (id : Nat) (b : AC)
 | loop (keep : Keep) (b : AC)
 | exit (id : Nat)
 | ret
 | other (c : Code)
inductive Fr where
 | seq (cut : Option Keep) (b : AC)
 | block (id : Nat)
 | loop (keep : Keep) (b : AC)
def AC.code : AC -> Code
 | .skip => .skip
 | .region id ops d => .region id ops d
 | .seq _ a b => .seq a.code b.code
 | .cond x a b => .cond x a.code b.code
 | .block id b => .block id b.code
 | .loop _ b => .loop b.code
 | .exit i => .exit i
 | .ret => .ret
 | .other c => c
def cutOf : List (Nat × Keep) -> Nat -> Option Keep
 | [], _ => none
 | (j, l) :: r, i => match Nat.beq i j with | true => some l | false => cutOf r i
def annot (cuts : List (Nat × Keep)) : Nat -> Code -> AC
 | _, .skip => .skip
 | _, .region id ops d => .region id ops d
 | i, .seq a b => .seq (cutOf cuts i) (annot cuts (2 * i) a) (annot cuts (2 * i + 1) b)
 | i, .cond x a b => .cond x (annot cuts (2 * i) a) (annot cuts (2 * i + 1) b)
 | i, .block id b => .block id (annot cuts (2 * i) b)
 | i, .loop b => .loop ((cutOf cuts i).getD ⟨[], []⟩) (annot cuts (2 * i) b)
 | _, .exit i => .exit i
 | _, .ret => .ret
 | _, c => .other c
theorem qP (cuts : List (Nat × Keep)) : ∀ (c : Code) (i : Nat), (annot cuts i c).code = c
 | .skip, i => rfl
 | .region .., i => rfl
 | .seq a b, i => by simp only [annot, AC.code, qP cuts a, qP cuts b]
 | .cond x a b, i => by simp only [annot, AC.code, qP cuts a, qP cuts b]
 | .block id b, i => by simp only [annot, AC.code, qP cuts b]
 | .loop b, i => by simp only [annot, AC.code, qP cuts b]
 | .exit _, i => rfl
 | .ret, i => rfl
 | .scope _, i => rfl
 | .goto _, i => rfl
 | .label _, i => rfl
 | .rangeFunc .., i => rfl
 | .refuse _, i => rfl
def framesAt : List Bool -> AC -> List Fr -> List Fr
 | [], .loop keep b, κ => .loop keep b :: κ
 | [], .seq _ a b, κ => .seq none b :: κ
 | [], _, κ => κ
 | false :: p, .seq cut a b, κ => framesAt p a (.seq cut b :: κ)
 | true :: p, .seq cut a b, κ => framesAt p b κ
 | false :: p, .cond x a b, κ => framesAt p a κ
 | true :: p, .cond x a b, κ => framesAt p b κ
 | _ :: p, .block id b, κ => framesAt p b (.block id :: κ)
 | _ :: p, .loop keep b, κ => framesAt p b (.loop keep b :: κ)
 | _, _, κ => κ
inductive Mode where
 | run (c : AC)
 | pop (e : Ex)
section
variable (P : Program)
def go {R : Type} (C : CallSem) (G : List Fr -> St -> Option R) (fin : St -> Option R) : Nat -> Mode -> List Fr -> St -> Option R
 | 0, _, _, _ => none
 | m + 1, .run c, κ, S => match c with
  | .skip => go C G fin m (.pop .normal) κ S
  | .region _ ops draw => runRegion P C ops draw S fun S' => go C G fin m (.pop .normal) κ S'
  | .seq cut a b => go C G fin m (.run a) (.seq cut b :: κ) S
  | .cond x a b => (match ev P S 0 x with
   | .val v => (match v.t with
    | .bool t => cond t (go C G fin m (.run a) κ S) (go C G fin m (.run b) κ S)
    | _ => none)
   | _ => none)
  | .block id b => go C G fin m (.run b) (.block id :: κ) S
  | .loop keep b => G (.loop keep b :: κ) (norm P keep S)
  | .exit i => go C G fin m (.pop (.exit i)) κ S
  | .ret => go C G fin m (.pop .ret) κ S
  | .other _ => none
 | m + 1, .pop e, κ, S => match κ with
  | [] => (match e with | .exit _ => none | _ => fin S)
  | .seq cut b :: κ => (match e with
   | .normal => (match cut with | none => go C G fin m (.run b) κ S | some keep => G (.seq none b :: κ) (norm P keep S))
   | .exit i => go C G fin m (.pop (.exit i)) κ S
   | .ret => go C G fin m (.pop .ret) κ S)
  | .block id :: κ => (match e with
   | .exit i => (match Nat.beq i id with | true => go C G fin m (.pop .normal) κ S | false => go C G fin m (.pop (.exit i)) κ S)
   | .normal => go C G fin m (.pop .normal) κ S
   | .ret => go C G fin m (.pop .ret) κ S)
  | .loop keep b :: κ => (match e with
   | .normal => G (.loop keep b :: κ) (norm P keep S)
   | .exit i => go C G fin m (.pop (.exit i)) κ S
   | .ret => go C G fin m (.pop .ret) κ S)
def resume {R : Type} (C : CallSem) (G : List Fr -> St -> Option R) (fin : St -> Option R) (m : Nat) (κ : List Fr) (S : St) : Option R :=
 match κ with
 | .loop keep b :: κ' => go P C G fin m (.run b) (.loop keep b :: κ') S
 | κ => go P C G fin m (.pop .normal) κ S
def rounds {R : Type} (Cs : Nat -> CallSem) (fin : St -> Option R) (m : Nat) : Nat -> List Fr -> St -> Option R
 | 0, _, _ => none
 | k + 1, κ, S => resume P (Cs k) (rounds Cs fin m k) fin m κ S
def answer (Cs : Nat -> CallSem) (m : Nat) (cuts : List (Nat × Keep)) (mask : List Bool) (fn : Func) : Nat -> List Arg -> Option Res
 | 0, _ => none
 | k + 1, args => match fn.body with
  | none => none
  | some c => match argOk P fn.params.toList args && decide (args.length <= fn.ntmps) with
   | false => none
   | true => go P (Cs k) (rounds P Cs (finish P mask fn args) m k) (finish P mask fn args) m (.run (annot cuts 1 c)) [] (entry fn args)
end
section
variable {P : Program} {S : St} {a : Act} {w : World} {E : Env} {C : CallSem} {R : Type} {ok : OkT}
def LoopW (P : Program) (b : Code) (Q : Exit -> Act -> World -> Prop) (a : Act) (w : World) : Prop :=
 ∀ (fr : Frame) (k : List Item) (cs : List Frame), ∃ e a' w', Q e a' w' /\ Arrives P (lone (fr.at a (.code b :: .inLoop b :: k)) cs w) fr k cs e a' w'
def wpK (P : Program) (Q : Exit -> Act -> World -> Prop) : List Fr -> Exit -> Act -> World -> Prop
 | [] => Q
 | .seq _ b :: κ => Exit.then (b.code.wp P (wpK P Q κ)) (wpK P Q κ)
 | .block id :: κ => Exit.inBlock id (wpK P Q κ)
 | .loop _ b :: κ => Exit.then (LoopW P b.code (wpK P Q κ)) (wpK P Q κ)
theorem LoopW.of_wp {b : Code} {Q : Exit -> Act -> World -> Prop} (h : b.wp P (Exit.then (LoopW P b Q) Q) a w) : LoopW P b Q a w := by
 intro fr k cs
 obtain ⟨e, a₁, w₁, hq, harr⟩ := h fr (.inLoop b :: k) cs
 cases e with
 | normal =>
  obtain ⟨e₂, a₂, w₂, hq₂, harr₂⟩ := hq fr k cs
  exact ⟨e₂, a₂, w₂, hq₂, .of_steps (Steps.trans harr (.one step_inLoop)) harr₂⟩
 | exit id => exact ⟨_, a₁, w₁, hq, .pass (x := .inLoop b) rfl (fun _ _ => .inl (by simp)) harr⟩
 | goto l => exact ⟨_, a₁, w₁, hq, .pass (x := .inLoop b) rfl (fun _ _ => .inl (by simp)) harr⟩
 | ret => exact ⟨_, a₁, w₁, hq, .pass (x := .inLoop b) rfl (fun _ _ => .inl (by simp)) harr⟩
 | panic ch => exact ⟨_, a₁, w₁, hq, .pass (x := .inLoop b) rfl (fun _ _ => .inl (by simp)) harr⟩
 | outgrown => exact ⟨_, a₁, w₁, hq, .pass (x := .inLoop b) rfl (fun _ _ => .inl (by simp)) harr⟩
theorem qjh {b : Code} {Q : Exit -> Act -> World -> Prop} (h : LoopW P b Q a w) : (Code.loop b).wp P Q a w := by
 intro fr k cs
 obtain ⟨e, a', w', hq, harr⟩ := h fr k cs
 exact ⟨e, a', w', hq, .of_steps (.one step_loop) harr⟩
theorem qt (hC : SoundC P C) (hmix : P.follows .mixedOrders = true) {G : List Fr -> St -> Option R} {fin : St -> Option R} {r : R} {Q : Exit -> Act -> World -> Prop}
  (hG : ∀ κ S a w, RelE P E ok S a w -> G κ S = some r -> wpK P Q κ .normal a w) (hf : ∀ S a w, RelE P E ok S a w -> fin S = some r -> Q .normal a w /\ Q .ret a w) : ∀ (m : Nat) (κ : List Fr) (S : St) (a : Act) (w : World), RelE P E ok S a w ->
   (∀ c, go P C G fin m (.run c) κ S = some r -> c.code.wp P (wpK P Q κ) a w) /\ (∀ e, go P C G fin m (.pop e) κ S = some r -> wpK P Q κ (exOf e) a w)
 | 0, κ, S, a, w, hR => ⟨fun c h => by simp [go] at h, fun e h => by simp [go] at h⟩
 | m + 1, κ, S, a, w, hR => by
  refine ⟨fun c h => ?_, fun e h => ?_⟩
  ·simp only [go] at h
   split at h
   ·exact wp_skip ((qt hC hmix hG hf m κ S a w hR).2 .normal h)
   ·exact qgr hC hmix (fun S' a' w' hk hR' => (qt hC hmix hG hf m κ S' a' w' hR').2 .normal hk) hR h
   ·rename_i cut x y
    exact wp_seq ((qt hC hmix hG hf m (.seq cut y :: κ) S a w hR).1 _ h)
   ·rename_i x y z
    split at h
    ·rename_i v e
     split at h
     ·rename_i t ht
      have hx : a.eval x = .bool t := by
       obtain ⟨M, _, hR⟩ := hR
       have := ev_r hR 0 x
       rw [e] at this
       exact qdf this ht
      cases t with
      | true => exact wp_cond hx ((qt hC hmix hG hf m κ S a w hR).1 _ h)
      | false => exact wp_cond hx (by simpa using (qt hC hmix hG hf m κ S a w hR).1 _ h)
     ·simp at h
    ·simp at h
   ·rename_i id b
    refine wp_block ?_
    exact (qt hC hmix hG hf m (.block id :: κ) S a w hR).1 _ h
   ·rename_i keep b
    exact qjh (hG _ _ a w (qdE keep hR) h)
   ·exact wp_exit ((qt hC hmix hG hf m κ S a w hR).2 _ h)
   ·exact wp_ret ((qt hC hmix hG hf m κ S a w hR).2 _ h)
   ·simp at h
  ·simp only [go] at h
   split at h
   ·cases e with
    | exit i => simp at h
    | normal => exact (hf S a w hR h).1
    | ret => exact (hf S a w hR h).2
   ·rename_i cut b κ'
    cases e with
    | normal =>
     simp only at h
     split at h
     ·exact (qt hC hmix hG hf m κ' S a w hR).1 _ h
     ·rename_i keep
      show wpK P Q (.seq none b :: κ') .normal a w
      exact hG _ _ a w (qdE keep hR) h
    | exit i => exact (qt hC hmix hG hf m κ' S a w hR).2 (.exit i) h
    | ret => exact (qt hC hmix hG hf m κ' S a w hR).2 .ret h
   ·rename_i id κ'
    cases e with
    | normal => exact (qt hC hmix hG hf m κ' S a w hR).2 .normal h
    | ret => exact (qt hC hmix hG hf m κ' S a w hR).2 .ret h
    | exit i =>
     simp only at h
     show if i = id then wpK P Q κ' .normal a w else wpK P Q κ' (.exit i) a w
     split at h
     ·rename_i hi
      rw [if_pos (Nat.eq_of_beq_eq_true hi)]
      exact (qt hC hmix hG hf m κ' S a w hR).2 .normal h
     ·rename_i hi
      rw [if_neg (fun e => by rw [e] at hi; simp at hi)]
      exact (qt hC hmix hG hf m κ' S a w hR).2 (.exit i) h
   ·rename_i keep b κ'
    cases e with
    | normal => exact hG _ _ a w (qdE keep hR) h
    | exit i => exact (qt hC hmix hG hf m κ' S a w hR).2 (.exit i) h
    | ret => exact (qt hC hmix hG hf m κ' S a w hR).2 .ret h
theorem qfN (hC : SoundC P C) (hmix : P.follows .mixedOrders = true) {G : List Fr -> St -> Option R} {fin : St -> Option R} {r : R} {Q : Exit -> Act -> World -> Prop}
  (hG : ∀ κ S a w, RelE P E ok S a w -> G κ S = some r -> wpK P Q κ .normal a w) (hf : ∀ S a w, RelE P E ok S a w -> fin S = some r -> Q .normal a w /\ Q .ret a w) {m : Nat} {κ : List Fr} {S : St} {a : Act} {w : World} (hR : RelE P E ok S a w)
  (h : resume P C G fin m κ S = some r) : wpK P Q κ .normal a w := by
 unfold resume at h
 split at h
 ·rename_i keep b κ'
  exact LoopW.of_wp ((qt hC hmix hG hf m (.loop keep b :: κ') S a w hR).1 _ h)
 ·exact (qt hC hmix hG hf m κ S a w hR).2 .normal h
theorem qbk {Cs : Nat -> CallSem} (hmix : P.follows .mixedOrders = true) {fin : St -> Option R} {r : R} {Q : Exit -> Act -> World -> Prop}
  (hf : ∀ S a w, RelE P E ok S a w -> fin S = some r -> Q .normal a w /\ Q .ret a w) {m : Nat} : ∀ (k : Nat), (∀ j, j < k -> SoundC P (Cs j)) -> ∀ κ S a w, RelE P E ok S a w -> rounds P Cs fin m k κ S = some r -> wpK P Q κ .normal a w
 | 0, hC, κ, S, a, w, hR, h => by simp [rounds] at h
 | k + 1, hC, κ, S, a, w, hR, h => by
  simp only [rounds] at h
  exact qfN (hC k (Nat.lt_succ_self k)) hmix (qbk hmix hf k fun j hj => hC j (Nat.lt_succ_of_lt hj)) hf hR h
theorem qB {Cs : Nat -> CallSem} (hmix : P.follows .mixedOrders = true) {f : FuncId} {fn : Func} (hf : P.funcs[f]? = some fn) (m : Nat) (cuts : List (Nat × Keep)) (mask : List Bool) : ∀ (k : Nat), (∀ j, j < k -> SoundC P (Cs j)) -> SoundA P f (answer P Cs m cuts mask fn k)
 | 0, hC => fun args res h => by simp [answer] at h
 | k + 1, hC => by
  intro args res h w vs A H hargs
  simp only [answer] at h
  split at h
  ·simp at h
  ·rename_i c hb
   split at h
   ·simp at h
   ·rename_i hc
    simp only [Bool.and_eq_true, decide_eq_true_eq] at hc
    refine calls_of_wp hf hb ?_
    have hfin : ∀ S a w', RelE P (Env.entry args H w) (okE A w args H) S a w' -> finish P mask fn args S = some res -> bodyPost P fn (After P w A H args res) .normal a w' /\ bodyPost P fn (After P w A H args res) .ret a w' := fun S a w' hR hk => by
     obtain ⟨v, h1, h2⟩ := qiR hargs hR hk
     obtain ⟨M, _, hR⟩ := hR
     exact ⟨⟨hR.defers.1, v, h1, h2⟩, ⟨hR.defers.1, v, h1, h2⟩⟩
    have := (qt (Q := bodyPost P fn (After P w A H args res)) (hC k (Nat.lt_succ_self k)) hmix (qbk hmix hfin k fun j hj => hC j (Nat.lt_succ_of_lt hj)) hfin m [] _ _ w ⟨_, rfl, qit hargs hc.2⟩).1 _ h
    rw [qP] at this
    exact this
end
section
variable (P : Program)
def answerM (Cs : Nat -> CallSem) (m : Nat) (cuts : List (Nat × Keep)) (fn : Func) : Nat -> List Arg -> Option Res
 | k + 1, [.own t, .v (.int .i64 n)] => match fn.body with
  | none => none
  | some c => match decide (2 <= fn.ntmps) with
   | false => none
   | true => go P (Cs k) (rounds P Cs (finishM P fn t) m k) (finishM P fn t) m (.run (annot cuts 1 c)) [] (entryM fn t n)
 | _, _ => none
end
section
variable {P : Program} {S : St} {a : Act} {w w' : World} {E : Env} {C : CallSem} {R : Type} {M : Mdl}
def okM (cs : Nat -> Nat -> Prop) (us : Array Value) (w : World) : OkT := ⟨fun b => w.heap.size <= b ∨ (∃ j, cs j b) ∨ b < glN, fun j => us.getD j undef⟩
def Mdl.entryM (l : List T) (cs : Nat -> Nat -> Prop) (us : Array Value) (w : World) : Mdl :=
 ⟨fun r b => match r with | .h j => cs j b | _ => False, fun _ => none, fun _ => undef, okM cs us w⟩
def Env.entryM (cs : Nat -> Nat -> Prop) (w : World) : Env := ⟨w, fun b => ∃ j, cs j b, 2, fun _ => none⟩
theorem qba : ∀ (l : List T) (j : Nat), (lentCells j l).length = l.length /\ ∀ q, q < l.length -> (lentCells j l).getD q V.bad = (match (l.getD q .bad).scalar with | true => V.s (l.getD q .bad) | false => ⟨l.getD q .bad, [.h (j + q)], true, some (.h (j + q))⟩)
 | [], j => ⟨rfl, fun q hq => by simp at hq⟩
 | t :: ts, j => by
  obtain ⟨h1, h2⟩ := qba ts (j + 1)
  refine ⟨by simp [lentCells, h1], fun q hq => ?_⟩
  cases q with
  | zero => simp only [lentCells, List.getD_cons_zero, Nat.add_zero]; cases t.scalar <;> rfl
  | succ q =>
   simp only [lentCells, List.getD_cons_succ]
   rw [h2 q (by simpa using hq), show j + 1 + q = j + (q + 1) by omega]
theorem qcS : ∀ {l : List V} {j : Nat}, lentBack j l = true -> ∀ q, q < l.length -> (l.getD q V.bad).t.scalar = true ∨ ((l.getD q V.bad).own = some (.h (j + q)) /\ (l.getD q V.bad).sep = true /\ (l.getD q V.bad).g = [.h (j + q)] /\ (l.getD q V.bad).t ≠ .bad)
 | [], j, _, q, hq => by simp at hq
 | x :: xs, j, h, q, hq => by
  simp only [lentBack, Bool.and_eq_true, Bool.or_eq_true, beq_iff_eq, Bool.not_eq_true'] at h
  cases q with
  | zero =>
   simp only [List.getD_cons_zero, Nat.add_zero]
   rcases h.1 with h | h
   ·exact .inl h
   ·exact .inr ⟨h.1.1.1, h.1.1.2, h.1.2, qaU.1 h.2⟩
  | succ q =>
   simp only [List.getD_cons_succ]
   rw [show j + (q + 1) = j + 1 + q by omega]
   exact qcS h.2 q (by simpa using hq)
theorem qds {l : List T} {cs : Nat -> Nat -> Prop} {us : Array Value} (hlt : ∀ j b, cs j b -> b < w.heap.size) (hdis : ∀ i j b, cs i b -> cs j b -> i = j) (hgl : GL w /\ ∀ b, b < glN -> b < w.heap.size /\ ∀ j, ¬ cs j b) : Base (Env.entryM cs w) (Mdl.entryM l cs us w) w := by
 have hh : ∀ r b, (Mdl.entryM l cs us w).β r b -> ∃ j, r = .h j /\ cs j b := fun r b h => by
  cases r with
  | h j => exact ⟨j, rfl, h⟩
  | _ => exact h.elim
 refine ⟨rfl, rfl, rfl, Nat.le_refl _, fun b _ _ => rfl, fun r s b hr hs => ?_, fun r b hr => ?_, fun r b hr => ?_, fun d b hd => by simp [Mdl.entryM] at hd, fun r b hr => ?_, ⟨fun b hb => Or.inl hb, hgl.1, fun b hb => ⟨(hgl.2 b hb).1, fun ⟨j, hj⟩ => (hgl.2 b hb).2 j hj, Or.inr (Or.inr hb)⟩⟩, ⟨fun d b hd => by simp [Env.entryM] at hd, fun d b hd => by simp [Mdl.entryM] at hd⟩⟩
 ·obtain ⟨i, rfl, h1⟩ := hh r b hr
  obtain ⟨j, rfl, h2⟩ := hh s b hs
  rw [hdis i j b h1 h2]
 ·obtain ⟨i, rfl, h1⟩ := hh r b hr
  exact hlt i b h1
 ·obtain ⟨i, rfl, h1⟩ := hh r b hr
  exact .inr ⟨i, h1⟩
 ·obtain ⟨i, rfl, h1⟩ := hh r b hr
  exact Or.inr (Or.inl ⟨i, h1⟩)
theorem qgu {l : List T} {cs : Nat -> Nat -> Prop} {us : Array Value} (hu : us.size = l.length) (hc : ∀ j, j < l.length -> CellR P w (fun _ => False) (cs j) (l.getD j .bad, true) (us.getD j undef)) (hlt : ∀ j b, cs j b -> b < w.heap.size) (hdis : ∀ i j b, cs i b -> cs j b -> i = j) (hgl : GL w /\ ∀ b, b < glN -> b < w.heap.size /\ ∀ j, ¬ cs j b) :
  VrL P (Mdl.entryM l cs us w) w (lentCells 0 l) us := by
 have hB := qds (l := l) (us := us) hlt hdis hgl
 obtain ⟨e1, e2⟩ := qba l 0
 refine ⟨by rw [e1, hu], fun j hj => ?_⟩
 rw [e1] at hj
 rw [e2 j hj]
 have hcj := hc j hj
 unfold CellR at hcj
 simp only at hcj
 cases hs : (l.getD j .bad).scalar with
 | true =>
  rw [hs] at hcj
  exact vr_s hcj hs
 | false =>
  rw [hs] at hcj
  simp only [Bool.not_false, Bool.and_self] at hcj
  rw [Nat.zero_add]
  exact fun _ => qcz hB.okβ hB.dis hcj.1 hcj.2.1 hcj.2.2 (by simp) (fun b hb => hb) (fun b hb => hlt j b hb) rfl
theorem qhD {fn : Func} {t : T} {n : Int} {cs : Nat -> Nat -> Prop} {us : Array Value} (hn : 2 <= fn.ntmps) (hu : us.size = t.cells.length) (hc : ∀ j, j < t.cells.length -> CellR P w (fun _ => False) (cs j) (t.cells.getD j .bad, true) (us.getD j undef)) (hlt : ∀ j b, cs j b -> b < w.heap.size) (hdis : ∀ i j b, cs i b -> cs j b -> i = j) (hgl : GL w /\ ∀ b, b < glN -> b < w.heap.size /\ ∀ j, ¬ cs j b) :
  Rel P (Env.entryM cs w) (Mdl.entryM t.cells cs us w) (entryM fn t n) { tmps := #[(match agOf t with | true => .agg us | false => us.getD 0 undef), .int .i64 n] ++ Array.replicate (fn.ntmps - 2) undef, defers := [] } w := by
 have hB := qds (l := t.cells) (us := us) hlt hdis hgl
 have hV := qgu hu hc hlt hdis hgl
 have h0 : TVr P (Mdl.entryM t.cells cs us w) w ((entryM fn t n).tmp 0) (match agOf t with | true => .agg us | false => us.getD 0 undef) := by
  have key : agOf t = false -> t.cells = [t] -> TVr P (Mdl.entryM t.cells cs us w) w (match lentCells 0 [t] with | [x] => TV.val x | _ => .undef) (us.getD 0 undef) := fun _ e => by
   have h2 := hV.2 0 (by rw [(qba _ 0).1, e]; simp)
   rw [e] at h2 ⊢
   have e3 : lentCells 0 [t] = [(lentCells 0 [t]).getD 0 V.bad] := rfl
   rw [e3]
   exact h2
  unfold entryM St.tmp
  simp only [List.getD_cons_zero]
  cases t with
  | agg l => exact ⟨us, rfl, hV⟩
  | _ => exact key rfl rfl
 have e0 : ∀ (x y : Value) (r : Array Value), (#[x, y] ++ r).getD 0 undef = x := fun x y r => by rw [Array.getD_eq_getD_getElem?, Array.getElem?_append_left (by simp)]; rfl
 have e1 : ∀ (x y : Value) (r : Array Value), (#[x, y] ++ r).getD 1 undef = y := fun x y r => by rw [Array.getD_eq_getD_getElem?, Array.getElem?_append_left (by simp)]; rfl
 refine ⟨hB.inv fun q y hy => ?_, ⟨rfl, rfl⟩, by simp [entryM]; omega, fun i => ?_⟩
 ·unfold entryM St.box at hy
  simp only [List.getD_eq_getElem?_getD, List.getElem?_replicate] at hy
  split at hy <;> simp at hy
 ·match i with
  | 0 =>
   rw [e0]
   exact h0
  | 1 =>
   rw [e1]
   exact vr_s (A := fun _ => True) (.int .i64 n) rfl
  | i + 2 =>
   have : (entryM fn t n).tmp (i + 2) = .undef := by
    have : ∀ (x y : TV) (r : List TV), (x :: y :: r).getD (i + 2) .undef = r.getD i .undef := fun _ _ _ => rfl
    show List.getD (_ :: _ :: _) (i + 2) TV.undef = _
    rw [this, List.getD_eq_getElem?_getD, List.getElem?_replicate]
    by_cases h : i < fn.ntmps - 2 <;> simp [h]
   rw [this]
   trivial
def AfterM (P : Program) (w : World) (cs : Nat -> Nat -> Prop) (us : Array Value) (l' : List T) (m : Int) (e : Ending) (w' : World) : Prop :=
 e = .returned (.int .i64 m) /\ w'.os = w.os /\ w'.tape = w.tape /\ w'.output = w.output /\ w.heap.size <= w'.heap.size /\ (∀ b, b < w.heap.size -> (∀ j, ¬ cs j b) -> w'.heap[b]? = w.heap[b]?) /\
  ∃ cs' : Nat -> Nat -> Prop, (∀ j b, cs' j b -> (w.heap.size <= b ∨ ∃ i, cs i b) /\ b < w'.heap.size) /\ (∀ i j b, cs' i b -> cs' j b -> i = j) /\ ∀ j, j < l'.length -> (l'.getD j .bad).scalar = false -> CellR P w' (fun _ => False) (cs' j) (l'.getD j .bad, true) (us.getD j undef)
theorem qji {l l' : List T} (h : l.map (fun t => (t, true)) = l'.map fun t => (t, true)) : l = l' := by
 have := congrArg (List.map (·.1)) h
 rwa [qdI, qdI] at this
theorem qgx {l l' : List T} {m m' : Int} (h : markRes l m = markRes l' m') : l = l' /\ m = m' := by
 simp only [markRes, Res.mk.injEq, List.cons.injEq, and_true, Ret.vals.injEq, Prod.mk.injEq, T.int.injEq, true_and] at h
 exact ⟨qji h.2, h.1⟩
theorem qiH {cs : Nat -> Nat -> Prop} {us : Array Value} {fn : Func} {t : T} {l' : List T} {m : Int} (hR : RelE P (Env.entryM cs w) (okM cs us w) S a w') (h : finishM P fn t S = some (markRes l' m)) :
  l'.length = t.cells.length /\ ∃ v, (results fn a.tmps).run P w' = .ok v w' /\ AfterM P w cs us l' m (.returned v) w' := by
 obtain ⟨M, hM, hR⟩ := hR
 have hB := hR.inv.base
 unfold finishM at h
 split at h
 ·rename_i r hrs
  split at h
  ·rename_i v hv
   split at h
   ·rename_i m0 hvm
    obtain ⟨u, h1, h2⟩ := qdm hR hv
    have hu : u = .int .i64 m0 := qy h2 hvm
    subst hu
    have hres : (results fn a.tmps).run P w' = .ok (.int .i64 m0) w' := by
     have hsz : fn.results.size = 1 := by rw [<- Array.length_toList, hrs]; rfl
     refine qdu [.int .i64 m0] (by simp [hsz]) fun i hi => ?_
     obtain rfl : i = 0 := by omega
     have e : fn.results[0] = r := by
      have := congrArg (fun l : List ResultVar => l[0]?) hrs
      simp only [List.getElem?_cons_zero, Array.getElem?_toList] at this
      rw [Array.getElem?_eq_getElem hi] at this
      exact Option.some.inj this
     rw [e]
     exact h1
    have common : ∀ (L : List V) (xs : Array Value), VrL P M w' L xs -> lentBack 0 L = true -> L.length = t.cells.length -> markRes (L.map (·.t)) m0 = markRes l' m ->
      l'.length = t.cells.length /\ ∃ v, (results fn a.tmps).run P w' = .ok v w' /\ AfterM P w cs us l' m (.returned v) w' := fun L xs hL hlb hlen he => by
     obtain ⟨e1, rfl⟩ := qgx he
     subst e1
     refine ⟨by simpa using hlen, _, hres, rfl, hB.os, hB.tape, hB.output, hB.size, fun b hb hn => hB.old b hb fun ⟨j, hj⟩ => hn j hj, fun j b => M.β (.h j) b, fun j b hb => ⟨hB.new _ _ hb, hB.lt _ _ hb⟩, fun i j b hi hj => by simpa using hB.dis _ _ _ hi hj, fun j hj hsc => ?_⟩
     have hj' : j < L.length := by simpa using hj
     rw [qG _ _ hj'] at hsc ⊢
     rcases qcS hlb j hj' with h | ⟨h1, h2, h3, h4⟩
     ·rw [h] at hsc; simp at hsc
     ·rw [Nat.zero_add] at h1 h3
      have hG := hL.2 j hj' h4
      obtain ⟨o1, o2, o3⟩ := hG.own _ h1
      have hx : us.getD j undef = xs.getD j undef := by
       rw [<- o2]
       show _ = M.ok.arg j
       rw [hM]
       rfl
      rw [hx]
      have hin : ∀ b, inside M (L.getD j V.bad).g b -> M.β (.h j) b := fun b ⟨r, hr, hb⟩ => by
       rw [h3] at hr
       have : r = .h j := by simpa using hr
       rwa [this] at hb
      have hs := hG.sep h2
      have hd := qfq hG h1
      unfold CellR
      simp only [hsc, Bool.not_false, Bool.and_self]
      refine ⟨(hG.rd.inside hs).keep (fun _ _ => rfl) hin, hs.mono hin, ?_⟩
      cases hxt : (L.getD j V.bad).t with
      | nums e k z l => rw [hxt] at hd; exact ⟨hd.1, hd.2.1, fun b hb => hin b (hd.2.2 b hb)⟩
      | sl e z l => rw [hxt] at hd; exact ⟨hd.1, hd.2.1, fun b hb => hin b (hd.2.2 b hb)⟩
      | _ => rw [hxt] at hd; exact hd.elim
    have ht := (hR.tmps 0).plain
    split at h
    ·rename_i x e
     rw [e] at ht
     split at h
     ·rename_i hc
      simp only [Bool.and_eq_true, beq_iff_eq] at hc
      refine common [x] #[a.tmps.getD 0 undef] ⟨rfl, fun i hi => ?_⟩ hc.1.1 (by simpa using hc.1.2.symm) (Option.some.inj h)
      obtain rfl : i = 0 := by simpa using hi
      exact ht
     ·simp at h
    ·rename_i L e
     rw [e] at ht
     split at h
     ·rename_i hc
      simp only [Bool.and_eq_true, beq_iff_eq] at hc
      obtain ⟨xs, _, hL⟩ := ht
      exact common L xs hL hc.1.1 hc.1.2 (Option.some.inj h)
     ·simp at h
    ·simp at h
   ·simp at h
  ·simp at h
 ·simp at h
theorem qY {Cs : Nat -> CallSem} (hmix : P.follows .mixedOrders = true) {f : FuncId} {fn : Func} (hf : P.funcs[f]? = some fn) (m : Nat) (cuts : List (Nat × Keep)) : ∀ (k : Nat), (∀ j, j < k -> SoundC P (Cs j)) -> SoundM1 P f (answerM P Cs m cuts fn k)
 | 0, hC => fun t n l' m' h => by simp [answerM] at h
 | k + 1, hC => by
  intro t n l' m0 h
  have h0 := h
  simp only [answerM] at h
  split at h
  ·simp at h
  ·rename_i c hb
   split at h
   ·simp at h
   ·rename_i hc
    have hc : 2 <= fn.ntmps := by simpa using hc
    intro w us cs hu hcell hlt hdis hgl
    refine calls_of_wp hf hb ?_
    have hfin : ∀ S a w', RelE P (Env.entryM cs w) (okM cs us w) S a w' -> finishM P fn t S = some (markRes l' m0) -> bodyPost P fn (AfterM P w cs us l' m0) .normal a w' /\ bodyPost P fn (AfterM P w cs us l' m0) .ret a w' := fun S a w' hR hk => by
     obtain ⟨_, v, h1, h2⟩ := qiH hR hk
     obtain ⟨M, _, hR⟩ := hR
     exact ⟨⟨hR.defers.1, v, h1, h2⟩, ⟨hR.defers.1, v, h1, h2⟩⟩
    have := (qt (Q := bodyPost P fn (AfterM P w cs us l' m0)) (hC k (Nat.lt_succ_self k)) hmix (qbk hmix hfin k fun j hj => hC j (Nat.lt_succ_of_lt hj)) hfin m [] _ _ w ⟨_, rfl, qhD hc hu hcell hlt hdis hgl⟩).1 _ h
    rw [qP] at this
    exact this
end
end Go.Proofs.YthocpcfjfgnkgaaGreatRv
namespace Go.Proofs.YthocpcfjfgnkgaaGreatRv
open Go Go.RowKit
set_option linter.unusedVariables false
def Ans.no : Ans := ⟨(none : Option Unit), fun _ => ⟨[], []⟩⟩
theorem Ans.no_val {r : Res} (h : Ans.no.val = some r) : False := by simp [Ans.no, Ans.val] at h
def tab : List (FuncId × (List Arg -> Ans)) -> CallSem
 | [], _, _ => Ans.no
 | (g, h) :: r, f, args => match Nat.beq f g with | true => h args | false => tab r f args
def TabOk (P : Program) : List (FuncId × (List Arg -> Ans)) -> Prop
 | [] => True
 | p :: r => SoundF P p.1 (fun a => (p.2 a).val) /\ TabOk P r
theorem qu {P : Program} : ∀ {l : List (FuncId × (List Arg -> Ans))}, TabOk P l -> SoundC P (tab l)
 | [], _ => ⟨fun f args res h => by simp [tab, Ans.no, Ans.val] at h, fun f => ⟨fun t n l' m h => by simp [tab, Ans.no, Ans.val] at h, ⟨fun t l' h => by simp [tab, Ans.no, Ans.val] at h, fun e k z l z' l' h => by simp [tab, Ans.no, Ans.val] at h⟩⟩⟩
 | (g, h) :: r, hl => by
  refine ⟨fun f args res hh => ?_, fun f => ⟨fun t n l' m hh => ?_, ⟨fun t l' hh => ?_, fun e k z l z' l' hh => ?_⟩⟩⟩
  ·simp only [tab] at hh
   split at hh
   ·rename_i e
    have e := Nat.eq_of_beq_eq_true e
    subst e
    exact hl.1.1 args res hh
   ·exact (qu hl.2).1 f args res hh
  ·simp only [tab] at hh
   split at hh
   ·rename_i e
    have e := Nat.eq_of_beq_eq_true e
    subst e
    exact hl.1.2.1 t n l' m hh
   ·exact ((qu hl.2).2 f).1 t n l' m hh
  ·simp only [tab] at hh
   split at hh
   ·rename_i e
    have e := Nat.eq_of_beq_eq_true e
    subst e
    exact hl.1.2.2.1 t l' hh
   ·exact ((qu hl.2).2 f).2.1 t l' hh
  ·simp only [tab] at hh
   split at hh
   ·rename_i e
    have e := Nat.eq_of_beq_eq_true e
    subst e
    exact hl.1.2.2.2 _ _ _ _ _ _ hh
   ·exact ((qu hl.2).2 f).2.2 _ _ _ _ _ _ hh
theorem qw {P : Program} {f : FuncId} {h : List Arg -> Ans} (h1 : SoundA P f fun a => (h a).val) (h2 : ∀ t n, h [.own t, .v (.int .i64 n)] = Ans.no) (h3 : ∀ t, h [.own t] = Ans.no := by exact fun t => rfl) : SoundF P f fun a => (h a).val :=
 ⟨h1, fun t n l' m hh => by dsimp only at hh; rw [h2] at hh; exact (Ans.no_val hh).elim, fun t l' hh => by dsimp only at hh; rw [h3] at hh; exact (Ans.no_val hh).elim, fun e k z l z' l' hh => by dsimp only at hh; rw [h3] at hh; exact (Ans.no_val hh).elim⟩
theorem qat {P : Program} {f : FuncId} {h : List Arg -> Ans} (h1 : ∀ args, (∀ t n, args ≠ [.own t, .v (.int .i64 n)]) -> h args = Ans.no) (h2 : SoundM1 P f fun a => (h a).val) : SoundF P f fun a => (h a).val := by
 refine ⟨fun args res hh w vs A H hargs => ?_, h2, fun t l' hh => by
  dsimp only at hh
  rw [h1 _ fun t n e => by simp at e] at hh
  exact (Ans.no_val hh).elim, fun e k z l z' l' hh => by
  dsimp only at hh
  rw [h1 _ fun t n e => by simp at e] at hh
  exact (Ans.no_val hh).elim⟩
 by_cases he : ∃ t n, args = [.own t, .v (.int .i64 n)]
 ·obtain ⟨t, n, rfl⟩ := he
  exact (hargs.arg 0 _ rfl).elim
 ·dsimp only at hh
  rw [h1 args fun t n e => he ⟨t, n, e⟩] at hh
  exact (Ans.no_val hh).elim
theorem qaL {P : Program} : TabOk P [] := trivial
theorem qp {P : Program} {g : FuncId} {h : List Arg -> Ans} {r : List (FuncId × (List Arg -> Ans))} (h1 : SoundF P g fun a => (h a).val) (h2 : TabOk P r) : TabOk P ((g, h) :: r) := ⟨h1, h2⟩
def bodyOf (fn : Func) (cuts : List (Nat × Keep)) : AC := match fn.body with | some c => annot cuts 1 c | none => .skip
def fillL {α : Type} (d : α) : Nat -> Nat -> List (Nat × α) -> List α
 | 0, _, _ => []
 | n + 1, i, [] => d :: fillL d n (i + 1) []
 | n + 1, i, (j, x) :: r => match Nat.beq i j with | true => x :: fillL d n (i + 1) r | false => d :: fillL d n (i + 1) ((j, x) :: r)
def stOf (n m np : Nat) (ts : List (Nat × TV)) (bs : List (Nat × Box)) : St := ⟨fillL .undef n 0 ts, fillL none m 0 (bs.map fun b => (b.1, some b.2)), np⟩
theorem qH {R R' : Type} {e : R -> R'} {c : Bool} {A B : Option R'} {a b : Option R} (ha : A = a.map e) (hb : B = b.map e) : cond c A B = (cond c a b).map e := by
 cases c
 ·exact hb
 ·exact ha
theorem qI {α R R' : Type} {e : R -> R'} {o : Option α} {F : α -> Option R'} {f : α -> Option R} (h : ∀ t, F t = (f t).map e) : o.bind F = (o.bind f).map e := by
 cases o with
 | none => rfl
 | some x => exact h x
def takeI (l : List T) (K : Int -> List T -> Ans) : Ans := match l with | .int .i64 n :: r => K n r | _ => Ans.no
def takeN (e : TypeId) (l : List T) (K : Bool -> List Int -> List T -> Ans) : Ans := match l with | .nums e' .u8 z x :: r => (match Nat.beq e' e with | true => K z x r | false => Ans.no) | _ => Ans.no
def takeS (e : TypeId) (l : List T) (K : Bool -> List T -> List T -> Ans) : Ans := match l with | .sl e' z x :: r => (match Nat.beq e' e with | true => K z x r | false => Ans.no) | _ => Ans.no
def takeE (l : List T) (K : Ans) : Ans := match l with | [] => K | _ => Ans.no
theorem qfj {l : List T} {K : Int -> List T -> Ans} {r : Res} (h : (takeI l K).val = some r) : ∃ n t, l = .int .i64 n :: t /\ (K n t).val = some r := by
 unfold takeI at h
 split at h
 ·exact ⟨_, _, rfl, h⟩
 ·exact (Ans.no_val h).elim
theorem qff {e : TypeId} {l : List T} {K : Bool -> List Int -> List T -> Ans} {r : Res} (h : (takeN e l K).val = some r) : ∃ z x t, l = .nums e .u8 z x :: t /\ (K z x t).val = some r := by
 unfold takeN at h
 split at h
 ·split at h
  ·rename_i q
   obtain rfl := Nat.eq_of_beq_eq_true q
   exact ⟨_, _, _, rfl, h⟩
  ·exact (Ans.no_val h).elim
 ·exact (Ans.no_val h).elim
theorem qfn {e : TypeId} {l : List T} {K : Bool -> List T -> List T -> Ans} {r : Res} (h : (takeS e l K).val = some r) : ∃ z x t, l = .sl e z x :: t /\ (K z x t).val = some r := by
 unfold takeS at h
 split at h
 ·split at h
  ·rename_i q
   obtain rfl := Nat.eq_of_beq_eq_true q
   exact ⟨_, _, _, rfl, h⟩
  ·exact (Ans.no_val h).elim
 ·exact (Ans.no_val h).elim
theorem qft {l : List T} {K : Ans} {r : Res} (h : (takeE l K).val = some r) : l = [] /\ K.val = some r := by
 unfold takeE at h
 split at h
 ·exact ⟨rfl, h⟩
 ·exact (Ans.no_val h).elim
end Go.Proofs.YthocpcfjfgnkgaaGreatRv
namespace Go.Proofs.YthocpcfjfgnkgaaGreatRv
open Go Go.RowKit Go.ChangeShapes Go.WideShapes
set_option linter.unusedVariables false
set_option linter.unusedSimpArgs false
def old (w : World) (b : Nat) : Prop := b < w.heap.size
def RdL (P : Program) (w : World) (A : Nat -> Prop) (cs : List Value) (xs : List T) : Prop := cs.length = xs.length /\ ∀ i, i < xs.length -> Rd P w A (cs.getD i undef) (xs.getD i .bad)
def RdT {H : Type} (enc : TypeId × Value -> H) (P : Program) (w : World) (t : TypeId) (G : List T -> Prop) : Prop :=
 ∀ (fuel : Nat) (cs : List Value) (x : DataW H × List MemPlace), DataW.trod enc P w 0 (fun _ => true) true fuel t cs = some x -> ∃ xs, RdL P w (old w) cs xs /\ xs.length = szOf P t /\ G xs
def RdF {H : Type} (enc : TypeId × Value -> H) (P : Program) (w : World) (off : Nat) (fs : List Field) (G : List T -> Prop) : Prop :=
 ∀ (n : Nat) (cs : List Value) (xs : List (DataW H × List MemPlace)), (∀ (i : Nat) (f : Field), fs[i]? = some f -> DataW.trod enc P w 0 (fun _ => true) true n f.type ((cs.drop f.offset).take (P.cellsOf f.type)) = xs[i]?) -> xs.length = fs.length ->
  ∃ ys, RdL P w (old w) ((cs.drop off).take ys.length) ys /\ ys.length = (fs.map fun f => szOf P f.type).sum /\ G ys
section
variable {H : Type} {enc : TypeId × Value -> H} {P : Program} {w : World}
theorem RdL.one {A : Nat -> Prop} {v : Value} {x : T} (h : Rd P w A v x) : RdL P w A [v] [x] := ⟨rfl, fun i hi => by
 have : i = 0 := by simpa using hi
 subst this
 simpa using h⟩
theorem qjy {t : TypeId} {k : IntKind} (ht : P.underlying t = some (.int k)) (hz : szOf P t = 1) : RdT enc P w t (fun xs => ∃ n, xs = [.int k n] /\ (Lit.int k n).wf = true) := fun fuel cs x h => by
 obtain ⟨n, rfl, _, hw⟩ := DataW.trod_int ht h
 exact ⟨_, RdL.one (.int k n), by simp [hz], n, rfl, hw⟩
theorem qjl {t : TypeId} (ht : P.underlying t = some .bool) (hz : szOf P t = 1) : RdT enc P w t (fun xs => ∃ b, xs = [.bool b]) := fun fuel cs x h => by
 obtain ⟨n, rfl, _⟩ := DataW.trod_bool ht h
 exact ⟨_, RdL.one (.bool n), by simp [hz], n, rfl⟩
theorem qki {ad : Addr} {u : Value} (h : w.cell? ad = some u) : old w ad.block := by
 unfold old
 by_cases hb : ad.block < w.heap.size
 ·exact hb
 ·have : w.heap[ad.block]? = none := Array.getElem?_eq_none (by omega)
  simp [World.cell?, this] at h
theorem qiO {t e : TypeId} {k : IntKind} (ht : P.underlying t = some (.slice e)) (he : P.underlying e = some (.int k)) (hz : szOf P t = 1) (hze : szOf P e = 1) :
  RdT enc P w t (fun xs => ∃ z l, xs = [.nums e k z l] /\ l.length <= 9223372036854775807 /\ ∀ n ∈ l, (Lit.int k n).wf = true) := fun fuel cs x h => by
 rcases DataW.trod_slice ht h with ⟨rfl, _⟩ | ⟨a, len, cap, elems, rest, n, _, rfl, _, _, hl, hm, hlen, hel, _, _⟩
 ·exact ⟨_, RdL.one (.nums none 0 0 e k true [] rfl rfl (by omega) (fun _ => rfl) (Nat.le_refl _) fun j hj => by omega), by simp [hz], true, [], rfl, by simp, by simp⟩
 have hm' : cap <= 9223372036854775807 := hm
 have each : ∀ i, i < len -> ∃ x : Int, w.cell? (a.add i) = some (.int k x) /\ (Lit.int k x).wf = true := by
  intro i hi
  have h0 := hel i hi
  rw [List.getElem?_eq_getElem (by omega), Option.bind_eq_some_iff] at h0
  obtain ⟨cs, hcs, hx⟩ := h0
  have hc1 : P.cellsOf e = 1 := hze
  rw [hc1, Nat.mul_one] at hcs
  obtain ⟨_, hcl, hcell⟩ := World.cells?_some hcs
  obtain ⟨x, rfl, _, hw⟩ := DataW.trod_int he hx
  have := hcell 0 (by omega)
  simp [Addr.add] at this
  refine ⟨x, ?_, hw⟩
  simpa [Addr.add] using this
 obtain ⟨f, hf⟩ := Go.Deep.choose_lt each
 have hl0 : ((List.range len).map f).length = len := by simp
 refine ⟨_, RdL.one (.nums (some a) len cap e k false ((List.range len).map f) hl0 rfl (by omega) (fun h => by simp at h) hl fun j hj => ⟨a, rfl, ?_, ?_⟩), by simp [hz], false, _, rfl, by rw [hl0]; omega, ?_⟩
 ·have := qki (hf j hj).1
  rwa [qae] at this
 ·rw [(hf j hj).1]
  simp [List.getD_eq_getElem?_getD, hj]
 ·intro x hx
  obtain ⟨i, hi, rfl⟩ := List.mem_map.1 hx
  exact (hf i (List.mem_range.1 hi)).2
theorem qjU {f : Field} {off : Nat} {G : List T -> Prop} (ho : f.offset = off) (h : RdT enc P w f.type G) : RdF enc P w off [f] G := fun n cs xs hx hlen => by
 have h0 := hx 0 f rfl
 rw [List.getElem?_eq_getElem (by simp at hlen; omega)] at h0
 obtain ⟨ys, h1, h2, h3⟩ := h _ _ _ h0
 have e : P.cellsOf f.type = ys.length := h2.symm
 rw [e, ho] at h1
 exact ⟨ys, h1, by simp [h2], h3⟩
theorem qcu {f : Field} {fs : List Field} {off : Nat} {G G' : List T -> Prop} (ho : f.offset = off) (h : RdT enc P w f.type G) (h' : RdF enc P w (off + szOf P f.type) fs G') :
  RdF enc P w off (f :: fs) (fun ys => ∃ a b, ys = a ++ b /\ G a /\ G' b) := fun n cs xs hx hlen => by
 have h0 := hx 0 f rfl
 rw [List.getElem?_eq_getElem (by simp at hlen; omega)] at h0
 obtain ⟨a, h1, h2, h3⟩ := h _ _ _ h0
 have e : P.cellsOf f.type = a.length := h2.symm
 rw [e, ho] at h1
 obtain ⟨b, k1, k2, k3⟩ := h' n cs xs.tail (fun i g hg => by
  have := hx (i + 1) g (by simpa using hg)
  rw [this, List.getElem?_tail]) (by simp at hlen ⊢; omega)
 refine ⟨a ++ b, ?_, by simp [h2, k2], a, b, rfl, h3, k3⟩
 have e2 : szOf P f.type = a.length := h2.symm
 rw [e2, <- List.drop_drop] at k1
 have e3 : (cs.drop off).take (a ++ b).length = (cs.drop off).take a.length ++ ((cs.drop off).drop a.length).take b.length := by
  rw [List.length_append, List.take_add]
 rw [e3]
 refine ⟨by rw [List.length_append, h1.1, k1.1, List.length_append], fun i hi => ?_⟩
 by_cases hia : i < a.length
 ·rw [qO _ _ _ (by rw [h1.1]; exact hia), qO _ _ _ hia]
  exact h1.2 i hia
 ·obtain ⟨j, rfl⟩ : ∃ j, i = a.length + j := ⟨i - a.length, by omega⟩
  have hj : j < b.length := by simpa using hi
  rw [getD_app' a b]
  have : ((cs.drop off).take a.length ++ ((cs.drop off).drop a.length).take b.length).getD (a.length + j) undef = (((cs.drop off).drop a.length).take b.length).getD j undef := by
   have := getD_app' ((cs.drop off).take a.length) (((cs.drop off).drop a.length).take b.length) undef j
   rwa [h1.1] at this
  rw [this]
  exact k1.2 j hj
theorem qht {t : TypeId} {fs : Array Field} {G : List T -> Prop} (ht : P.underlying t = some (.struct fs)) (hz : szOf P t = (fs.toList.map fun f => szOf P f.type).sum) (h : RdF enc P w 0 fs.toList G) : RdT enc P w t G := fun fuel cs x hx => by
 obtain ⟨xs, n, _, _, hl, hlen, hf⟩ := DataW.trod_struct ht hx
 obtain ⟨ys, h1, h2, h3⟩ := h n cs xs (fun i f hf' => hf i f (by rw [<- Array.getElem?_toList]; exact hf')) (by rw [hlen]; simp)
 refine ⟨ys, ?_, by rw [h2, hz], h3⟩
 have hlc : cs.length = ys.length := by rw [hl, h2]; exact hz
 rwa [List.drop_zero, <- hlc, List.take_length] at h1
theorem qgm {t : TypeId} {G : List T -> Prop} {v : Value} {x : DataW H} {p : List MemPlace} (h : RdT enc P w t G) (hv : DataW.Trod enc P w 0 (fun _ => true) true t v x p) : ∃ xs, RdL P w (old w) v.cells.toList xs /\ G xs := by
 obtain ⟨fuel, hf⟩ := hv
 obtain ⟨xs, h1, _, h3⟩ := h _ _ _ hf
 exact ⟨xs, h1, h3⟩
theorem qkd {cs : Array Value} {xs : List T} (h : RdL P w (old w) cs.toList xs) : Rd P w (old w) (.agg cs) (.agg xs) := by
 refine .agg cs xs (by simpa using h.1) fun i hi => ?_
 have := h.2 i hi
 simpa [Array.getD_eq_getD_getElem?, List.getD_eq_getElem?_getD] using this
theorem qjR {v : Value} {x : T} (h : RdL P w (old w) [v] [x]) : Rd P w (old w) v x := by simpa using h.2 0 (by simp)
theorem qjK {A : Nat -> Prop} : RdL P w A [] [] := ⟨rfl, fun i hi => by simp at hi⟩
theorem qdH {A : Nat -> Prop} {v : Value} {x : T} {vs : List Value} {xs : List T} (h : Rd P w A v x) (hs : RdL P w A vs xs) : RdL P w A (v :: vs) (x :: xs) := ⟨by simp [hs.1], fun i hi => by
 cases i with
 | zero => simpa using h
 | succ i => simpa using hs.2 i (by simpa using hi)⟩
theorem qjc {f : FuncId} {g : List Arg -> Option Res} (hs : SoundF P f g) {ts : List T} {vs : List Value} (hl : RdL P w (old w) vs ts) (hg : g (ts.map .v) = some ⟨[.vals false [(.bool true, true)]], []⟩) (hgl : GL w /\ glN <= w.heap.size := by exact ⟨trivial, Nat.zero_le _⟩) :
  Calls P f vs.toArray w fun e w' => e = .returned (.bool true) /\ Below w.heap.size w w' := by
 let H : Hand := ⟨fun _ => 0, fun _ _ _ => False⟩
 have hnb : ∀ i, ¬ isBox (ts.map Arg.v) i := fun i ⟨l, h⟩ => by
  rw [List.getElem?_map] at h
  cases hq : ts[i]? <;> simp [hq] at h
 have hnh : ∀ b, ¬ Handed (ts.map Arg.v) H b := fun b ⟨i, hi, _⟩ => hnb i hi
 refine Calls.mono (hs.1 _ _ hg w vs.toArray (old w) H ⟨by simp [hl.1], fun i x hx => ?_, fun b hb => (hnh b hb).elim, hgl.1, fun b hb => Nat.lt_of_lt_of_le hb hgl.2, fun b hb => ⟨hb, hnh b⟩, fun i _ hi => (hnb i hi).elim, fun i _ _ _ _ hi => (hnb i hi).elim, fun i _ _ hi => (hnb i hi).elim⟩) fun e w' h => ?_
 ·rw [List.getElem?_map] at hx
  cases hq : ts[i]? with
  | none => simp [hq] at hx
  | some y =>
   simp [hq] at hx
   subst hx
   have hi : i < ts.length := (List.getElem?_eq_some_iff.1 hq).1
   have := hl.2 i hi
   have e1 : ts.getD i .bad = y := by simp [List.getD_eq_getElem?_getD, hq]
   rw [e1] at this
   have e2 : vs.toArray.getD i undef = vs.getD i undef := by simp [Array.getD_eq_getD_getElem?, List.getD_eq_getElem?_getD]
   show Rd P w (old w) (vs.toArray.getD i undef) y
   rw [e2]
   exact this
 ·obtain ⟨us, G, Z, rfl, p1, p2, p3, p4, p5, _, _, p8, _⟩ := h
  refine ⟨?_, p1, p2, p3, p4, fun b hb => p5 b hb (hnh b)⟩
  match us, p8 with
  | [], p8 => exact p8.elim
  | [v], p8 =>
   obtain ⟨⟨c, hc, h1⟩, _⟩ := p8
   simp at hc
   subst hc
   have h1' : Rd P w' _ v (.bool true) := h1
   cases h1'
   rfl
  | _ :: _ :: _, p8 => exact p8.2.elim
end
def Ev {α : Type} (g : Nat -> Option α) (r : α) : Prop := ∃ K, ∀ k, K <= k -> g k = some r
theorem Ev.now {α : Type} (r : α) : Ev (fun _ => some r) r := ⟨0, fun _ _ => rfl⟩
theorem Ev.rounds {α : Type} {g : Nat -> Option α} {r : α} (h : Ev g r) : ∃ k, g k = some r := by
 obtain ⟨K, hK⟩ := h
 exact ⟨K, hK K (Nat.le_refl _)⟩
theorem Ev.bind {α β : Type} {g : Nat -> Option α} {f : Nat -> α -> Option β} {a : α} {r : β} (h : Ev g a) (k : Ev (fun n => f n a) r) : Ev (fun n => (g n).bind (f n)) r := by
 obtain ⟨K, hK⟩ := h
 obtain ⟨L, hL⟩ := k
 refine ⟨max K L, fun n hn => ?_⟩
 show (g n).bind (f n) = some r
 rw [hK n (by omega), Option.bind_some]
 exact hL n (by omega)
theorem qb {α : Type} {p : Nat -> Option α} {r : α} (h : Ev (fun k => p (k + 1)) r) : Ev p r := by
 obtain ⟨K, hK⟩ := h
 refine ⟨K + 1, fun k hk => ?_⟩
 obtain ⟨k, rfl⟩ : ∃ j, k = j + 1 := ⟨k - 1, by omega⟩
 exact hK k (by omega)
class IsB (b : Bool) (c : outParam Prop) : Prop where
 t : b = true ↔ c
instance (priority := low) isB_any (b : Bool) : IsB b (b = true) := ⟨Iff.rfl⟩
instance isB_dec (c : Prop) [Decidable c] : IsB (decide c) c := ⟨decide_eq_true_iff⟩
instance isB_not (b : Bool) (c : Prop) [h : IsB b c] : IsB (!b) (¬ c) := ⟨by rw [<- h.t]; cases b <;> simp⟩
section
variable {α β : Type} {b : Bool} {c : Prop} {g f : Nat -> Option α} {r : α}
theorem qf [i : IsB b c] (h : c -> Ev g r) (h' : ¬c -> Ev f r) : Ev (fun k => cond b (g k) (f k)) r := by
 cases hb : b with
 | true => exact h (i.t.1 hb)
 | false => exact h' fun hc => by have := i.t.2 hc; rw [hb] at this; cases this
theorem qa [i : IsB b c] (hc : c) (h : Ev g r) : Ev (fun k => cond b (g k) (f k)) r := qf (fun _ => h) fun n => (n hc).elim
theorem qe [i : IsB b c] (hc : ¬c) (h : Ev f r) : Ev (fun k => cond b (g k) (f k)) r := qf (fun n => (hc n).elim) fun _ => h
theorem qd {x : α} (h : x = r) : Ev (fun _ => some x) r := h ▸ Ev.now _
theorem ev_eq {o : Option α} (h : o = some r) : Ev (fun _ => o) r := by rw [h]; exact Ev.now _
theorem ev_bind0 {o : Option α} {x : α} {q : Nat -> α -> Option β} {s : β} (h : o = some x) (k : Ev (fun n => q n x) s) : Ev (fun n => o.bind (q n)) s := by rw [h]; exact k
theorem qag {x : α} (h : Ev g x) (e : x = r) : Ev g r := e ▸ h
theorem ev_uniq {x y : α} (h : Ev g x) (h' : Ev g y) : x = y := by
 obtain ⟨K, hK⟩ := h
 obtain ⟨K', hK'⟩ := h'
 have a := hK (max K K') (Nat.le_max_left _ _)
 have b := hK' (max K K') (Nat.le_max_right _ _)
 exact Option.some.inj (a.symm.trans b)
theorem ev_uniq0 {α : Type} {o : Option α} {x : α} (h : Ev (fun _ => o) x) : o = some x := by
 obtain ⟨K, hK⟩ := h
 exact hK K (Nat.le_refl _)
end
theorem w64 {n : Int} (h : -9223372036854775808 <= n) (h' : n <= 9223372036854775807) : wrap64 n = n := by unfold wrap64; omega
theorem w64s {n : Nat} (h : n < 9223372036854775807) : wrap64 ((n : Int) + 1) = ((n + 1 : Nat) : Int) := by unfold wrap64; omega
theorem w64p {n : Nat} (h : n <= 9223372036854775807) (h0 : 0 < n) : wrap64 ((n : Int) - 1) = ((n - 1 : Nat) : Int) := by unfold wrap64; omega
theorem wrap_bd (n : Int) : -9223372036854775808 <= wrap64 n /\ wrap64 n <= 9223372036854775807 := by unfold wrap64; omega
theorem wf64 {n : Int} (h : (Lit.int .i64 n).wf = true) : -9223372036854775808 <= n /\ n <= 9223372036854775807 := by
 simp [Lit.wf, IntKind.min, IntKind.max, IntKind.signed, IntKind.bits] at h
 omega
theorem wf8 {n : Int} (h : (Lit.int .u8 n).wf = true) : 0 <= n /\ n < 256 := by
 simp [Lit.wf, IntKind.min, IntKind.max, IntKind.signed, IntKind.bits] at h
 omega
theorem qaS (n : Nat) : ((n : Int)).toNat = n := rfl
theorem qaY {l : List Int} {n : Nat} (h : n < l.length) : rdI l (n : Int) = l[n] := by simp [rdI, h]
theorem qhi {l : List Int} {n : Nat} (h : n < l.length) : l.drop n = rdI l (n : Int) :: l.drop (n + 1) := by rw [qaY h]; exact List.drop_eq_getElem_cons h
theorem qiV {α : Type} {l : List α} {n : Nat} (d : α) (h : n < l.length) : l.getD ((n : Int)).toNat d = l[n] := by simp [h]
theorem drop_getD {α : Type} {l : List α} {n : Nat} (d : α) (h : n < l.length) : l.drop n = l.getD ((n : Int)).toNat d :: l.drop (n + 1) := by rw [qiV d h]; exact List.drop_eq_getElem_cons h
theorem qkc {α β : Type} (xs : List α) (c : Nat -> β) (g : Nat -> List β -> Int -> Option (List β))
  (step : ∀ (n : Nat) (ys : List β) (r : List β), n < xs.length -> ys.length = xs.length -> Ev (fun k => g k (ys.set n (c n)) ((n + 1 : Nat) : Int)) r -> Ev (fun k => g k ys (n : Int)) r)
  (stop : ∀ ys : List β, ys.length = xs.length -> Ev (fun k => g k ys (xs.length : Int)) ys) :
  ∀ (d n : Nat) (ys : List β), n + d = xs.length -> ys.length = xs.length -> Ev (fun k => g k ys (n : Int)) (ys.take n ++ (List.range d).map (fun i => c (n + i)))
 | 0, n, ys, hn, hl => by
  obtain rfl : n = xs.length := by omega
  rw [List.take_of_length_le (by omega)]
  simpa using stop ys hl
 | d + 1, n, ys, hn, hl => by
  refine step n ys _ (by omega) hl (qag (qkc xs c g step stop d (n + 1) (ys.set n (c n)) (by omega) (by simpa using hl)) ?_)
  rw [List.range_succ_eq_map, List.map_cons, List.map_map, List.take_succ_eq_append_getElem (by simp; omega)]
  simp only [List.take_set_of_le (Nat.le_refl n), List.getElem_set_self, List.append_assoc, List.singleton_append, Nat.add_zero]
  congr 2
  apply List.map_congr_left
  intro i _
  show c (n + 1 + i) = c (n + (i + 1))
  congr 1
  omega
theorem map_range_get {α β : Type} (xs : List α) (d : α) (f : α -> β) : (List.range xs.length).map (fun i => f (xs.getD i d)) = xs.map f := by
 apply List.ext_getElem
 ·simp
 ·intro i h1 h2
  simp at h1 h2
  simp [h2]
theorem qkn {ρ : Type} (m : Nat) (g : Nat -> Int -> Option ρ) (r : ρ)
  (step : ∀ n : Nat, n < m -> Ev (fun k => g k ((n + 1 : Nat) : Int)) r -> Ev (fun k => g k (n : Int)) r) (stop : Ev (fun k => g k (m : Int)) r) : ∀ (d n : Nat), n + d = m -> Ev (fun k => g k (n : Int)) r
 | 0, n, h => by
  obtain rfl : n = m := by omega
  exact stop
 | d + 1, n, h => step n (by omega) (qkn m g r step stop d (n + 1) (by omega))
def allFrom (p : Nat -> Bool) : Nat -> Nat -> Bool
 | _, 0 => true
 | i, m + 1 => p i && allFrom p (i + 1) m
theorem qgF (p : Nat -> Bool) : ∀ (m i : Nat), allFrom p i m = true ↔ ∀ j, i <= j -> j < i + m -> p j = true
 | 0, i => by simp [allFrom]; omega
 | m + 1, i => by
  have ih := qgF p m (i + 1)
  rw [allFrom, Bool.and_eq_true, ih]
  constructor
  ·rintro ⟨h1, h2⟩ j hj hm
   by_cases e : j = i
   ·rw [e]; exact h1
   ·exact h2 j (by omega) (by omega)
  ·intro h
   exact ⟨h i (by omega) (by omega), fun j hj hm => h j (by omega) (by omega)⟩
theorem qka (g : Nat -> Int -> Option Bool) (m : Nat) (p : Nat -> Bool)
  (yes : ∀ n : Nat, n < m -> p n = true -> ∀ r, Ev (fun k => g k ((n + 1 : Nat) : Int)) r -> Ev (fun k => g k (n : Int)) r)
  (no : ∀ n : Nat, n < m -> p n = false -> Ev (fun k => g k (n : Int)) false) (stop : Ev (fun k => g k (m : Int)) true) : ∀ (d n : Nat), n + d = m -> Ev (fun k => g k (n : Int)) (allFrom p n d)
 | 0, n, h => by
  obtain rfl : n = m := by omega
  exact stop
 | d + 1, n, h => by
  cases e : p n with
  | true =>
   rw [allFrom, e, Bool.true_and]
   exact yes n (by omega) e _ (qka g m p yes no stop d (n + 1) (by omega))
  | false =>
   rw [allFrom, e, Bool.false_and]
   exact no n (by omega) e
def okB (l : List Int) : Prop := l.length <= 1048576
def okBB (l : List (List Int)) : Prop := l.length <= 1048576 /\ ∀ x ∈ l, okB x
def niceB (l : List Int) : Prop := l.length <= 1048576 /\ ∀ x ∈ l, 0 <= x /\ x < 256
def niceBB (l : List (List Int)) : Prop := l.length <= 1048576 /\ ∀ x ∈ l, niceB x
def i64r (n : Int) : Prop := -9223372036854775808 <= n /\ n <= 9223372036854775807
def niceI (l : List Int) : Prop := l.length <= 1048576 /\ ∀ x ∈ l, i64r x
theorem niceB_ok {l : List Int} (h : niceB l) : okB l := h.1
theorem niceBB_ok {l : List (List Int)} (h : niceBB l) : okBB l := ⟨h.1, fun x hx => (h.2 x hx).1⟩
theorem qgs {l : List Int} (h : l.length <= 9223372036854775807 /\ ∀ x ∈ l, (Lit.int .u8 x).wf = true) (o : okB l) : niceB l := ⟨o, fun x hx => wf8 (h.2 x hx)⟩
theorem niceBB_of {l : List (List Int)} (h : l.length <= 9223372036854775807 /\ ∀ x ∈ l, (x.length <= 9223372036854775807 /\ ∀ y ∈ x, (Lit.int .u8 y).wf = true)) (o : okBB l) : niceBB l := ⟨o.1, fun x hx => qgs (h.2 x hx) (o.2 x hx)⟩
theorem niceI_of {l : List Int} (h : l.length <= 9223372036854775807 /\ ∀ x ∈ l, (Lit.int .i64 x).wf = true) (o : l.length <= 1048576) : niceI l := ⟨o, fun x hx => wf64 (h.2 x hx)⟩
def SzR (ok : Prop) (a r : Int) : Prop := r = -1 ∨ (0 <= r /\ r <= a /\ ok)
def mk8 (L : Nat) (a : Int) : List Int := (List.range L).map fun (i : Nat) => (a + (i : Int)) % 256
theorem qax (L : Nat) (a : Int) : (mk8 L a).length = L := by simp [mk8]
theorem qjD {L : Nat} {a : Int} {i : Nat} (h : i < L) : rdI (mk8 L a) (i : Int) = (a + i) % 256 := by
 rw [qaY (by rw [qax]; exact h)]
 simp [mk8]
def MkB (ys : List Int) (a n : Int) : Prop := okB ys /\ 0 <= a /\ n = a + ys.length /\ ys = mk8 ys.length a
def isNum (n : Int) : Bool := decide (0 <= n /\ n <= 1152921504606846975)
def vint : Nat -> Int -> List Int
 | 0, n => [n]
 | m + 1, n => if n < 128 then [n] else (n % 128 + 128) :: vint m (n / 128)
theorem qaj : ∀ (m : Nat) (n : Int), 1 <= (vint m n).length /\ (vint m n).length <= m + 1
 | 0, n => by simp [vint]
 | m + 1, n => by
  have := qaj m (n / 128)
  unfold vint
  split
  ·simp
  ·simp only [List.length_cons]; omega
theorem qer : ∀ (m : Nat) (n : Int), 0 <= n -> n < 128 ^ (m + 1) -> ∀ x ∈ vint m n, 0 <= x /\ x < 256
 | 0, n, h0, h1, x, hx => by
  simp only [vint, List.mem_singleton] at hx
  subst hx
  simp at h1
  omega
 | m + 1, n, h0, h1, x, hx => by
  unfold vint at hx
  split at hx
  ·simp only [List.mem_singleton] at hx
   omega
  ·rcases List.mem_cons.1 hx with rfl | hx
   ·omega
   ·refine qer m (n / 128) (by omega) ?_ x hx
    have e : (128 : Int) ^ (m + 1 + 1) = 128 ^ (m + 1) * 128 := Int.pow_succ 128 (m + 1)
    rw [e] at h1
    generalize (128 : Int) ^ (m + 1) = q at *
    omega
def putVar (b : List Int) (n : Int) : List Int × Bool := if isNum n = true then (b ++ vint 8 n, true) else ([], false)
theorem qcQ {n : Int} : isNum n = true ↔ 0 <= n /\ n <= 1152921504606846975 := by simp [isNum]
theorem qgS {n : Int} (h : isNum n = true) : 0 <= n /\ n < 128 ^ (8 + 1) := by
 have := qcQ.1 h
 have e : (128 : Int) ^ (8 + 1) = 9223372036854775808 := by decide
 rw [e]
 omega
def numbersV (acc : List Int) : List Int -> List Int
 | [] => acc
 | n :: t => if isNum n = true then numbersV (acc ++ vint 8 n) t else []
def leaveBytes (a b : Int) : List Int := if isNum a = true /\ isNum b = true then 76 :: (vint 8 a ++ vint 8 b) else []
def voteBytes (a b : Int) (h : List Int) : List Int := if isNum a = true /\ isNum b = true /\ h.length = 32 then 86 :: (vint 8 a ++ (vint 8 b ++ h)) else []
theorem qfi : niceB [] := ⟨by simp, by simp⟩
theorem qbC {n : Int} (h : isNum n = true) : ∀ x ∈ vint 8 n, 0 <= x /\ x < 256 := qer 8 n (qgS h).1 (qgS h).2
theorem leaveBytes_nice (a b : Int) : niceB (leaveBytes a b) := by
 unfold leaveBytes
 split
 ·rename_i h
  have h1 := qaj 8 a
  have h2 := qaj 8 b
  refine ⟨by simp only [List.length_cons, List.length_append]; omega, fun x hx => ?_⟩
  rcases List.mem_cons.1 hx with rfl | hx
  ·omega
  rcases List.mem_append.1 hx with hx | hx
  ·exact qbC h.1 x hx
  ·exact qbC h.2 x hx
 ·exact qfi
theorem voteBytes_nice (a b : Int) {h : List Int} (hh : niceB h) : niceB (voteBytes a b h) := by
 unfold voteBytes
 split
 ·rename_i c
  have h1 := qaj 8 a
  have h2 := qaj 8 b
  refine ⟨by simp only [List.length_cons, List.length_append]; omega, fun x hx => ?_⟩
  rcases List.mem_cons.1 hx with rfl | hx
  ·omega
  rcases List.mem_append.1 hx with hx | hx
  ·exact qbC c.1 x hx
  rcases List.mem_append.1 hx with hx | hx
  ·exact qbC c.2.1 x hx
  ·exact hh.2 x hx
 ·exact qfi
theorem qef {l : List Int} (h : niceB l) (n : Nat) : niceB (l.take n) := ⟨by have := h.1; simp; omega, fun x hx => h.2 x (List.mem_of_mem_take hx)⟩
theorem qex {l : List Int} (h : niceB l) (n : Nat) : niceB (l.drop n) := ⟨by have := h.1; simp; omega, fun x hx => h.2 x (List.mem_of_mem_drop hx)⟩
def hexd (n : Int) : Int := if n < 10 then 48 + n else 87 + n
def hex : List Int -> List Int
 | [] => []
 | x :: t => hexd (x / 16) :: hexd (x % 16) :: hex t
theorem qhl : ∀ l : List Int, (hex l).length = 2 * l.length
 | [] => rfl
 | x :: t => by simp only [hex, List.length_cons, qhl t]; omega
def sameB (a b : List Int) : Bool := decide (strOf a = strOf b)
theorem sameB_refl (a : List Int) : sameB a a = true := by simp [sameB]
def nameAt (a : Int) (l : List ByteArray) : ByteArray := if 0 <= a /\ a < l.length then l.getD a.toNat ByteArray.empty else ⟨#[]⟩
def erNames : List ByteArray := [⟨#[111, 107]⟩, ⟨#[115, 104, 111, 114, 116]⟩, ⟨#[118, 97, 114]⟩, ⟨#[108, 111, 110, 103]⟩, ⟨#[112, 97, 100]⟩, ⟨#[118, 97, 108, 117, 101]⟩, ⟨#[111, 114, 100, 101, 114]⟩, ⟨#[114, 111, 111, 116]⟩, ⟨#[107, 105, 110, 100]⟩, ⟨#[108, 101, 102, 116]⟩]
def ceNames : List ByteArray := [⟨#[111, 107]⟩, ⟨#[102, 111, 114, 109]⟩, ⟨#[116, 97, 103]⟩, ⟨#[119, 101, 105, 103, 104, 116]⟩, ⟨#[108, 105, 110, 107]⟩, ⟨#[118, 105, 101, 119]⟩]
def vdNames : List ByteArray := [⟨#[111, 116, 104, 101, 114]⟩, ⟨#[99, 111, 109, 109, 105, 116]⟩, ⟨#[107, 110, 111, 119, 110]⟩, ⟨#[114, 101, 102, 117, 115, 101, 100]⟩, ⟨#[99, 108, 97, 115, 104]⟩, ⟨#[111, 108, 100]⟩, ⟨#[105, 110]⟩, ⟨#[110, 111, 116]⟩, ⟨#[117, 110, 107, 110, 111, 119, 110]⟩, ⟨#[103, 111, 111, 100]⟩]
def limitsOk (n tx txs fr hd : Int) : Bool := decide ((1 <= n /\ n <= 10) /\ (0 <= tx /\ tx <= 40) /\ (0 <= txs /\ txs <= 8) /\ (1 <= fr /\ fr <= 4000) /\ (3 <= hd /\ hd <= 5))
end Go.Proofs.YthocpcfjfgnkgaaGreatRv
