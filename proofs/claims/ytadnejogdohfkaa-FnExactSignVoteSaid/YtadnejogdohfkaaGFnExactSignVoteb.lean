/- What the functions compute, printed by a program of this repo; each is shown to be what the machine of values answers. No condition. -/
import Derived.Test.YtadnejogdohfkaaProg
import Derived.KernelRfl
import Derived.Test.YtadnejogdohfkaaGFnExactSignVotea
namespace Go.Proofs.YtadnejogdohfkaaG
open Go Go.Proofs.YtadnejogdohfkaaRv Go.Proofs
set_option linter.unusedVariables false
set_option linter.unusedSimpArgs false
/-! loop.example/g00790/spec.Sha -/
def spec_Sha.b {R : Type} (ret : Bool × List Int → Option R) (j0 : Bool → (List Int) → Bool → (List Int) → Int → Option R) (j1 : (List Int) → Bool → (List Int) → Int → Int → Option R) (k : Nat) (a0z : Bool) (a0 : List Int) : Option R :=
  (spec_ShaInit.f k).bind fun t0 => (spec_ShaPad.f k a0z a0).bind fun t1 => j0 t0.1 t0.2 t1.1 t1.2 0
def spec_Sha.l0b {R : Type} (ret : Bool × List Int → Option R) (j0 : Bool → (List Int) → Bool → (List Int) → Int → Option R) (j1 : (List Int) → Bool → (List Int) → Int → Int → Option R) (k : Nat) (x3z : Bool) (x3 : List Int) (x4z : Bool) (x4 : List Int) (x5 : Int) : Option R :=
  cond (decide (x5 < ((x4).length : Int))) (cond (decide ((0 : Int) ≤ (RowKit.wrap64 (x5 + 64)))) (cond (decide ((RowKit.wrap64 (x5 + 64)) ≤ ((x4).length : Int))) (cond (decide ((0 : Int) ≤ x5)) (cond (decide (x5 ≤ (RowKit.wrap64 (x5 + 64)))) ((spec_ShaBlock.f k x3z x3 x4z (((x4).take ((RowKit.wrap64 (x5 + 64))).toNat).drop (x5).toNat)).bind fun t0 => j0 t0.1 t0.2 x4z x4 (RowKit.wrap64 (x5 + 64))) (none)) (none)) (none)) (none)) (j1 ([] : List Int) x3z x3 ((x3).length : Int) 0)
def spec_Sha.l1b {R : Type} (ret : Bool × List Int → Option R) (j0 : Bool → (List Int) → Bool → (List Int) → Int → Option R) (j1 : (List Int) → Bool → (List Int) → Int → Int → Option R) (k : Nat) (x6 : List Int) (x26z : Bool) (x26 : List Int) (x27 : Int) (x28 : Int) : Option R :=
  cond (decide (x28 < x27)) (cond (decide ((0 : Int) ≤ x28)) (cond (decide (x28 < ((x26).length : Int))) (cond (decide ((x6).length + 4 < 140737488355328)) (j1 (x6 ++ ([(((shrI .i64 (rdI x26 x28) 24)) % 256), (((shrI .i64 (rdI x26 x28) 16)) % 256), (((shrI .i64 (rdI x26 x28) 8)) % 256), (((rdI x26 x28)) % 256)] : List Int)) x26z x26 x27 (RowKit.wrap64 (x28 + 1))) (none)) (none)) (none)) (ret (false, x6))
mutual
def spec_Sha.l0 : Nat → Bool → (List Int) → Bool → (List Int) → Int → Option (Bool × List Int)
  | 0, _, _, _, _, _ => none
  | k + 1, x3z, x3, x4z, x4, x5 => spec_Sha.l0b some (spec_Sha.l0 k) (spec_Sha.l1 k) k x3z x3 x4z x4 x5
def spec_Sha.l1 : Nat → (List Int) → Bool → (List Int) → Int → Int → Option (Bool × List Int)
  | 0, _, _, _, _, _ => none
  | k + 1, x6, x26z, x26, x27, x28 => spec_Sha.l1b some (spec_Sha.l0 k) (spec_Sha.l1 k) k x6 x26z x26 x27 x28
end
def spec_Sha.f : Nat → Bool → (List Int) → Option (Bool × List Int)
  | 0, _, _ => none
  | k + 1, a0z, a0 => spec_Sha.b some (spec_Sha.l0 k) (spec_Sha.l1 k) k a0z a0
def spec_Sha.enc (r : Bool × List Int) : Res := ⟨[.vals false [((.nums 5 .u8 r.1 r.2), true)]], []⟩
def spec_Sha.ans (k : Nat) : List Arg → Ans
  | [.v (.nums 5 .u8 a0z a0)] => ⟨spec_Sha.f k a0z a0, spec_Sha.enc⟩
  | _ => Ans.no
def spec_Sha.Cs (k : Nat) : CallSem := tab [(194, spec_ShaInit.ans k), (195, spec_ShaPad.ans k), (196, spec_ShaBlock.ans k)]
def spec_Sha.cuts : List (Nat × Keep) := [(122, ⟨[(3, none), (4, none), (5, some [])], []⟩), (506, ⟨[(6, none), (26, none), (27, some []), (28, some [])], []⟩)]
noncomputable def spec_Sha.K0 : List Fr := framesAt [true, true, true, false, true, false] (bodyOf Try.f157 spec_Sha.cuts) []
def spec_Sha.N0 (x3z : Bool) (x3 : List Int) (x4z : Bool) (x4 : List Int) (x5 : Int) : St := stOf 48 48 1 [(3, .val ⟨(.nums 3 .i64 x3z x3), [.l 3 0], true, some (.l 3 0)⟩), (4, .val ⟨(.nums 5 .u8 x4z x4), [.l 4 0], true, some (.l 4 0)⟩), (5, .val (V.s (.int .i64 x5)))] []
noncomputable def spec_Sha.K1 : List Fr := framesAt [true, true, true, true, true, false, true, false] (bodyOf Try.f157 spec_Sha.cuts) []
def spec_Sha.N1 (x6 : List Int) (x26z : Bool) (x26 : List Int) (x27 : Int) (x28 : Int) : St := stOf 48 48 1 [(6, .val ⟨(.nums 5 .u8 false x6), [.l 6 0], true, some (.l 6 0)⟩), (26, .val ⟨(.nums 3 .i64 x26z x26), [.l 26 0], true, some (.l 26 0)⟩), (27, .val (V.s (.int .i64 x27))), (28, .val (V.s (.int .i64 x28)))] []
theorem spec_Sha.s (k : Nat) (a0z : Bool) (a0 : List Int) : answer Try.prog spec_Sha.Cs 100000 spec_Sha.cuts [] Try.f157 (k + 1) [.v (.nums 5 .u8 a0z a0)] = spec_Sha.b (fun r => some (spec_Sha.enc r)) (fun x3z x3 x4z x4 x5 => rounds Try.prog spec_Sha.Cs (finish Try.prog [] Try.f157 [.v (.nums 5 .u8 a0z a0)]) 100000 k spec_Sha.K0 (spec_Sha.N0 x3z x3 x4z x4 x5)) (fun x6 x26z x26 x27 x28 => rounds Try.prog spec_Sha.Cs (finish Try.prog [] Try.f157 [.v (.nums 5 .u8 a0z a0)]) 100000 k spec_Sha.K1 (spec_Sha.N1 x6 x26z x26 x27 x28)) k a0z a0 := by kernel_rfl
theorem spec_Sha.s0 (k : Nat) (G : List Fr → St → Option Res) (a0z : Bool) (a0 : List Int) (yx3z : Bool) (yx3 : List Int) (yx4z : Bool) (yx4 : List Int) (yx5 : Int) : resume Try.prog (spec_Sha.Cs k) G (finish Try.prog [] Try.f157 [.v (.nums 5 .u8 a0z a0)]) 100000 spec_Sha.K0 (spec_Sha.N0 yx3z yx3 yx4z yx4 yx5) = spec_Sha.l0b (fun r => some (spec_Sha.enc r)) (fun x3z x3 x4z x4 x5 => G spec_Sha.K0 (spec_Sha.N0 x3z x3 x4z x4 x5)) (fun x6 x26z x26 x27 x28 => G spec_Sha.K1 (spec_Sha.N1 x6 x26z x26 x27 x28)) k yx3z yx3 yx4z yx4 yx5 := by kernel_rfl
theorem spec_Sha.s1 (k : Nat) (G : List Fr → St → Option Res) (a0z : Bool) (a0 : List Int) (yx6 : List Int) (yx26z : Bool) (yx26 : List Int) (yx27 : Int) (yx28 : Int) : resume Try.prog (spec_Sha.Cs k) G (finish Try.prog [] Try.f157 [.v (.nums 5 .u8 a0z a0)]) 100000 spec_Sha.K1 (spec_Sha.N1 yx6 yx26z yx26 yx27 yx28) = spec_Sha.l1b (fun r => some (spec_Sha.enc r)) (fun x3z x3 x4z x4 x5 => G spec_Sha.K0 (spec_Sha.N0 x3z x3 x4z x4 x5)) (fun x6 x26z x26 x27 x28 => G spec_Sha.K1 (spec_Sha.N1 x6 x26z x26 x27 x28)) k yx6 yx26z yx26 yx27 yx28 := by kernel_rfl
theorem spec_Sha.b_nat {R R' : Type} (e : R → R') (ret : Bool × List Int → Option R) (j0 : Bool → (List Int) → Bool → (List Int) → Int → Option R) (j1 : (List Int) → Bool → (List Int) → Int → Int → Option R) (k : Nat) (a0z : Bool) (a0 : List Int) : spec_Sha.b (fun r => (ret r).map e) (fun x3z x3 x4z x4 x5 => (j0 x3z x3 x4z x4 x5).map e) (fun x6 x26z x26 x27 x28 => (j1 x6 x26z x26 x27 x28).map e) k a0z a0 = (spec_Sha.b ret j0 j1 k a0z a0).map e := by
  unfold spec_Sha.b
  repeat' first | with_reducible refine nat_cond ?_ ?_ | with_reducible refine nat_bind fun _ => ?_ | rfl
theorem spec_Sha.l0b_nat {R R' : Type} (e : R → R') (ret : Bool × List Int → Option R) (j0 : Bool → (List Int) → Bool → (List Int) → Int → Option R) (j1 : (List Int) → Bool → (List Int) → Int → Int → Option R) (k : Nat) (x3z : Bool) (x3 : List Int) (x4z : Bool) (x4 : List Int) (x5 : Int) : spec_Sha.l0b (fun r => (ret r).map e) (fun x3z x3 x4z x4 x5 => (j0 x3z x3 x4z x4 x5).map e) (fun x6 x26z x26 x27 x28 => (j1 x6 x26z x26 x27 x28).map e) k x3z x3 x4z x4 x5 = (spec_Sha.l0b ret j0 j1 k x3z x3 x4z x4 x5).map e := by
  unfold spec_Sha.l0b
  repeat' first | with_reducible refine nat_cond ?_ ?_ | with_reducible refine nat_bind fun _ => ?_ | rfl
theorem spec_Sha.l1b_nat {R R' : Type} (e : R → R') (ret : Bool × List Int → Option R) (j0 : Bool → (List Int) → Bool → (List Int) → Int → Option R) (j1 : (List Int) → Bool → (List Int) → Int → Int → Option R) (k : Nat) (x6 : List Int) (x26z : Bool) (x26 : List Int) (x27 : Int) (x28 : Int) : spec_Sha.l1b (fun r => (ret r).map e) (fun x3z x3 x4z x4 x5 => (j0 x3z x3 x4z x4 x5).map e) (fun x6 x26z x26 x27 x28 => (j1 x6 x26z x26 x27 x28).map e) k x6 x26z x26 x27 x28 = (spec_Sha.l1b ret j0 j1 k x6 x26z x26 x27 x28).map e := by
  unfold spec_Sha.l1b
  repeat' first | with_reducible refine nat_cond ?_ ?_ | with_reducible refine nat_bind fun _ => ?_ | rfl
theorem spec_Sha.rounds_eq (a0z : Bool) (a0 : List Int) : ∀ k, (∀ (x3z : Bool) (x3 : List Int) (x4z : Bool) (x4 : List Int) (x5 : Int), rounds Try.prog spec_Sha.Cs (finish Try.prog [] Try.f157 [.v (.nums 5 .u8 a0z a0)]) 100000 k spec_Sha.K0 (spec_Sha.N0 x3z x3 x4z x4 x5) = (spec_Sha.l0 k x3z x3 x4z x4 x5).map spec_Sha.enc) ∧ (∀ (x6 : List Int) (x26z : Bool) (x26 : List Int) (x27 : Int) (x28 : Int), rounds Try.prog spec_Sha.Cs (finish Try.prog [] Try.f157 [.v (.nums 5 .u8 a0z a0)]) 100000 k spec_Sha.K1 (spec_Sha.N1 x6 x26z x26 x27 x28) = (spec_Sha.l1 k x6 x26z x26 x27 x28).map spec_Sha.enc)
  | 0 => ⟨fun _ _ _ _ _ => rfl, fun _ _ _ _ _ => rfl⟩
  | k + 1 => by
    have ih := spec_Sha.rounds_eq a0z a0 k
    refine ⟨fun _ _ _ _ _ => ?_, fun _ _ _ _ _ => ?_⟩
    · refine (spec_Sha.s0 k _ a0z a0 _ _ _ _ _).trans (Eq.trans ?_ (spec_Sha.l0b_nat spec_Sha.enc some (spec_Sha.l0 k) (spec_Sha.l1 k) k _ _ _ _ _))
      simp only [ih.1, ih.2, Option.map_some]
    · refine (spec_Sha.s1 k _ a0z a0 _ _ _ _ _).trans (Eq.trans ?_ (spec_Sha.l1b_nat spec_Sha.enc some (spec_Sha.l0 k) (spec_Sha.l1 k) k _ _ _ _ _))
      simp only [ih.1, ih.2, Option.map_some]
theorem spec_Sha.eq (k : Nat) (a0z : Bool) (a0 : List Int) : answer Try.prog spec_Sha.Cs 100000 spec_Sha.cuts [] Try.f157 (k + 1) [.v (.nums 5 .u8 a0z a0)] = (spec_Sha.f (k + 1) a0z a0).map spec_Sha.enc := by
  have ih := spec_Sha.rounds_eq a0z a0 k
  refine (spec_Sha.s k a0z a0).trans (Eq.trans ?_ (spec_Sha.b_nat spec_Sha.enc some (spec_Sha.l0 k) (spec_Sha.l1 k) k a0z a0))
  simp only [ih.1, ih.2, Option.map_some]
theorem spec_Sha.sound (k : Nat) : SoundF Try.prog 157 (fun a => (spec_Sha.ans k a).val) := by
  refine sound_plain (fun args res h => ?_) (fun t n => rfl)
  unfold spec_Sha.ans at h
  dsimp only at h
  split at h
  · cases k with
    | zero => cases h
    | succ k =>
      unfold Ans.val at h
      rw [← spec_Sha.eq] at h
      exact answer_sound mixed Try.func157 _ _ _ (k + 1) (fun j _ => tab_sound (tab_cons (spec_ShaInit.sound j) (tab_cons (spec_ShaPad.sound j) (tab_cons (spec_ShaBlock.sound j) (tab_nil))))) _ _ h
  · exact (Ans.no_val h).elim

/-! loop.example/g00790/spec.MacKey -/
def spec_MacKey.b {R : Type} (ret : Bool × List Int → Option R) (j0 : Bool → (List Int) → Option R) (k : Nat) (a0z : Bool) (a0 : List Int) : Option R :=
  (spec_l01Copy.f k a0z a0).bind fun t0 => cond (decide (((t0.2).length : Int) > 64)) ((spec_Sha.f k t0.1 t0.2).bind fun t1 => j0 t1.1 t1.2) (j0 t0.1 t0.2)
def spec_MacKey.l0b {R : Type} (ret : Bool × List Int → Option R) (j0 : Bool → (List Int) → Option R) (k : Nat) (x3z : Bool) (x3 : List Int) : Option R :=
  cond (decide (((x3).length : Int) < 64)) (cond (decide ((x3).length + 1 < 140737488355328)) (j0 false (x3 ++ ([0] : List Int))) (none)) (ret (x3z, x3))
def spec_MacKey.l0 : Nat → Bool → (List Int) → Option (Bool × List Int)
  | 0, _, _ => none
  | k + 1, x3z, x3 => spec_MacKey.l0b some (spec_MacKey.l0 k) k x3z x3
def spec_MacKey.f : Nat → Bool → (List Int) → Option (Bool × List Int)
  | 0, _, _ => none
  | k + 1, a0z, a0 => spec_MacKey.b some (spec_MacKey.l0 k) k a0z a0
def spec_MacKey.enc (r : Bool × List Int) : Res := ⟨[.vals false [((.nums 5 .u8 r.1 r.2), true)]], []⟩
def spec_MacKey.ans (k : Nat) : List Arg → Ans
  | [.v (.nums 5 .u8 a0z a0)] => ⟨spec_MacKey.f k a0z a0, spec_MacKey.enc⟩
  | _ => Ans.no
def spec_MacKey.Cs (k : Nat) : CallSem := tab [(130, spec_l01Copy.ans k), (157, spec_Sha.ans k)]
def spec_MacKey.cuts : List (Nat × Keep) := [(60, ⟨[(3, none)], []⟩)]
noncomputable def spec_MacKey.K0 : List Fr := framesAt [true, true, true, false, false] (bodyOf Try.f183 spec_MacKey.cuts) []
def spec_MacKey.N0 (x3z : Bool) (x3 : List Int) : St := stOf 18 18 1 [(3, .val ⟨(.nums 5 .u8 x3z x3), [.l 3 0], true, some (.l 3 0)⟩)] []
theorem spec_MacKey.s (k : Nat) (a0z : Bool) (a0 : List Int) : answer Try.prog spec_MacKey.Cs 100000 spec_MacKey.cuts [] Try.f183 (k + 1) [.v (.nums 5 .u8 a0z a0)] = spec_MacKey.b (fun r => some (spec_MacKey.enc r)) (fun x3z x3 => rounds Try.prog spec_MacKey.Cs (finish Try.prog [] Try.f183 [.v (.nums 5 .u8 a0z a0)]) 100000 k spec_MacKey.K0 (spec_MacKey.N0 x3z x3)) k a0z a0 := by kernel_rfl
theorem spec_MacKey.s0 (k : Nat) (G : List Fr → St → Option Res) (a0z : Bool) (a0 : List Int) (yx3z : Bool) (yx3 : List Int) : resume Try.prog (spec_MacKey.Cs k) G (finish Try.prog [] Try.f183 [.v (.nums 5 .u8 a0z a0)]) 100000 spec_MacKey.K0 (spec_MacKey.N0 yx3z yx3) = spec_MacKey.l0b (fun r => some (spec_MacKey.enc r)) (fun x3z x3 => G spec_MacKey.K0 (spec_MacKey.N0 x3z x3)) k yx3z yx3 := by kernel_rfl
theorem spec_MacKey.b_nat {R R' : Type} (e : R → R') (ret : Bool × List Int → Option R) (j0 : Bool → (List Int) → Option R) (k : Nat) (a0z : Bool) (a0 : List Int) : spec_MacKey.b (fun r => (ret r).map e) (fun x3z x3 => (j0 x3z x3).map e) k a0z a0 = (spec_MacKey.b ret j0 k a0z a0).map e := by
  unfold spec_MacKey.b
  repeat' first | with_reducible refine nat_cond ?_ ?_ | with_reducible refine nat_bind fun _ => ?_ | rfl
theorem spec_MacKey.l0b_nat {R R' : Type} (e : R → R') (ret : Bool × List Int → Option R) (j0 : Bool → (List Int) → Option R) (k : Nat) (x3z : Bool) (x3 : List Int) : spec_MacKey.l0b (fun r => (ret r).map e) (fun x3z x3 => (j0 x3z x3).map e) k x3z x3 = (spec_MacKey.l0b ret j0 k x3z x3).map e := by
  unfold spec_MacKey.l0b
  repeat' first | with_reducible refine nat_cond ?_ ?_ | with_reducible refine nat_bind fun _ => ?_ | rfl
theorem spec_MacKey.rounds_eq (a0z : Bool) (a0 : List Int) : ∀ k, (∀ (x3z : Bool) (x3 : List Int), rounds Try.prog spec_MacKey.Cs (finish Try.prog [] Try.f183 [.v (.nums 5 .u8 a0z a0)]) 100000 k spec_MacKey.K0 (spec_MacKey.N0 x3z x3) = (spec_MacKey.l0 k x3z x3).map spec_MacKey.enc)
  | 0 => fun _ _ => rfl
  | k + 1 => by
    have ih := spec_MacKey.rounds_eq a0z a0 k
    refine fun _ _ => ?_
    · refine (spec_MacKey.s0 k _ a0z a0 _ _).trans (Eq.trans ?_ (spec_MacKey.l0b_nat spec_MacKey.enc some (spec_MacKey.l0 k) k _ _))
      simp only [ih, Option.map_some]
theorem spec_MacKey.eq (k : Nat) (a0z : Bool) (a0 : List Int) : answer Try.prog spec_MacKey.Cs 100000 spec_MacKey.cuts [] Try.f183 (k + 1) [.v (.nums 5 .u8 a0z a0)] = (spec_MacKey.f (k + 1) a0z a0).map spec_MacKey.enc := by
  have ih := spec_MacKey.rounds_eq a0z a0 k
  refine (spec_MacKey.s k a0z a0).trans (Eq.trans ?_ (spec_MacKey.b_nat spec_MacKey.enc some (spec_MacKey.l0 k) k a0z a0))
  simp only [ih, Option.map_some]
theorem spec_MacKey.sound (k : Nat) : SoundF Try.prog 183 (fun a => (spec_MacKey.ans k a).val) := by
  refine sound_plain (fun args res h => ?_) (fun t n => rfl)
  unfold spec_MacKey.ans at h
  dsimp only at h
  split at h
  · cases k with
    | zero => cases h
    | succ k =>
      unfold Ans.val at h
      rw [← spec_MacKey.eq] at h
      exact answer_sound mixed Try.func183 _ _ _ (k + 1) (fun j _ => tab_sound (tab_cons (spec_l01Copy.sound j) (tab_cons (spec_Sha.sound j) (tab_nil)))) _ _ h
  · exact (Ans.no_val h).elim

/-! loop.example/g00790/spec.Mac -/
def spec_Mac.b {R : Type} (ret : Bool × List Int → Option R) (j0 : Bool → (List Int) → (List Int) → (List Int) → Bool → (List Int) → Int → Int → Option R) (k : Nat) (a0z : Bool) (a0 : List Int) (a1z : Bool) (a1 : List Int) : Option R :=
  (spec_MacKey.f k a0z a0).bind fun t0 => j0 a1z a1 ([] : List Int) ([] : List Int) t0.1 t0.2 ((t0.2).length : Int) 0
def spec_Mac.l0b {R : Type} (ret : Bool × List Int → Option R) (j0 : Bool → (List Int) → (List Int) → (List Int) → Bool → (List Int) → Int → Int → Option R) (k : Nat) (x1z : Bool) (x1 : List Int) (x5 : List Int) (x6 : List Int) (x12z : Bool) (x12 : List Int) (x13 : Int) (x14 : Int) : Option R :=
  cond (decide (x14 < x13)) (cond (decide ((0 : Int) ≤ x14)) (cond (decide (x14 < ((x12).length : Int))) (cond (decide ((x5).length + 1 < 140737488355328)) (cond (decide ((x6).length + 1 < 140737488355328)) (j0 x1z x1 (x5 ++ ([(Go.bits .xor .u8 (rdI x12 x14) 54)] : List Int)) (x6 ++ ([(Go.bits .xor .u8 (rdI x12 x14) 92)] : List Int)) x12z x12 x13 (RowKit.wrap64 (x14 + 1))) (none)) (none)) (none)) (none)) (cond (decide ((x5).length + (x1).length < 140737488355328)) ((spec_Sha.f k ((x1).isEmpty && false) (x5 ++ x1)).bind fun t0 => cond (decide ((x6).length + (t0.2).length < 140737488355328)) ((spec_Sha.f k ((t0.2).isEmpty && false) (x6 ++ t0.2)).bind fun t1 => ret (t1.1, t1.2)) (none)) (none))
def spec_Mac.l0 : Nat → Bool → (List Int) → (List Int) → (List Int) → Bool → (List Int) → Int → Int → Option (Bool × List Int)
  | 0, _, _, _, _, _, _, _, _ => none
  | k + 1, x1z, x1, x5, x6, x12z, x12, x13, x14 => spec_Mac.l0b some (spec_Mac.l0 k) k x1z x1 x5 x6 x12z x12 x13 x14
def spec_Mac.f : Nat → Bool → (List Int) → Bool → (List Int) → Option (Bool × List Int)
  | 0, _, _, _, _ => none
  | k + 1, a0z, a0, a1z, a1 => spec_Mac.b some (spec_Mac.l0 k) k a0z a0 a1z a1
def spec_Mac.enc (r : Bool × List Int) : Res := ⟨[.vals false [((.nums 5 .u8 r.1 r.2), true)]], []⟩
def spec_Mac.ans (k : Nat) : List Arg → Ans
  | [.v (.nums 5 .u8 a0z a0), .v (.nums 5 .u8 a1z a1)] => ⟨spec_Mac.f k a0z a0 a1z a1, spec_Mac.enc⟩
  | _ => Ans.no
def spec_Mac.Cs (k : Nat) : CallSem := tab [(183, spec_MacKey.ans k), (157, spec_Sha.ans k)]
def spec_Mac.cuts : List (Nat × Keep) := [(122, ⟨[(1, some []), (5, none), (6, none), (12, none), (13, some []), (14, some [])], []⟩)]
noncomputable def spec_Mac.K0 : List Fr := framesAt [true, true, true, false, true, false] (bodyOf Try.f123 spec_Mac.cuts) []
def spec_Mac.N0 (x1z : Bool) (x1 : List Int) (x5 : List Int) (x6 : List Int) (x12z : Bool) (x12 : List Int) (x13 : Int) (x14 : Int) : St := stOf 36 36 2 [(1, .val ⟨(.nums 5 .u8 x1z x1), [], false, none⟩), (5, .val ⟨(.nums 5 .u8 false x5), [.l 5 0], true, some (.l 5 0)⟩), (6, .val ⟨(.nums 5 .u8 false x6), [.l 6 0], true, some (.l 6 0)⟩), (12, .val ⟨(.nums 5 .u8 x12z x12), [.l 12 0], true, some (.l 12 0)⟩), (13, .val (V.s (.int .i64 x13))), (14, .val (V.s (.int .i64 x14)))] []
theorem spec_Mac.s (k : Nat) (a0z : Bool) (a0 : List Int) (a1z : Bool) (a1 : List Int) : answer Try.prog spec_Mac.Cs 100000 spec_Mac.cuts [] Try.f123 (k + 1) [.v (.nums 5 .u8 a0z a0), .v (.nums 5 .u8 a1z a1)] = spec_Mac.b (fun r => some (spec_Mac.enc r)) (fun x1z x1 x5 x6 x12z x12 x13 x14 => rounds Try.prog spec_Mac.Cs (finish Try.prog [] Try.f123 [.v (.nums 5 .u8 a0z a0), .v (.nums 5 .u8 a1z a1)]) 100000 k spec_Mac.K0 (spec_Mac.N0 x1z x1 x5 x6 x12z x12 x13 x14)) k a0z a0 a1z a1 := by kernel_rfl
theorem spec_Mac.s0 (k : Nat) (G : List Fr → St → Option Res) (a0z : Bool) (a0 : List Int) (a1z : Bool) (a1 : List Int) (yx1z : Bool) (yx1 : List Int) (yx5 : List Int) (yx6 : List Int) (yx12z : Bool) (yx12 : List Int) (yx13 : Int) (yx14 : Int) : resume Try.prog (spec_Mac.Cs k) G (finish Try.prog [] Try.f123 [.v (.nums 5 .u8 a0z a0), .v (.nums 5 .u8 a1z a1)]) 100000 spec_Mac.K0 (spec_Mac.N0 yx1z yx1 yx5 yx6 yx12z yx12 yx13 yx14) = spec_Mac.l0b (fun r => some (spec_Mac.enc r)) (fun x1z x1 x5 x6 x12z x12 x13 x14 => G spec_Mac.K0 (spec_Mac.N0 x1z x1 x5 x6 x12z x12 x13 x14)) k yx1z yx1 yx5 yx6 yx12z yx12 yx13 yx14 := by kernel_rfl
theorem spec_Mac.b_nat {R R' : Type} (e : R → R') (ret : Bool × List Int → Option R) (j0 : Bool → (List Int) → (List Int) → (List Int) → Bool → (List Int) → Int → Int → Option R) (k : Nat) (a0z : Bool) (a0 : List Int) (a1z : Bool) (a1 : List Int) : spec_Mac.b (fun r => (ret r).map e) (fun x1z x1 x5 x6 x12z x12 x13 x14 => (j0 x1z x1 x5 x6 x12z x12 x13 x14).map e) k a0z a0 a1z a1 = (spec_Mac.b ret j0 k a0z a0 a1z a1).map e := by
  unfold spec_Mac.b
  repeat' first | with_reducible refine nat_cond ?_ ?_ | with_reducible refine nat_bind fun _ => ?_ | rfl
theorem spec_Mac.l0b_nat {R R' : Type} (e : R → R') (ret : Bool × List Int → Option R) (j0 : Bool → (List Int) → (List Int) → (List Int) → Bool → (List Int) → Int → Int → Option R) (k : Nat) (x1z : Bool) (x1 : List Int) (x5 : List Int) (x6 : List Int) (x12z : Bool) (x12 : List Int) (x13 : Int) (x14 : Int) : spec_Mac.l0b (fun r => (ret r).map e) (fun x1z x1 x5 x6 x12z x12 x13 x14 => (j0 x1z x1 x5 x6 x12z x12 x13 x14).map e) k x1z x1 x5 x6 x12z x12 x13 x14 = (spec_Mac.l0b ret j0 k x1z x1 x5 x6 x12z x12 x13 x14).map e := by
  unfold spec_Mac.l0b
  repeat' first | with_reducible refine nat_cond ?_ ?_ | with_reducible refine nat_bind fun _ => ?_ | rfl
theorem spec_Mac.rounds_eq (a0z : Bool) (a0 : List Int) (a1z : Bool) (a1 : List Int) : ∀ k, (∀ (x1z : Bool) (x1 : List Int) (x5 : List Int) (x6 : List Int) (x12z : Bool) (x12 : List Int) (x13 : Int) (x14 : Int), rounds Try.prog spec_Mac.Cs (finish Try.prog [] Try.f123 [.v (.nums 5 .u8 a0z a0), .v (.nums 5 .u8 a1z a1)]) 100000 k spec_Mac.K0 (spec_Mac.N0 x1z x1 x5 x6 x12z x12 x13 x14) = (spec_Mac.l0 k x1z x1 x5 x6 x12z x12 x13 x14).map spec_Mac.enc)
  | 0 => fun _ _ _ _ _ _ _ _ => rfl
  | k + 1 => by
    have ih := spec_Mac.rounds_eq a0z a0 a1z a1 k
    refine fun _ _ _ _ _ _ _ _ => ?_
    · refine (spec_Mac.s0 k _ a0z a0 a1z a1 _ _ _ _ _ _ _ _).trans (Eq.trans ?_ (spec_Mac.l0b_nat spec_Mac.enc some (spec_Mac.l0 k) k _ _ _ _ _ _ _ _))
      simp only [ih, Option.map_some]
theorem spec_Mac.eq (k : Nat) (a0z : Bool) (a0 : List Int) (a1z : Bool) (a1 : List Int) : answer Try.prog spec_Mac.Cs 100000 spec_Mac.cuts [] Try.f123 (k + 1) [.v (.nums 5 .u8 a0z a0), .v (.nums 5 .u8 a1z a1)] = (spec_Mac.f (k + 1) a0z a0 a1z a1).map spec_Mac.enc := by
  have ih := spec_Mac.rounds_eq a0z a0 a1z a1 k
  refine (spec_Mac.s k a0z a0 a1z a1).trans (Eq.trans ?_ (spec_Mac.b_nat spec_Mac.enc some (spec_Mac.l0 k) k a0z a0 a1z a1))
  simp only [ih, Option.map_some]
theorem spec_Mac.sound (k : Nat) : SoundF Try.prog 123 (fun a => (spec_Mac.ans k a).val) := by
  refine sound_plain (fun args res h => ?_) (fun t n => rfl)
  unfold spec_Mac.ans at h
  dsimp only at h
  split at h
  · cases k with
    | zero => cases h
    | succ k =>
      unfold Ans.val at h
      rw [← spec_Mac.eq] at h
      exact answer_sound mixed Try.func123 _ _ _ (k + 1) (fun j _ => tab_sound (tab_cons (spec_MacKey.sound j) (tab_cons (spec_Sha.sound j) (tab_nil)))) _ _ h
  · exact (Ans.no_val h).elim

/-! loop.example/g00790/spec.SignVote -/
def spec_SignVote.b {R : Type} (ret : Int × Int × Bool × (List Int) × Int × Bool × (List Int) × Bool → Option R) (k : Nat) (a0_0z : Bool) (a0_0 : List T) (a1 : Int) (a2 : Int) (a3z : Bool) (a3 : List Int) (a4 : Int) : Option R :=
  (spec_VoteBytes.f k a1 a2 a3z a3).bind fun t0 => (spec_TableOk.f k a0_0z a0_0).bind fun t1 => cond (!t1) (ret (0, 0, true, ([] : List Int), 0, true, ([] : List Int), false)) (cond (decide (((t0.2).length : Int) = 0)) (ret (0, 0, true, ([] : List Int), 0, true, ([] : List Int), false)) ((spec_l01In.f k a4 0 (RowKit.wrap64 (((a0_0).length : Int) - 1))).bind fun t2 => cond (!t2) (ret (0, 0, true, ([] : List Int), 0, true, ([] : List Int), false)) ((spec_l01Copy.f k a3z a3).bind fun t3 => cond (decide ((0 : Int) ≤ a4)) (cond (decide (a4 < ((a0_0).length : Int))) ((spec_Mac.f k (((((a0_0).getD (a4).toNat .bad).cells.getD 1 .bad)).isNil) (((((a0_0).getD (a4).toNat .bad).cells.getD 1 .bad)).toNums) t0.1 t0.2).bind fun t4 => ret (a1, a2, t3.1, t3.2, a4, t4.1, t4.2, true)) (none)) (none))))
def spec_SignVote.f : Nat → Bool → (List T) → Int → Int → Bool → (List Int) → Int → Option (Int × Int × Bool × (List Int) × Int × Bool × (List Int) × Bool)
  | 0, _, _, _, _, _, _, _ => none
  | k + 1, a0_0z, a0_0, a1, a2, a3z, a3, a4 => spec_SignVote.b some k a0_0z a0_0 a1 a2 a3z a3 a4
def spec_SignVote.enc (r : Int × Int × Bool × (List Int) × Int × Bool × (List Int) × Bool) : Res := ⟨[.vals true [((.int .i64 r.1), true), ((.int .i64 r.2.1), true), ((.nums 5 .u8 r.2.2.1 r.2.2.2.1), true), ((.int .i64 r.2.2.2.2.1), true), ((.nums 5 .u8 r.2.2.2.2.2.1 r.2.2.2.2.2.2.1), true)], .vals false [((.bool r.2.2.2.2.2.2.2), true)]], []⟩
def spec_SignVote.ans (k : Nat) : List Arg → Ans
  | [.v (.agg [(.sl 160 a0_0z a0_0)]), .v (.int .i64 a1), .v (.int .i64 a2), .v (.nums 5 .u8 a3z a3), .v (.int .i64 a4)] => ⟨spec_SignVote.f k a0_0z a0_0 a1 a2 a3z a3 a4, spec_SignVote.enc⟩
  | _ => Ans.no
def spec_SignVote.Cs (k : Nat) : CallSem := tab [(129, spec_VoteBytes.ans k), (122, spec_l01In.ans k), (130, spec_l01Copy.ans k), (121, spec_TableOk.ans k), (123, spec_Mac.ans k)]
def spec_SignVote.cuts : List (Nat × Keep) := []
theorem spec_SignVote.s (k : Nat) (a0_0z : Bool) (a0_0 : List T) (a1 : Int) (a2 : Int) (a3z : Bool) (a3 : List Int) (a4 : Int) : answer Try.prog spec_SignVote.Cs 100000 spec_SignVote.cuts [] Try.f49 (k + 1) [.v (.agg [(.sl 160 a0_0z a0_0)]), .v (.int .i64 a1), .v (.int .i64 a2), .v (.nums 5 .u8 a3z a3), .v (.int .i64 a4)] = spec_SignVote.b (fun r => some (spec_SignVote.enc r)) k a0_0z a0_0 a1 a2 a3z a3 a4 := by kernel_rfl
theorem spec_SignVote.b_nat {R R' : Type} (e : R → R') (ret : Int × Int × Bool × (List Int) × Int × Bool × (List Int) × Bool → Option R) (k : Nat) (a0_0z : Bool) (a0_0 : List T) (a1 : Int) (a2 : Int) (a3z : Bool) (a3 : List Int) (a4 : Int) : spec_SignVote.b (fun r => (ret r).map e) k a0_0z a0_0 a1 a2 a3z a3 a4 = (spec_SignVote.b ret k a0_0z a0_0 a1 a2 a3z a3 a4).map e := by
  unfold spec_SignVote.b
  repeat' first | with_reducible refine nat_cond ?_ ?_ | with_reducible refine nat_bind fun _ => ?_ | rfl
theorem spec_SignVote.eq (k : Nat) (a0_0z : Bool) (a0_0 : List T) (a1 : Int) (a2 : Int) (a3z : Bool) (a3 : List Int) (a4 : Int) : answer Try.prog spec_SignVote.Cs 100000 spec_SignVote.cuts [] Try.f49 (k + 1) [.v (.agg [(.sl 160 a0_0z a0_0)]), .v (.int .i64 a1), .v (.int .i64 a2), .v (.nums 5 .u8 a3z a3), .v (.int .i64 a4)] = (spec_SignVote.f (k + 1) a0_0z a0_0 a1 a2 a3z a3 a4).map spec_SignVote.enc := by
  refine (spec_SignVote.s k a0_0z a0_0 a1 a2 a3z a3 a4).trans (Eq.trans ?_ (spec_SignVote.b_nat spec_SignVote.enc some k a0_0z a0_0 a1 a2 a3z a3 a4))
  simp only [Option.map_some]
theorem spec_SignVote.sound (k : Nat) : SoundF Try.prog 49 (fun a => (spec_SignVote.ans k a).val) := by
  refine sound_plain (fun args res h => ?_) (fun t n => rfl)
  unfold spec_SignVote.ans at h
  dsimp only at h
  split at h
  · cases k with
    | zero => cases h
    | succ k =>
      unfold Ans.val at h
      rw [← spec_SignVote.eq] at h
      exact answer_sound mixed Try.func49 _ _ _ (k + 1) (fun j _ => tab_sound (tab_cons (spec_VoteBytes.sound j) (tab_cons (spec_l01In.sound j) (tab_cons (spec_l01Copy.sound j) (tab_cons (spec_TableOk.sound j) (tab_cons (spec_Mac.sound j) (tab_nil))))))) _ _ h
  · exact (Ans.no_val h).elim

/-! loop.example/g00790/impl.within -/
def impl_within.b {R : Type} (ret : Bool → Option R) (k : Nat) (a0 : Int) (a1 : Int) (a2 : Int) : Option R :=
  cond (decide (a1 ≤ a0)) (ret (decide (a0 ≤ a2))) (ret false)
def impl_within.f : Nat → Int → Int → Int → Option Bool
  | 0, _, _, _ => none
  | k + 1, a0, a1, a2 => impl_within.b some k a0 a1 a2
def impl_within.enc (r : Bool) : Res := ⟨[.vals false [((.bool r), true)]], []⟩
def impl_within.ans (k : Nat) : List Arg → Ans
  | [.v (.int .i64 a0), .v (.int .i64 a1), .v (.int .i64 a2)] => ⟨impl_within.f k a0 a1 a2, impl_within.enc⟩
  | _ => Ans.no
def impl_within.Cs (k : Nat) : CallSem := tab []
def impl_within.cuts : List (Nat × Keep) := []
theorem impl_within.s (k : Nat) (a0 : Int) (a1 : Int) (a2 : Int) : answer Try.prog impl_within.Cs 100000 impl_within.cuts [] Try.f126 (k + 1) [.v (.int .i64 a0), .v (.int .i64 a1), .v (.int .i64 a2)] = impl_within.b (fun r => some (impl_within.enc r)) k a0 a1 a2 := by kernel_rfl
theorem impl_within.b_nat {R R' : Type} (e : R → R') (ret : Bool → Option R) (k : Nat) (a0 : Int) (a1 : Int) (a2 : Int) : impl_within.b (fun r => (ret r).map e) k a0 a1 a2 = (impl_within.b ret k a0 a1 a2).map e := by
  unfold impl_within.b
  repeat' first | with_reducible refine nat_cond ?_ ?_ | with_reducible refine nat_bind fun _ => ?_ | rfl
theorem impl_within.eq (k : Nat) (a0 : Int) (a1 : Int) (a2 : Int) : answer Try.prog impl_within.Cs 100000 impl_within.cuts [] Try.f126 (k + 1) [.v (.int .i64 a0), .v (.int .i64 a1), .v (.int .i64 a2)] = (impl_within.f (k + 1) a0 a1 a2).map impl_within.enc := by
  refine (impl_within.s k a0 a1 a2).trans (Eq.trans ?_ (impl_within.b_nat impl_within.enc some k a0 a1 a2))
  simp only [Option.map_some]
theorem impl_within.sound (k : Nat) : SoundF Try.prog 126 (fun a => (impl_within.ans k a).val) := by
  refine sound_plain (fun args res h => ?_) (fun t n => rfl)
  unfold impl_within.ans at h
  dsimp only at h
  split at h
  · cases k with
    | zero => cases h
    | succ k =>
      unfold Ans.val at h
      rw [← impl_within.eq] at h
      exact answer_sound mixed Try.func126 _ _ _ (k + 1) (fun j _ => tab_sound (tab_nil)) _ _ h
  · exact (Ans.no_val h).elim

/-! loop.example/g00790/impl.isNum -/
def impl_isNum.b {R : Type} (ret : Bool → Option R) (k : Nat) (a0 : Int) : Option R :=
  (impl_within.f k a0 0 1152921504606846975).bind fun t0 => ret t0
def impl_isNum.f : Nat → Int → Option Bool
  | 0, _ => none
  | k + 1, a0 => impl_isNum.b some k a0
def impl_isNum.enc (r : Bool) : Res := ⟨[.vals false [((.bool r), true)]], []⟩
def impl_isNum.ans (k : Nat) : List Arg → Ans
  | [.v (.int .i64 a0)] => ⟨impl_isNum.f k a0, impl_isNum.enc⟩
  | _ => Ans.no
def impl_isNum.Cs (k : Nat) : CallSem := tab [(126, impl_within.ans k)]
def impl_isNum.cuts : List (Nat × Keep) := []
theorem impl_isNum.s (k : Nat) (a0 : Int) : answer Try.prog impl_isNum.Cs 100000 impl_isNum.cuts [] Try.f161 (k + 1) [.v (.int .i64 a0)] = impl_isNum.b (fun r => some (impl_isNum.enc r)) k a0 := by kernel_rfl
theorem impl_isNum.b_nat {R R' : Type} (e : R → R') (ret : Bool → Option R) (k : Nat) (a0 : Int) : impl_isNum.b (fun r => (ret r).map e) k a0 = (impl_isNum.b ret k a0).map e := by
  unfold impl_isNum.b
  repeat' first | with_reducible refine nat_cond ?_ ?_ | with_reducible refine nat_bind fun _ => ?_ | rfl
theorem impl_isNum.eq (k : Nat) (a0 : Int) : answer Try.prog impl_isNum.Cs 100000 impl_isNum.cuts [] Try.f161 (k + 1) [.v (.int .i64 a0)] = (impl_isNum.f (k + 1) a0).map impl_isNum.enc := by
  refine (impl_isNum.s k a0).trans (Eq.trans ?_ (impl_isNum.b_nat impl_isNum.enc some k a0))
  simp only [Option.map_some]
theorem impl_isNum.sound (k : Nat) : SoundF Try.prog 161 (fun a => (impl_isNum.ans k a).val) := by
  refine sound_plain (fun args res h => ?_) (fun t n => rfl)
  unfold impl_isNum.ans at h
  dsimp only at h
  split at h
  · cases k with
    | zero => cases h
    | succ k =>
      unfold Ans.val at h
      rw [← impl_isNum.eq] at h
      exact answer_sound mixed Try.func161 _ _ _ (k + 1) (fun j _ => tab_sound (tab_cons (impl_within.sound j) (tab_nil))) _ _ h
  · exact (Ans.no_val h).elim

/-! loop.example/g00790/impl.copyBytes -/
def impl_copyBytes.b {R : Type} (ret : Bool × List Int → Option R) (k : Nat) (a0z : Bool) (a0 : List Int) : Option R :=
  cond (decide (0 + (a0).length < 140737488355328)) (ret (((a0).isEmpty && false), a0)) (none)
def impl_copyBytes.f : Nat → Bool → (List Int) → Option (Bool × List Int)
  | 0, _, _ => none
  | k + 1, a0z, a0 => impl_copyBytes.b some k a0z a0
def impl_copyBytes.enc (r : Bool × List Int) : Res := ⟨[.vals false [((.nums 5 .u8 r.1 r.2), true)]], []⟩
def impl_copyBytes.ans (k : Nat) : List Arg → Ans
  | [.v (.nums 5 .u8 a0z a0)] => ⟨impl_copyBytes.f k a0z a0, impl_copyBytes.enc⟩
  | _ => Ans.no
def impl_copyBytes.Cs (k : Nat) : CallSem := tab []
def impl_copyBytes.cuts : List (Nat × Keep) := []
theorem impl_copyBytes.s (k : Nat) (a0z : Bool) (a0 : List Int) : answer Try.prog impl_copyBytes.Cs 100000 impl_copyBytes.cuts [] Try.f132 (k + 1) [.v (.nums 5 .u8 a0z a0)] = impl_copyBytes.b (fun r => some (impl_copyBytes.enc r)) k a0z a0 := by kernel_rfl
theorem impl_copyBytes.b_nat {R R' : Type} (e : R → R') (ret : Bool × List Int → Option R) (k : Nat) (a0z : Bool) (a0 : List Int) : impl_copyBytes.b (fun r => (ret r).map e) k a0z a0 = (impl_copyBytes.b ret k a0z a0).map e := by
  unfold impl_copyBytes.b
  repeat' first | with_reducible refine nat_cond ?_ ?_ | with_reducible refine nat_bind fun _ => ?_ | rfl
theorem impl_copyBytes.eq (k : Nat) (a0z : Bool) (a0 : List Int) : answer Try.prog impl_copyBytes.Cs 100000 impl_copyBytes.cuts [] Try.f132 (k + 1) [.v (.nums 5 .u8 a0z a0)] = (impl_copyBytes.f (k + 1) a0z a0).map impl_copyBytes.enc := by
  refine (impl_copyBytes.s k a0z a0).trans (Eq.trans ?_ (impl_copyBytes.b_nat impl_copyBytes.enc some k a0z a0))
  simp only [Option.map_some]
theorem impl_copyBytes.sound (k : Nat) : SoundF Try.prog 132 (fun a => (impl_copyBytes.ans k a).val) := by
  refine sound_plain (fun args res h => ?_) (fun t n => rfl)
  unfold impl_copyBytes.ans at h
  dsimp only at h
  split at h
  · cases k with
    | zero => cases h
    | succ k =>
      unfold Ans.val at h
      rw [← impl_copyBytes.eq] at h
      exact answer_sound mixed Try.func132 _ _ _ (k + 1) (fun j _ => tab_sound (tab_nil)) _ _ h
  · exact (Ans.no_val h).elim

/-! loop.example/g00790/impl.PutVar -/
def impl_PutVar.b {R : Type} (ret : Bool × (List Int) × Bool → Option R) (j0 : Int → Bool → (List Int) → Option R) (k : Nat) (a0z : Bool) (a0 : List Int) (a1 : Int) : Option R :=
  (impl_isNum.f k a1).bind fun t0 => cond (!t0) (ret (true, ([] : List Int), false)) ((impl_copyBytes.f k a0z a0).bind fun t1 => j0 a1 t1.1 t1.2)
def impl_PutVar.l0b {R : Type} (ret : Bool × (List Int) × Bool → Option R) (j0 : Int → Bool → (List Int) → Option R) (k : Nat) (x1 : Int) (x6z : Bool) (x6 : List Int) : Option R :=
  cond (decide (x1 ≥ 128)) (cond (decide ((x6).length + 1 < 140737488355328)) (j0 (RowKit.wrap64 (Int.tdiv x1 128)) false (x6 ++ ([(((RowKit.wrap64 ((Int.tmod x1 128) + 128))) % 256)] : List Int))) (none)) (cond (decide ((x6).length + 1 < 140737488355328)) (ret (false, (x6 ++ ([((x1) % 256)] : List Int)), true)) (none))
def impl_PutVar.l0 : Nat → Int → Bool → (List Int) → Option (Bool × (List Int) × Bool)
  | 0, _, _, _ => none
  | k + 1, x1, x6z, x6 => impl_PutVar.l0b some (impl_PutVar.l0 k) k x1 x6z x6
def impl_PutVar.f : Nat → Bool → (List Int) → Int → Option (Bool × (List Int) × Bool)
  | 0, _, _, _ => none
  | k + 1, a0z, a0, a1 => impl_PutVar.b some (impl_PutVar.l0 k) k a0z a0 a1
def impl_PutVar.enc (r : Bool × (List Int) × Bool) : Res := ⟨[.vals false [((.nums 5 .u8 r.1 r.2.1), true)], .vals false [((.bool r.2.2), true)]], []⟩
def impl_PutVar.ans (k : Nat) : List Arg → Ans
  | [.v (.nums 5 .u8 a0z a0), .v (.int .i64 a1)] => ⟨impl_PutVar.f k a0z a0 a1, impl_PutVar.enc⟩
  | _ => Ans.no
def impl_PutVar.Cs (k : Nat) : CallSem := tab [(161, impl_isNum.ans k), (132, impl_copyBytes.ans k)]
def impl_PutVar.cuts : List (Nat × Keep) := [(60, ⟨[(1, some []), (6, none)], []⟩)]
noncomputable def impl_PutVar.K0 : List Fr := framesAt [true, true, true, false, false] (bodyOf Try.f210 impl_PutVar.cuts) []
def impl_PutVar.N0 (x1 : Int) (x6z : Bool) (x6 : List Int) : St := stOf 28 28 2 [(1, .val (V.s (.int .i64 x1))), (6, .val ⟨(.nums 5 .u8 x6z x6), [.l 6 0], true, some (.l 6 0)⟩)] []
theorem impl_PutVar.s (k : Nat) (a0z : Bool) (a0 : List Int) (a1 : Int) : answer Try.prog impl_PutVar.Cs 100000 impl_PutVar.cuts [] Try.f210 (k + 1) [.v (.nums 5 .u8 a0z a0), .v (.int .i64 a1)] = impl_PutVar.b (fun r => some (impl_PutVar.enc r)) (fun x1 x6z x6 => rounds Try.prog impl_PutVar.Cs (finish Try.prog [] Try.f210 [.v (.nums 5 .u8 a0z a0), .v (.int .i64 a1)]) 100000 k impl_PutVar.K0 (impl_PutVar.N0 x1 x6z x6)) k a0z a0 a1 := by kernel_rfl
theorem impl_PutVar.s0 (k : Nat) (G : List Fr → St → Option Res) (a0z : Bool) (a0 : List Int) (a1 : Int) (yx1 : Int) (yx6z : Bool) (yx6 : List Int) : resume Try.prog (impl_PutVar.Cs k) G (finish Try.prog [] Try.f210 [.v (.nums 5 .u8 a0z a0), .v (.int .i64 a1)]) 100000 impl_PutVar.K0 (impl_PutVar.N0 yx1 yx6z yx6) = impl_PutVar.l0b (fun r => some (impl_PutVar.enc r)) (fun x1 x6z x6 => G impl_PutVar.K0 (impl_PutVar.N0 x1 x6z x6)) k yx1 yx6z yx6 := by kernel_rfl
theorem impl_PutVar.b_nat {R R' : Type} (e : R → R') (ret : Bool × (List Int) × Bool → Option R) (j0 : Int → Bool → (List Int) → Option R) (k : Nat) (a0z : Bool) (a0 : List Int) (a1 : Int) : impl_PutVar.b (fun r => (ret r).map e) (fun x1 x6z x6 => (j0 x1 x6z x6).map e) k a0z a0 a1 = (impl_PutVar.b ret j0 k a0z a0 a1).map e := by
  unfold impl_PutVar.b
  repeat' first | with_reducible refine nat_cond ?_ ?_ | with_reducible refine nat_bind fun _ => ?_ | rfl
theorem impl_PutVar.l0b_nat {R R' : Type} (e : R → R') (ret : Bool × (List Int) × Bool → Option R) (j0 : Int → Bool → (List Int) → Option R) (k : Nat) (x1 : Int) (x6z : Bool) (x6 : List Int) : impl_PutVar.l0b (fun r => (ret r).map e) (fun x1 x6z x6 => (j0 x1 x6z x6).map e) k x1 x6z x6 = (impl_PutVar.l0b ret j0 k x1 x6z x6).map e := by
  unfold impl_PutVar.l0b
  repeat' first | with_reducible refine nat_cond ?_ ?_ | with_reducible refine nat_bind fun _ => ?_ | rfl
theorem impl_PutVar.rounds_eq (a0z : Bool) (a0 : List Int) (a1 : Int) : ∀ k, (∀ (x1 : Int) (x6z : Bool) (x6 : List Int), rounds Try.prog impl_PutVar.Cs (finish Try.prog [] Try.f210 [.v (.nums 5 .u8 a0z a0), .v (.int .i64 a1)]) 100000 k impl_PutVar.K0 (impl_PutVar.N0 x1 x6z x6) = (impl_PutVar.l0 k x1 x6z x6).map impl_PutVar.enc)
  | 0 => fun _ _ _ => rfl
  | k + 1 => by
    have ih := impl_PutVar.rounds_eq a0z a0 a1 k
    refine fun _ _ _ => ?_
    · refine (impl_PutVar.s0 k _ a0z a0 a1 _ _ _).trans (Eq.trans ?_ (impl_PutVar.l0b_nat impl_PutVar.enc some (impl_PutVar.l0 k) k _ _ _))
      simp only [ih, Option.map_some]
theorem impl_PutVar.eq (k : Nat) (a0z : Bool) (a0 : List Int) (a1 : Int) : answer Try.prog impl_PutVar.Cs 100000 impl_PutVar.cuts [] Try.f210 (k + 1) [.v (.nums 5 .u8 a0z a0), .v (.int .i64 a1)] = (impl_PutVar.f (k + 1) a0z a0 a1).map impl_PutVar.enc := by
  have ih := impl_PutVar.rounds_eq a0z a0 a1 k
  refine (impl_PutVar.s k a0z a0 a1).trans (Eq.trans ?_ (impl_PutVar.b_nat impl_PutVar.enc some (impl_PutVar.l0 k) k a0z a0 a1))
  simp only [ih, Option.map_some]
theorem impl_PutVar.sound (k : Nat) : SoundF Try.prog 210 (fun a => (impl_PutVar.ans k a).val) := by
  refine sound_plain (fun args res h => ?_) (fun t n => rfl)
  unfold impl_PutVar.ans at h
  dsimp only at h
  split at h
  · cases k with
    | zero => cases h
    | succ k =>
      unfold Ans.val at h
      rw [← impl_PutVar.eq] at h
      exact answer_sound mixed Try.func210 _ _ _ (k + 1) (fun j _ => tab_sound (tab_cons (impl_isNum.sound j) (tab_cons (impl_copyBytes.sound j) (tab_nil)))) _ _ h
  · exact (Ans.no_val h).elim

/-! loop.example/g00790/impl.numbers -/
def impl_numbers.b {R : Type} (ret : Bool × List Int → Option R) (j0 : Bool → (List Int) → Bool → (List Int) → Int → Int → Option R) (k : Nat) (a0 : Int) (a1z : Bool) (a1 : List Int) : Option R :=
  j0 false ([a0] : List Int) a1z a1 ((a1).length : Int) 0
def impl_numbers.l0b {R : Type} (ret : Bool × List Int → Option R) (j0 : Bool → (List Int) → Bool → (List Int) → Int → Int → Option R) (k : Nat) (x5z : Bool) (x5 : List Int) (x12z : Bool) (x12 : List Int) (x13 : Int) (x14 : Int) : Option R :=
  cond (decide (x14 < x13)) (cond (decide ((0 : Int) ≤ x14)) (cond (decide (x14 < ((x12).length : Int))) ((impl_PutVar.f k x5z x5 (rdI x12 x14)).bind fun t0 => cond (!t0.2.2) (ret (true, ([] : List Int))) (j0 t0.1 t0.2.1 x12z x12 x13 (RowKit.wrap64 (x14 + 1)))) (none)) (none)) (ret (x5z, x5))
def impl_numbers.l0 : Nat → Bool → (List Int) → Bool → (List Int) → Int → Int → Option (Bool × List Int)
  | 0, _, _, _, _, _, _ => none
  | k + 1, x5z, x5, x12z, x12, x13, x14 => impl_numbers.l0b some (impl_numbers.l0 k) k x5z x5 x12z x12 x13 x14
def impl_numbers.f : Nat → Int → Bool → (List Int) → Option (Bool × List Int)
  | 0, _, _, _ => none
  | k + 1, a0, a1z, a1 => impl_numbers.b some (impl_numbers.l0 k) k a0 a1z a1
def impl_numbers.enc (r : Bool × List Int) : Res := ⟨[.vals false [((.nums 5 .u8 r.1 r.2), true)]], []⟩
def impl_numbers.ans (k : Nat) : List Arg → Ans
  | [.v (.int .u8 a0), .v (.nums 3 .i64 a1z a1)] => ⟨impl_numbers.f k a0 a1z a1, impl_numbers.enc⟩
  | _ => Ans.no
def impl_numbers.Cs (k : Nat) : CallSem := tab [(210, impl_PutVar.ans k)]
def impl_numbers.cuts : List (Nat × Keep) := [(58, ⟨[(5, none), (12, some []), (13, some []), (14, some [])], []⟩)]
noncomputable def impl_numbers.K0 : List Fr := framesAt [true, true, false, true, false] (bodyOf Try.f184 impl_numbers.cuts) []
def impl_numbers.N0 (x5z : Bool) (x5 : List Int) (x12z : Bool) (x12 : List Int) (x13 : Int) (x14 : Int) : St := stOf 29 29 2 [(5, .val ⟨(.nums 5 .u8 x5z x5), [.l 5 0], true, some (.l 5 0)⟩), (12, .val ⟨(.nums 3 .i64 x12z x12), [], false, none⟩), (13, .val (V.s (.int .i64 x13))), (14, .val (V.s (.int .i64 x14)))] []
theorem impl_numbers.s (k : Nat) (a0 : Int) (a1z : Bool) (a1 : List Int) : answer Try.prog impl_numbers.Cs 100000 impl_numbers.cuts [] Try.f184 (k + 1) [.v (.int .u8 a0), .v (.nums 3 .i64 a1z a1)] = impl_numbers.b (fun r => some (impl_numbers.enc r)) (fun x5z x5 x12z x12 x13 x14 => rounds Try.prog impl_numbers.Cs (finish Try.prog [] Try.f184 [.v (.int .u8 a0), .v (.nums 3 .i64 a1z a1)]) 100000 k impl_numbers.K0 (impl_numbers.N0 x5z x5 x12z x12 x13 x14)) k a0 a1z a1 := by kernel_rfl
theorem impl_numbers.s0 (k : Nat) (G : List Fr → St → Option Res) (a0 : Int) (a1z : Bool) (a1 : List Int) (yx5z : Bool) (yx5 : List Int) (yx12z : Bool) (yx12 : List Int) (yx13 : Int) (yx14 : Int) : resume Try.prog (impl_numbers.Cs k) G (finish Try.prog [] Try.f184 [.v (.int .u8 a0), .v (.nums 3 .i64 a1z a1)]) 100000 impl_numbers.K0 (impl_numbers.N0 yx5z yx5 yx12z yx12 yx13 yx14) = impl_numbers.l0b (fun r => some (impl_numbers.enc r)) (fun x5z x5 x12z x12 x13 x14 => G impl_numbers.K0 (impl_numbers.N0 x5z x5 x12z x12 x13 x14)) k yx5z yx5 yx12z yx12 yx13 yx14 := by kernel_rfl
theorem impl_numbers.b_nat {R R' : Type} (e : R → R') (ret : Bool × List Int → Option R) (j0 : Bool → (List Int) → Bool → (List Int) → Int → Int → Option R) (k : Nat) (a0 : Int) (a1z : Bool) (a1 : List Int) : impl_numbers.b (fun r => (ret r).map e) (fun x5z x5 x12z x12 x13 x14 => (j0 x5z x5 x12z x12 x13 x14).map e) k a0 a1z a1 = (impl_numbers.b ret j0 k a0 a1z a1).map e := by
  unfold impl_numbers.b
  repeat' first | with_reducible refine nat_cond ?_ ?_ | with_reducible refine nat_bind fun _ => ?_ | rfl
theorem impl_numbers.l0b_nat {R R' : Type} (e : R → R') (ret : Bool × List Int → Option R) (j0 : Bool → (List Int) → Bool → (List Int) → Int → Int → Option R) (k : Nat) (x5z : Bool) (x5 : List Int) (x12z : Bool) (x12 : List Int) (x13 : Int) (x14 : Int) : impl_numbers.l0b (fun r => (ret r).map e) (fun x5z x5 x12z x12 x13 x14 => (j0 x5z x5 x12z x12 x13 x14).map e) k x5z x5 x12z x12 x13 x14 = (impl_numbers.l0b ret j0 k x5z x5 x12z x12 x13 x14).map e := by
  unfold impl_numbers.l0b
  repeat' first | with_reducible refine nat_cond ?_ ?_ | with_reducible refine nat_bind fun _ => ?_ | rfl
theorem impl_numbers.rounds_eq (a0 : Int) (a1z : Bool) (a1 : List Int) : ∀ k, (∀ (x5z : Bool) (x5 : List Int) (x12z : Bool) (x12 : List Int) (x13 : Int) (x14 : Int), rounds Try.prog impl_numbers.Cs (finish Try.prog [] Try.f184 [.v (.int .u8 a0), .v (.nums 3 .i64 a1z a1)]) 100000 k impl_numbers.K0 (impl_numbers.N0 x5z x5 x12z x12 x13 x14) = (impl_numbers.l0 k x5z x5 x12z x12 x13 x14).map impl_numbers.enc)
  | 0 => fun _ _ _ _ _ _ => rfl
  | k + 1 => by
    have ih := impl_numbers.rounds_eq a0 a1z a1 k
    refine fun _ _ _ _ _ _ => ?_
    · refine (impl_numbers.s0 k _ a0 a1z a1 _ _ _ _ _ _).trans (Eq.trans ?_ (impl_numbers.l0b_nat impl_numbers.enc some (impl_numbers.l0 k) k _ _ _ _ _ _))
      simp only [ih, Option.map_some]
theorem impl_numbers.eq (k : Nat) (a0 : Int) (a1z : Bool) (a1 : List Int) : answer Try.prog impl_numbers.Cs 100000 impl_numbers.cuts [] Try.f184 (k + 1) [.v (.int .u8 a0), .v (.nums 3 .i64 a1z a1)] = (impl_numbers.f (k + 1) a0 a1z a1).map impl_numbers.enc := by
  have ih := impl_numbers.rounds_eq a0 a1z a1 k
  refine (impl_numbers.s k a0 a1z a1).trans (Eq.trans ?_ (impl_numbers.b_nat impl_numbers.enc some (impl_numbers.l0 k) k a0 a1z a1))
  simp only [ih, Option.map_some]
theorem impl_numbers.sound (k : Nat) : SoundF Try.prog 184 (fun a => (impl_numbers.ans k a).val) := by
  refine sound_plain (fun args res h => ?_) (fun t n => rfl)
  unfold impl_numbers.ans at h
  dsimp only at h
  split at h
  · cases k with
    | zero => cases h
    | succ k =>
      unfold Ans.val at h
      rw [← impl_numbers.eq] at h
      exact answer_sound mixed Try.func184 _ _ _ (k + 1) (fun j _ => tab_sound (tab_cons (impl_PutVar.sound j) (tab_nil))) _ _ h
  · exact (Ans.no_val h).elim

/-! loop.example/g00790/impl.areHashes -/
def impl_areHashes.b {R : Type} (ret : Bool → Option R) (j0 : Bool → (List T) → Int → Int → Option R) (k : Nat) (a0z : Bool) (a0 : List T) : Option R :=
  j0 a0z a0 ((a0).length : Int) 0
def impl_areHashes.l0b {R : Type} (ret : Bool → Option R) (j0 : Bool → (List T) → Int → Int → Option R) (k : Nat) (x5z : Bool) (x5 : List T) (x6 : Int) (x7 : Int) : Option R :=
  cond (decide (x7 < x6)) (cond (decide ((0 : Int) ≤ x7)) (cond (decide (x7 < ((x5).length : Int))) (cond (!(decide (((((((x5).getD (x7).toNat .bad).cells.getD 0 .bad)).toNums).length : Int) = 32))) (ret false) (j0 x5z x5 x6 (RowKit.wrap64 (x7 + 1)))) (none)) (none)) (ret true)
def impl_areHashes.l0 : Nat → Bool → (List T) → Int → Int → Option Bool
  | 0, _, _, _, _ => none
  | k + 1, x5z, x5, x6, x7 => impl_areHashes.l0b some (impl_areHashes.l0 k) k x5z x5 x6 x7
def impl_areHashes.f : Nat → Bool → (List T) → Option Bool
  | 0, _, _ => none
  | k + 1, a0z, a0 => impl_areHashes.b some (impl_areHashes.l0 k) k a0z a0
def impl_areHashes.enc (r : Bool) : Res := ⟨[.vals false [((.bool r), true)]], []⟩
def impl_areHashes.ans (k : Nat) : List Arg → Ans
  | [.v (.sl 45 a0z a0)] => ⟨impl_areHashes.f k a0z a0, impl_areHashes.enc⟩
  | _ => Ans.no
def impl_areHashes.Cs (k : Nat) : CallSem := tab []
def impl_areHashes.cuts : List (Nat × Keep) := [(26, ⟨[(5, some []), (6, some []), (7, some [])], []⟩)]
noncomputable def impl_areHashes.K0 : List Fr := framesAt [true, false, true, false] (bodyOf Try.f162 impl_areHashes.cuts) []
def impl_areHashes.N0 (x5z : Bool) (x5 : List T) (x6 : Int) (x7 : Int) : St := stOf 15 15 1 [(5, .val ⟨(.sl 45 x5z x5), [], false, none⟩), (6, .val (V.s (.int .i64 x6))), (7, .val (V.s (.int .i64 x7)))] []
theorem impl_areHashes.s (k : Nat) (a0z : Bool) (a0 : List T) : answer Try.prog impl_areHashes.Cs 100000 impl_areHashes.cuts [] Try.f162 (k + 1) [.v (.sl 45 a0z a0)] = impl_areHashes.b (fun r => some (impl_areHashes.enc r)) (fun x5z x5 x6 x7 => rounds Try.prog impl_areHashes.Cs (finish Try.prog [] Try.f162 [.v (.sl 45 a0z a0)]) 100000 k impl_areHashes.K0 (impl_areHashes.N0 x5z x5 x6 x7)) k a0z a0 := by kernel_rfl
theorem impl_areHashes.s0 (k : Nat) (G : List Fr → St → Option Res) (a0z : Bool) (a0 : List T) (yx5z : Bool) (yx5 : List T) (yx6 : Int) (yx7 : Int) : resume Try.prog (impl_areHashes.Cs k) G (finish Try.prog [] Try.f162 [.v (.sl 45 a0z a0)]) 100000 impl_areHashes.K0 (impl_areHashes.N0 yx5z yx5 yx6 yx7) = impl_areHashes.l0b (fun r => some (impl_areHashes.enc r)) (fun x5z x5 x6 x7 => G impl_areHashes.K0 (impl_areHashes.N0 x5z x5 x6 x7)) k yx5z yx5 yx6 yx7 := by kernel_rfl
theorem impl_areHashes.b_nat {R R' : Type} (e : R → R') (ret : Bool → Option R) (j0 : Bool → (List T) → Int → Int → Option R) (k : Nat) (a0z : Bool) (a0 : List T) : impl_areHashes.b (fun r => (ret r).map e) (fun x5z x5 x6 x7 => (j0 x5z x5 x6 x7).map e) k a0z a0 = (impl_areHashes.b ret j0 k a0z a0).map e := by
  unfold impl_areHashes.b
  repeat' first | with_reducible refine nat_cond ?_ ?_ | with_reducible refine nat_bind fun _ => ?_ | rfl
theorem impl_areHashes.l0b_nat {R R' : Type} (e : R → R') (ret : Bool → Option R) (j0 : Bool → (List T) → Int → Int → Option R) (k : Nat) (x5z : Bool) (x5 : List T) (x6 : Int) (x7 : Int) : impl_areHashes.l0b (fun r => (ret r).map e) (fun x5z x5 x6 x7 => (j0 x5z x5 x6 x7).map e) k x5z x5 x6 x7 = (impl_areHashes.l0b ret j0 k x5z x5 x6 x7).map e := by
  unfold impl_areHashes.l0b
  repeat' first | with_reducible refine nat_cond ?_ ?_ | with_reducible refine nat_bind fun _ => ?_ | rfl
theorem impl_areHashes.rounds_eq (a0z : Bool) (a0 : List T) : ∀ k, (∀ (x5z : Bool) (x5 : List T) (x6 : Int) (x7 : Int), rounds Try.prog impl_areHashes.Cs (finish Try.prog [] Try.f162 [.v (.sl 45 a0z a0)]) 100000 k impl_areHashes.K0 (impl_areHashes.N0 x5z x5 x6 x7) = (impl_areHashes.l0 k x5z x5 x6 x7).map impl_areHashes.enc)
  | 0 => fun _ _ _ _ => rfl
  | k + 1 => by
    have ih := impl_areHashes.rounds_eq a0z a0 k
    refine fun _ _ _ _ => ?_
    · refine (impl_areHashes.s0 k _ a0z a0 _ _ _ _).trans (Eq.trans ?_ (impl_areHashes.l0b_nat impl_areHashes.enc some (impl_areHashes.l0 k) k _ _ _ _))
      simp only [ih, Option.map_some]
theorem impl_areHashes.eq (k : Nat) (a0z : Bool) (a0 : List T) : answer Try.prog impl_areHashes.Cs 100000 impl_areHashes.cuts [] Try.f162 (k + 1) [.v (.sl 45 a0z a0)] = (impl_areHashes.f (k + 1) a0z a0).map impl_areHashes.enc := by
  have ih := impl_areHashes.rounds_eq a0z a0 k
  refine (impl_areHashes.s k a0z a0).trans (Eq.trans ?_ (impl_areHashes.b_nat impl_areHashes.enc some (impl_areHashes.l0 k) k a0z a0))
  simp only [ih, Option.map_some]
theorem impl_areHashes.sound (k : Nat) : SoundF Try.prog 162 (fun a => (impl_areHashes.ans k a).val) := by
  refine sound_plain (fun args res h => ?_) (fun t n => rfl)
  unfold impl_areHashes.ans at h
  dsimp only at h
  split at h
  · cases k with
    | zero => cases h
    | succ k =>
      unfold Ans.val at h
      rw [← impl_areHashes.eq] at h
      exact answer_sound mixed Try.func162 _ _ _ (k + 1) (fun j _ => tab_sound (tab_nil)) _ _ h
  · exact (Ans.no_val h).elim

/-! loop.example/g00790/impl.VoteBytes -/
def impl_VoteBytes.b {R : Type} (ret : Bool × List Int → Option R) (k : Nat) (a0 : Int) (a1 : Int) (a2z : Bool) (a2 : List Int) : Option R :=
  (impl_numbers.f k 86 false ([a0, a1] : List Int)).bind fun t0 => cond t0.1 (ret (true, ([] : List Int))) ((impl_areHashes.f k false ([(.nums 5 .u8 a2z a2)] : List T)).bind fun t1 => cond (!t1) (ret (true, ([] : List Int))) (cond (decide ((t0.2).length + (a2).length < 140737488355328)) (ret (((a2).isEmpty && t0.1), (t0.2 ++ a2))) (none)))
def impl_VoteBytes.f : Nat → Int → Int → Bool → (List Int) → Option (Bool × List Int)
  | 0, _, _, _, _ => none
  | k + 1, a0, a1, a2z, a2 => impl_VoteBytes.b some k a0 a1 a2z a2
def impl_VoteBytes.enc (r : Bool × List Int) : Res := ⟨[.vals false [((.nums 5 .u8 r.1 r.2), true)]], []⟩
def impl_VoteBytes.ans (k : Nat) : List Arg → Ans
  | [.v (.int .i64 a0), .v (.int .i64 a1), .v (.nums 5 .u8 a2z a2)] => ⟨impl_VoteBytes.f k a0 a1 a2z a2, impl_VoteBytes.enc⟩
  | _ => Ans.no
def impl_VoteBytes.Cs (k : Nat) : CallSem := tab [(184, impl_numbers.ans k), (162, impl_areHashes.ans k)]
def impl_VoteBytes.cuts : List (Nat × Keep) := []
theorem impl_VoteBytes.s (k : Nat) (a0 : Int) (a1 : Int) (a2z : Bool) (a2 : List Int) : answer Try.prog impl_VoteBytes.Cs 100000 impl_VoteBytes.cuts [] Try.f131 (k + 1) [.v (.int .i64 a0), .v (.int .i64 a1), .v (.nums 5 .u8 a2z a2)] = impl_VoteBytes.b (fun r => some (impl_VoteBytes.enc r)) k a0 a1 a2z a2 := by kernel_rfl
theorem impl_VoteBytes.b_nat {R R' : Type} (e : R → R') (ret : Bool × List Int → Option R) (k : Nat) (a0 : Int) (a1 : Int) (a2z : Bool) (a2 : List Int) : impl_VoteBytes.b (fun r => (ret r).map e) k a0 a1 a2z a2 = (impl_VoteBytes.b ret k a0 a1 a2z a2).map e := by
  unfold impl_VoteBytes.b
  repeat' first | with_reducible refine nat_cond ?_ ?_ | with_reducible refine nat_bind fun _ => ?_ | rfl
theorem impl_VoteBytes.eq (k : Nat) (a0 : Int) (a1 : Int) (a2z : Bool) (a2 : List Int) : answer Try.prog impl_VoteBytes.Cs 100000 impl_VoteBytes.cuts [] Try.f131 (k + 1) [.v (.int .i64 a0), .v (.int .i64 a1), .v (.nums 5 .u8 a2z a2)] = (impl_VoteBytes.f (k + 1) a0 a1 a2z a2).map impl_VoteBytes.enc := by
  refine (impl_VoteBytes.s k a0 a1 a2z a2).trans (Eq.trans ?_ (impl_VoteBytes.b_nat impl_VoteBytes.enc some k a0 a1 a2z a2))
  simp only [Option.map_some]
theorem impl_VoteBytes.sound (k : Nat) : SoundF Try.prog 131 (fun a => (impl_VoteBytes.ans k a).val) := by
  refine sound_plain (fun args res h => ?_) (fun t n => rfl)
  unfold impl_VoteBytes.ans at h
  dsimp only at h
  split at h
  · cases k with
    | zero => cases h
    | succ k =>
      unfold Ans.val at h
      rw [← impl_VoteBytes.eq] at h
      exact answer_sound mixed Try.func131 _ _ _ (k + 1) (fun j _ => tab_sound (tab_cons (impl_numbers.sound j) (tab_cons (impl_areHashes.sound j) (tab_nil)))) _ _ h
  · exact (Ans.no_val h).elim

/-! loop.example/g00790/impl.TableOk -/
def impl_TableOk.b {R : Type} (ret : Bool → Option R) (j0 : Bool → (List T) → Int → Int → Bool → (List T) → Option R) (k : Nat) (a0_0z : Bool) (a0_0 : List T) : Option R :=
  j0 a0_0z a0_0 ((a0_0).length : Int) 0 a0_0z a0_0
def impl_TableOk.l0b {R : Type} (ret : Bool → Option R) (j0 : Bool → (List T) → Int → Int → Bool → (List T) → Option R) (k : Nat) (x6z : Bool) (x6 : List T) (x7 : Int) (x8 : Int) (c1_0z : Bool) (c1_0 : List T) : Option R :=
  cond (decide (x8 < x7)) (cond (decide ((0 : Int) ≤ x8)) (cond (decide (x8 < ((x6).length : Int))) ((impl_within.f k (((((x6).getD (x8).toNat .bad).cells.getD 0 .bad)).toInt) 1 1099511627776).bind fun t0 => cond (!t0) (ret false) ((impl_within.f k ((((((x6).getD (x8).toNat .bad).cells.getD 1 .bad)).toNums).length : Int) 1 64).bind fun t1 => cond (!t1) (ret false) (j0 x6z x6 x7 (RowKit.wrap64 (x8 + 1)) c1_0z c1_0))) (none)) (none)) ((impl_within.f k ((c1_0).length : Int) 1 10).bind fun t0 => ret t0)
def impl_TableOk.l0 : Nat → Bool → (List T) → Int → Int → Bool → (List T) → Option Bool
  | 0, _, _, _, _, _, _ => none
  | k + 1, x6z, x6, x7, x8, c1_0z, c1_0 => impl_TableOk.l0b some (impl_TableOk.l0 k) k x6z x6 x7 x8 c1_0z c1_0
def impl_TableOk.f : Nat → Bool → (List T) → Option Bool
  | 0, _, _ => none
  | k + 1, a0_0z, a0_0 => impl_TableOk.b some (impl_TableOk.l0 k) k a0_0z a0_0
def impl_TableOk.enc (r : Bool) : Res := ⟨[.vals false [((.bool r), true)]], []⟩
def impl_TableOk.ans (k : Nat) : List Arg → Ans
  | [.v (.agg [(.sl 160 a0_0z a0_0)])] => ⟨impl_TableOk.f k a0_0z a0_0, impl_TableOk.enc⟩
  | _ => Ans.no
def impl_TableOk.Cs (k : Nat) : CallSem := tab [(126, impl_within.ans k)]
def impl_TableOk.cuts : List (Nat × Keep) := [(26, ⟨[(1, some []), (6, some []), (7, some []), (8, some [])], [(1, [some []])]⟩)]
noncomputable def impl_TableOk.K0 : List Fr := framesAt [true, false, true, false] (bodyOf Try.f125 impl_TableOk.cuts) []
def impl_TableOk.N0 (x6z : Bool) (x6 : List T) (x7 : Int) (x8 : Int) (c1_0z : Bool) (c1_0 : List T) : St := stOf 28 28 1 [(1, .bp 1 0), (6, .val ⟨(.sl 160 x6z x6), [], false, none⟩), (7, .val (V.s (.int .i64 x7))), (8, .val (V.s (.int .i64 x8)))] [(1, .cells [⟨(.sl 160 c1_0z c1_0), [], false, none⟩])]
theorem impl_TableOk.s (k : Nat) (a0_0z : Bool) (a0_0 : List T) : answer Try.prog impl_TableOk.Cs 100000 impl_TableOk.cuts [] Try.f125 (k + 1) [.v (.agg [(.sl 160 a0_0z a0_0)])] = impl_TableOk.b (fun r => some (impl_TableOk.enc r)) (fun x6z x6 x7 x8 c1_0z c1_0 => rounds Try.prog impl_TableOk.Cs (finish Try.prog [] Try.f125 [.v (.agg [(.sl 160 a0_0z a0_0)])]) 100000 k impl_TableOk.K0 (impl_TableOk.N0 x6z x6 x7 x8 c1_0z c1_0)) k a0_0z a0_0 := by kernel_rfl
theorem impl_TableOk.s0 (k : Nat) (G : List Fr → St → Option Res) (a0_0z : Bool) (a0_0 : List T) (yx6z : Bool) (yx6 : List T) (yx7 : Int) (yx8 : Int) (yc1_0z : Bool) (yc1_0 : List T) : resume Try.prog (impl_TableOk.Cs k) G (finish Try.prog [] Try.f125 [.v (.agg [(.sl 160 a0_0z a0_0)])]) 100000 impl_TableOk.K0 (impl_TableOk.N0 yx6z yx6 yx7 yx8 yc1_0z yc1_0) = impl_TableOk.l0b (fun r => some (impl_TableOk.enc r)) (fun x6z x6 x7 x8 c1_0z c1_0 => G impl_TableOk.K0 (impl_TableOk.N0 x6z x6 x7 x8 c1_0z c1_0)) k yx6z yx6 yx7 yx8 yc1_0z yc1_0 := by kernel_rfl
theorem impl_TableOk.b_nat {R R' : Type} (e : R → R') (ret : Bool → Option R) (j0 : Bool → (List T) → Int → Int → Bool → (List T) → Option R) (k : Nat) (a0_0z : Bool) (a0_0 : List T) : impl_TableOk.b (fun r => (ret r).map e) (fun x6z x6 x7 x8 c1_0z c1_0 => (j0 x6z x6 x7 x8 c1_0z c1_0).map e) k a0_0z a0_0 = (impl_TableOk.b ret j0 k a0_0z a0_0).map e := by
  unfold impl_TableOk.b
  repeat' first | with_reducible refine nat_cond ?_ ?_ | with_reducible refine nat_bind fun _ => ?_ | rfl
theorem impl_TableOk.l0b_nat {R R' : Type} (e : R → R') (ret : Bool → Option R) (j0 : Bool → (List T) → Int → Int → Bool → (List T) → Option R) (k : Nat) (x6z : Bool) (x6 : List T) (x7 : Int) (x8 : Int) (c1_0z : Bool) (c1_0 : List T) : impl_TableOk.l0b (fun r => (ret r).map e) (fun x6z x6 x7 x8 c1_0z c1_0 => (j0 x6z x6 x7 x8 c1_0z c1_0).map e) k x6z x6 x7 x8 c1_0z c1_0 = (impl_TableOk.l0b ret j0 k x6z x6 x7 x8 c1_0z c1_0).map e := by
  unfold impl_TableOk.l0b
  repeat' first | with_reducible refine nat_cond ?_ ?_ | with_reducible refine nat_bind fun _ => ?_ | rfl
theorem impl_TableOk.rounds_eq (a0_0z : Bool) (a0_0 : List T) : ∀ k, (∀ (x6z : Bool) (x6 : List T) (x7 : Int) (x8 : Int) (c1_0z : Bool) (c1_0 : List T), rounds Try.prog impl_TableOk.Cs (finish Try.prog [] Try.f125 [.v (.agg [(.sl 160 a0_0z a0_0)])]) 100000 k impl_TableOk.K0 (impl_TableOk.N0 x6z x6 x7 x8 c1_0z c1_0) = (impl_TableOk.l0 k x6z x6 x7 x8 c1_0z c1_0).map impl_TableOk.enc)
  | 0 => fun _ _ _ _ _ _ => rfl
  | k + 1 => by
    have ih := impl_TableOk.rounds_eq a0_0z a0_0 k
    refine fun _ _ _ _ _ _ => ?_
    · refine (impl_TableOk.s0 k _ a0_0z a0_0 _ _ _ _ _ _).trans (Eq.trans ?_ (impl_TableOk.l0b_nat impl_TableOk.enc some (impl_TableOk.l0 k) k _ _ _ _ _ _))
      simp only [ih, Option.map_some]
theorem impl_TableOk.eq (k : Nat) (a0_0z : Bool) (a0_0 : List T) : answer Try.prog impl_TableOk.Cs 100000 impl_TableOk.cuts [] Try.f125 (k + 1) [.v (.agg [(.sl 160 a0_0z a0_0)])] = (impl_TableOk.f (k + 1) a0_0z a0_0).map impl_TableOk.enc := by
  have ih := impl_TableOk.rounds_eq a0_0z a0_0 k
  refine (impl_TableOk.s k a0_0z a0_0).trans (Eq.trans ?_ (impl_TableOk.b_nat impl_TableOk.enc some (impl_TableOk.l0 k) k a0_0z a0_0))
  simp only [ih, Option.map_some]
theorem impl_TableOk.sound (k : Nat) : SoundF Try.prog 125 (fun a => (impl_TableOk.ans k a).val) := by
  refine sound_plain (fun args res h => ?_) (fun t n => rfl)
  unfold impl_TableOk.ans at h
  dsimp only at h
  split at h
  · cases k with
    | zero => cases h
    | succ k =>
      unfold Ans.val at h
      rw [← impl_TableOk.eq] at h
      exact answer_sound mixed Try.func125 _ _ _ (k + 1) (fun j _ => tab_sound (tab_cons (impl_within.sound j) (tab_nil))) _ _ h
  · exact (Ans.no_val h).elim

/-! loop.example/g00790/impl.ShaInit -/
def impl_ShaInit.b {R : Type} (ret : Bool × List Int → Option R) (k : Nat) : Option R :=
  ret (false, ([1779033703, 3144134277, 1013904242, 2773480762, 1359893119, 2600822924, 528734635, 1541459225] : List Int))
def impl_ShaInit.f : Nat → Option (Bool × List Int)
  | 0 => none
  | k + 1 => impl_ShaInit.b some k
def impl_ShaInit.enc (r : Bool × List Int) : Res := ⟨[.vals false [((.nums 3 .i64 r.1 r.2), true)]], []⟩
def impl_ShaInit.ans (k : Nat) : List Arg → Ans
  | [] => ⟨impl_ShaInit.f k, impl_ShaInit.enc⟩
  | _ => Ans.no
def impl_ShaInit.Cs (k : Nat) : CallSem := tab []
def impl_ShaInit.cuts : List (Nat × Keep) := []
theorem impl_ShaInit.s (k : Nat) : answer Try.prog impl_ShaInit.Cs 100000 impl_ShaInit.cuts [] Try.f198 (k + 1) [] = impl_ShaInit.b (fun r => some (impl_ShaInit.enc r)) k := by kernel_rfl
theorem impl_ShaInit.b_nat {R R' : Type} (e : R → R') (ret : Bool × List Int → Option R) (k : Nat) : impl_ShaInit.b (fun r => (ret r).map e) k = (impl_ShaInit.b ret k).map e := by
  unfold impl_ShaInit.b
  repeat' first | with_reducible refine nat_cond ?_ ?_ | with_reducible refine nat_bind fun _ => ?_ | rfl
theorem impl_ShaInit.eq (k : Nat) : answer Try.prog impl_ShaInit.Cs 100000 impl_ShaInit.cuts [] Try.f198 (k + 1) [] = (impl_ShaInit.f (k + 1)).map impl_ShaInit.enc := by
  refine (impl_ShaInit.s k).trans (Eq.trans ?_ (impl_ShaInit.b_nat impl_ShaInit.enc some k))
  simp only [Option.map_some]
theorem impl_ShaInit.sound (k : Nat) : SoundF Try.prog 198 (fun a => (impl_ShaInit.ans k a).val) := by
  refine sound_plain (fun args res h => ?_) (fun t n => rfl)
  unfold impl_ShaInit.ans at h
  dsimp only at h
  split at h
  · cases k with
    | zero => cases h
    | succ k =>
      unfold Ans.val at h
      rw [← impl_ShaInit.eq] at h
      exact answer_sound mixed Try.func198 _ _ _ (k + 1) (fun j _ => tab_sound (tab_nil)) _ _ h
  · exact (Ans.no_val h).elim

/-! loop.example/g00790/impl.ShaPad -/
def impl_ShaPad.b {R : Type} (ret : Bool × List Int → Option R) (j0 : Bool → (List Int) → (List Int) → Option R) (j1 : Bool → (List Int) → (List Int) → Int → Option R) (k : Nat) (a0z : Bool) (a0 : List Int) : Option R :=
  (impl_copyBytes.f k a0z a0).bind fun t0 => cond (decide ((t0.2).length + 1 < 140737488355328)) (j0 a0z a0 (t0.2 ++ ([128] : List Int))) (none)
def impl_ShaPad.l0b {R : Type} (ret : Bool × List Int → Option R) (j0 : Bool → (List Int) → (List Int) → Option R) (j1 : Bool → (List Int) → (List Int) → Int → Option R) (k : Nat) (x0z : Bool) (x0 : List Int) (x3 : List Int) : Option R :=
  cond (!(decide ((Int.tmod ((x3).length : Int) 64) = 56))) (cond (decide ((x3).length + 1 < 140737488355328)) (j0 x0z x0 (x3 ++ ([0] : List Int))) (none)) (j1 x0z x0 x3 7)
def impl_ShaPad.l1b {R : Type} (ret : Bool × List Int → Option R) (j0 : Bool → (List Int) → (List Int) → Option R) (j1 : Bool → (List Int) → (List Int) → Int → Option R) (k : Nat) (x0z : Bool) (x0 : List Int) (x3 : List Int) (x4 : Int) : Option R :=
  cond (decide (x4 ≥ 0)) (cond (decide ((0 : Int) ≤ (RowKit.wrap64 ((8 : Int) * x4)))) (cond (decide ((x3).length + 1 < 140737488355328)) (j1 x0z x0 (x3 ++ ([(((shrI .i64 (RowKit.wrap64 ((8 : Int) * ((x0).length : Int))) (RowKit.wrap64 ((8 : Int) * x4)))) % 256)] : List Int)) (RowKit.wrap64 (x4 - 1))) (none)) (none)) (ret (false, x3))
mutual
def impl_ShaPad.l0 : Nat → Bool → (List Int) → (List Int) → Option (Bool × List Int)
  | 0, _, _, _ => none
  | k + 1, x0z, x0, x3 => impl_ShaPad.l0b some (impl_ShaPad.l0 k) (impl_ShaPad.l1 k) k x0z x0 x3
def impl_ShaPad.l1 : Nat → Bool → (List Int) → (List Int) → Int → Option (Bool × List Int)
  | 0, _, _, _, _ => none
  | k + 1, x0z, x0, x3, x4 => impl_ShaPad.l1b some (impl_ShaPad.l0 k) (impl_ShaPad.l1 k) k x0z x0 x3 x4
end
def impl_ShaPad.f : Nat → Bool → (List Int) → Option (Bool × List Int)
  | 0, _, _ => none
  | k + 1, a0z, a0 => impl_ShaPad.b some (impl_ShaPad.l0 k) (impl_ShaPad.l1 k) k a0z a0
def impl_ShaPad.enc (r : Bool × List Int) : Res := ⟨[.vals false [((.nums 5 .u8 r.1 r.2), true)]], []⟩
def impl_ShaPad.ans (k : Nat) : List Arg → Ans
  | [.v (.nums 5 .u8 a0z a0)] => ⟨impl_ShaPad.f k a0z a0, impl_ShaPad.enc⟩
  | _ => Ans.no
def impl_ShaPad.Cs (k : Nat) : CallSem := tab [(132, impl_copyBytes.ans k)]
def impl_ShaPad.cuts : List (Nat × Keep) := [(28, ⟨[(0, some []), (3, none)], []⟩), (122, ⟨[(0, some []), (3, none), (4, some [])], []⟩)]
noncomputable def impl_ShaPad.K0 : List Fr := framesAt [true, true, false, false] (bodyOf Try.f199 impl_ShaPad.cuts) []
def impl_ShaPad.N0 (x0z : Bool) (x0 : List Int) (x3 : List Int) : St := stOf 31 31 1 [(0, .val ⟨(.nums 5 .u8 x0z x0), [], false, none⟩), (3, .val ⟨(.nums 5 .u8 false x3), [.l 3 0], true, some (.l 3 0)⟩)] []
noncomputable def impl_ShaPad.K1 : List Fr := framesAt [true, true, true, false, true, false] (bodyOf Try.f199 impl_ShaPad.cuts) []
def impl_ShaPad.N1 (x0z : Bool) (x0 : List Int) (x3 : List Int) (x4 : Int) : St := stOf 31 31 1 [(0, .val ⟨(.nums 5 .u8 x0z x0), [], false, none⟩), (3, .val ⟨(.nums 5 .u8 false x3), [.l 3 0], true, some (.l 3 0)⟩), (4, .val (V.s (.int .i64 x4)))] []
theorem impl_ShaPad.s (k : Nat) (a0z : Bool) (a0 : List Int) : answer Try.prog impl_ShaPad.Cs 100000 impl_ShaPad.cuts [] Try.f199 (k + 1) [.v (.nums 5 .u8 a0z a0)] = impl_ShaPad.b (fun r => some (impl_ShaPad.enc r)) (fun x0z x0 x3 => rounds Try.prog impl_ShaPad.Cs (finish Try.prog [] Try.f199 [.v (.nums 5 .u8 a0z a0)]) 100000 k impl_ShaPad.K0 (impl_ShaPad.N0 x0z x0 x3)) (fun x0z x0 x3 x4 => rounds Try.prog impl_ShaPad.Cs (finish Try.prog [] Try.f199 [.v (.nums 5 .u8 a0z a0)]) 100000 k impl_ShaPad.K1 (impl_ShaPad.N1 x0z x0 x3 x4)) k a0z a0 := by kernel_rfl
theorem impl_ShaPad.s0 (k : Nat) (G : List Fr → St → Option Res) (a0z : Bool) (a0 : List Int) (yx0z : Bool) (yx0 : List Int) (yx3 : List Int) : resume Try.prog (impl_ShaPad.Cs k) G (finish Try.prog [] Try.f199 [.v (.nums 5 .u8 a0z a0)]) 100000 impl_ShaPad.K0 (impl_ShaPad.N0 yx0z yx0 yx3) = impl_ShaPad.l0b (fun r => some (impl_ShaPad.enc r)) (fun x0z x0 x3 => G impl_ShaPad.K0 (impl_ShaPad.N0 x0z x0 x3)) (fun x0z x0 x3 x4 => G impl_ShaPad.K1 (impl_ShaPad.N1 x0z x0 x3 x4)) k yx0z yx0 yx3 := by kernel_rfl
theorem impl_ShaPad.s1 (k : Nat) (G : List Fr → St → Option Res) (a0z : Bool) (a0 : List Int) (yx0z : Bool) (yx0 : List Int) (yx3 : List Int) (yx4 : Int) : resume Try.prog (impl_ShaPad.Cs k) G (finish Try.prog [] Try.f199 [.v (.nums 5 .u8 a0z a0)]) 100000 impl_ShaPad.K1 (impl_ShaPad.N1 yx0z yx0 yx3 yx4) = impl_ShaPad.l1b (fun r => some (impl_ShaPad.enc r)) (fun x0z x0 x3 => G impl_ShaPad.K0 (impl_ShaPad.N0 x0z x0 x3)) (fun x0z x0 x3 x4 => G impl_ShaPad.K1 (impl_ShaPad.N1 x0z x0 x3 x4)) k yx0z yx0 yx3 yx4 := by kernel_rfl
theorem impl_ShaPad.b_nat {R R' : Type} (e : R → R') (ret : Bool × List Int → Option R) (j0 : Bool → (List Int) → (List Int) → Option R) (j1 : Bool → (List Int) → (List Int) → Int → Option R) (k : Nat) (a0z : Bool) (a0 : List Int) : impl_ShaPad.b (fun r => (ret r).map e) (fun x0z x0 x3 => (j0 x0z x0 x3).map e) (fun x0z x0 x3 x4 => (j1 x0z x0 x3 x4).map e) k a0z a0 = (impl_ShaPad.b ret j0 j1 k a0z a0).map e := by
  unfold impl_ShaPad.b
  repeat' first | with_reducible refine nat_cond ?_ ?_ | with_reducible refine nat_bind fun _ => ?_ | rfl
theorem impl_ShaPad.l0b_nat {R R' : Type} (e : R → R') (ret : Bool × List Int → Option R) (j0 : Bool → (List Int) → (List Int) → Option R) (j1 : Bool → (List Int) → (List Int) → Int → Option R) (k : Nat) (x0z : Bool) (x0 : List Int) (x3 : List Int) : impl_ShaPad.l0b (fun r => (ret r).map e) (fun x0z x0 x3 => (j0 x0z x0 x3).map e) (fun x0z x0 x3 x4 => (j1 x0z x0 x3 x4).map e) k x0z x0 x3 = (impl_ShaPad.l0b ret j0 j1 k x0z x0 x3).map e := by
  unfold impl_ShaPad.l0b
  repeat' first | with_reducible refine nat_cond ?_ ?_ | with_reducible refine nat_bind fun _ => ?_ | rfl
theorem impl_ShaPad.l1b_nat {R R' : Type} (e : R → R') (ret : Bool × List Int → Option R) (j0 : Bool → (List Int) → (List Int) → Option R) (j1 : Bool → (List Int) → (List Int) → Int → Option R) (k : Nat) (x0z : Bool) (x0 : List Int) (x3 : List Int) (x4 : Int) : impl_ShaPad.l1b (fun r => (ret r).map e) (fun x0z x0 x3 => (j0 x0z x0 x3).map e) (fun x0z x0 x3 x4 => (j1 x0z x0 x3 x4).map e) k x0z x0 x3 x4 = (impl_ShaPad.l1b ret j0 j1 k x0z x0 x3 x4).map e := by
  unfold impl_ShaPad.l1b
  repeat' first | with_reducible refine nat_cond ?_ ?_ | with_reducible refine nat_bind fun _ => ?_ | rfl
theorem impl_ShaPad.rounds_eq (a0z : Bool) (a0 : List Int) : ∀ k, (∀ (x0z : Bool) (x0 : List Int) (x3 : List Int), rounds Try.prog impl_ShaPad.Cs (finish Try.prog [] Try.f199 [.v (.nums 5 .u8 a0z a0)]) 100000 k impl_ShaPad.K0 (impl_ShaPad.N0 x0z x0 x3) = (impl_ShaPad.l0 k x0z x0 x3).map impl_ShaPad.enc) ∧ (∀ (x0z : Bool) (x0 : List Int) (x3 : List Int) (x4 : Int), rounds Try.prog impl_ShaPad.Cs (finish Try.prog [] Try.f199 [.v (.nums 5 .u8 a0z a0)]) 100000 k impl_ShaPad.K1 (impl_ShaPad.N1 x0z x0 x3 x4) = (impl_ShaPad.l1 k x0z x0 x3 x4).map impl_ShaPad.enc)
  | 0 => ⟨fun _ _ _ => rfl, fun _ _ _ _ => rfl⟩
  | k + 1 => by
    have ih := impl_ShaPad.rounds_eq a0z a0 k
    refine ⟨fun _ _ _ => ?_, fun _ _ _ _ => ?_⟩
    · refine (impl_ShaPad.s0 k _ a0z a0 _ _ _).trans (Eq.trans ?_ (impl_ShaPad.l0b_nat impl_ShaPad.enc some (impl_ShaPad.l0 k) (impl_ShaPad.l1 k) k _ _ _))
      simp only [ih.1, ih.2, Option.map_some]
    · refine (impl_ShaPad.s1 k _ a0z a0 _ _ _ _).trans (Eq.trans ?_ (impl_ShaPad.l1b_nat impl_ShaPad.enc some (impl_ShaPad.l0 k) (impl_ShaPad.l1 k) k _ _ _ _))
      simp only [ih.1, ih.2, Option.map_some]
theorem impl_ShaPad.eq (k : Nat) (a0z : Bool) (a0 : List Int) : answer Try.prog impl_ShaPad.Cs 100000 impl_ShaPad.cuts [] Try.f199 (k + 1) [.v (.nums 5 .u8 a0z a0)] = (impl_ShaPad.f (k + 1) a0z a0).map impl_ShaPad.enc := by
  have ih := impl_ShaPad.rounds_eq a0z a0 k
  refine (impl_ShaPad.s k a0z a0).trans (Eq.trans ?_ (impl_ShaPad.b_nat impl_ShaPad.enc some (impl_ShaPad.l0 k) (impl_ShaPad.l1 k) k a0z a0))
  simp only [ih.1, ih.2, Option.map_some]
theorem impl_ShaPad.sound (k : Nat) : SoundF Try.prog 199 (fun a => (impl_ShaPad.ans k a).val) := by
  refine sound_plain (fun args res h => ?_) (fun t n => rfl)
  unfold impl_ShaPad.ans at h
  dsimp only at h
  split at h
  · cases k with
    | zero => cases h
    | succ k =>
      unfold Ans.val at h
      rw [← impl_ShaPad.eq] at h
      exact answer_sound mixed Try.func199 _ _ _ (k + 1) (fun j _ => tab_sound (tab_cons (impl_copyBytes.sound j) (tab_nil))) _ _ h
  · exact (Ans.no_val h).elim

/-! loop.example/g00790/impl.isWord -/
def impl_isWord.b {R : Type} (ret : Bool → Option R) (k : Nat) (a0 : Int) : Option R :=
  (impl_within.f k a0 0 4294967295).bind fun t0 => ret t0
def impl_isWord.f : Nat → Int → Option Bool
  | 0, _ => none
  | k + 1, a0 => impl_isWord.b some k a0
def impl_isWord.enc (r : Bool) : Res := ⟨[.vals false [((.bool r), true)]], []⟩
def impl_isWord.ans (k : Nat) : List Arg → Ans
  | [.v (.int .i64 a0)] => ⟨impl_isWord.f k a0, impl_isWord.enc⟩
  | _ => Ans.no
def impl_isWord.Cs (k : Nat) : CallSem := tab [(126, impl_within.ans k)]
def impl_isWord.cuts : List (Nat × Keep) := []
theorem impl_isWord.s (k : Nat) (a0 : Int) : answer Try.prog impl_isWord.Cs 100000 impl_isWord.cuts [] Try.f218 (k + 1) [.v (.int .i64 a0)] = impl_isWord.b (fun r => some (impl_isWord.enc r)) k a0 := by kernel_rfl
theorem impl_isWord.b_nat {R R' : Type} (e : R → R') (ret : Bool → Option R) (k : Nat) (a0 : Int) : impl_isWord.b (fun r => (ret r).map e) k a0 = (impl_isWord.b ret k a0).map e := by
  unfold impl_isWord.b
  repeat' first | with_reducible refine nat_cond ?_ ?_ | with_reducible refine nat_bind fun _ => ?_ | rfl
theorem impl_isWord.eq (k : Nat) (a0 : Int) : answer Try.prog impl_isWord.Cs 100000 impl_isWord.cuts [] Try.f218 (k + 1) [.v (.int .i64 a0)] = (impl_isWord.f (k + 1) a0).map impl_isWord.enc := by
  refine (impl_isWord.s k a0).trans (Eq.trans ?_ (impl_isWord.b_nat impl_isWord.enc some k a0))
  simp only [Option.map_some]
theorem impl_isWord.sound (k : Nat) : SoundF Try.prog 218 (fun a => (impl_isWord.ans k a).val) := by
  refine sound_plain (fun args res h => ?_) (fun t n => rfl)
  unfold impl_isWord.ans at h
  dsimp only at h
  split at h
  · cases k with
    | zero => cases h
    | succ k =>
      unfold Ans.val at h
      rw [← impl_isWord.eq] at h
      exact answer_sound mixed Try.func218 _ _ _ (k + 1) (fun j _ => tab_sound (tab_cons (impl_within.sound j) (tab_nil))) _ _ h
  · exact (Ans.no_val h).elim

/-! loop.example/g00790/impl.rounds -/
def impl_rounds.b {R : Type} (ret : Bool × List Int → Option R) (k : Nat) : Option R :=
  ret (false, ([1116352408, 1899447441, 3049323471, 3921009573, 961987163, 1508970993, 2453635748, 2870763221, 3624381080, 310598401, 607225278, 1426881987, 1925078388, 2162078206, 2614888103, 3248222580, 3835390401, 4022224774, 264347078, 604807628, 770255983, 1249150122, 1555081692, 1996064986, 2554220882, 2821834349, 2952996808, 3210313671, 3336571891, 3584528711, 113926993, 338241895, 666307205, 773529912, 1294757372, 1396182291, 1695183700, 1986661051, 2177026350, 2456956037, 2730485921, 2820302411, 3259730800, 3345764771, 3516065817, 3600352804, 4094571909, 275423344, 430227734, 506948616, 659060556, 883997877, 958139571, 1322822218, 1537002063, 1747873779, 1955562222, 2024104815, 2227730452, 2361852424, 2428436474, 2756734187, 3204031479, 3329325298] : List Int))
def impl_rounds.f : Nat → Option (Bool × List Int)
  | 0 => none
  | k + 1 => impl_rounds.b some k
def impl_rounds.enc (r : Bool × List Int) : Res := ⟨[.vals false [((.nums 3 .i64 r.1 r.2), true)]], []⟩
def impl_rounds.ans (k : Nat) : List Arg → Ans
  | [] => ⟨impl_rounds.f k, impl_rounds.enc⟩
  | _ => Ans.no
def impl_rounds.Cs (k : Nat) : CallSem := tab []
def impl_rounds.cuts : List (Nat × Keep) := []
theorem impl_rounds.s (k : Nat) : answer Try.prog impl_rounds.Cs 100000 impl_rounds.cuts [] Try.f219 (k + 1) [] = impl_rounds.b (fun r => some (impl_rounds.enc r)) k := by kernel_rfl
theorem impl_rounds.b_nat {R R' : Type} (e : R → R') (ret : Bool × List Int → Option R) (k : Nat) : impl_rounds.b (fun r => (ret r).map e) k = (impl_rounds.b ret k).map e := by
  unfold impl_rounds.b
  repeat' first | with_reducible refine nat_cond ?_ ?_ | with_reducible refine nat_bind fun _ => ?_ | rfl
theorem impl_rounds.eq (k : Nat) : answer Try.prog impl_rounds.Cs 100000 impl_rounds.cuts [] Try.f219 (k + 1) [] = (impl_rounds.f (k + 1)).map impl_rounds.enc := by
  refine (impl_rounds.s k).trans (Eq.trans ?_ (impl_rounds.b_nat impl_rounds.enc some k))
  simp only [Option.map_some]
theorem impl_rounds.sound (k : Nat) : SoundF Try.prog 219 (fun a => (impl_rounds.ans k a).val) := by
  refine sound_plain (fun args res h => ?_) (fun t n => rfl)
  unfold impl_rounds.ans at h
  dsimp only at h
  split at h
  · cases k with
    | zero => cases h
    | succ k =>
      unfold Ans.val at h
      rw [← impl_rounds.eq] at h
      exact answer_sound mixed Try.func219 _ _ _ (k + 1) (fun j _ => tab_sound (tab_nil)) _ _ h
  · exact (Ans.no_val h).elim

/-! loop.example/g00790/impl.TurnRight -/
def impl_TurnRight.b {R : Type} (ret : Int → Option R) (k : Nat) (a0 : Int) (a1 : Int) : Option R :=
  (impl_isWord.f k a0).bind fun t0 => cond (!t0) (ret 0) ((impl_within.f k a1 0 31).bind fun t1 => cond (!t1) (ret 0) (cond (decide ((0 : Int) ≤ a1)) (cond (decide ((0 : Int) ≤ (RowKit.wrap64 ((32 : Int) - a1)))) (ret (Go.bits .and .i64 (Go.bits .or .i64 (shrI .i64 a0 a1) (shlI .i64 a0 (RowKit.wrap64 ((32 : Int) - a1)))) 4294967295)) (none)) (none)))
def impl_TurnRight.f : Nat → Int → Int → Option Int
  | 0, _, _ => none
  | k + 1, a0, a1 => impl_TurnRight.b some k a0 a1
def impl_TurnRight.enc (r : Int) : Res := ⟨[.vals false [((.int .i64 r), true)]], []⟩
def impl_TurnRight.ans (k : Nat) : List Arg → Ans
  | [.v (.int .i64 a0), .v (.int .i64 a1)] => ⟨impl_TurnRight.f k a0 a1, impl_TurnRight.enc⟩
  | _ => Ans.no
def impl_TurnRight.Cs (k : Nat) : CallSem := tab [(126, impl_within.ans k), (218, impl_isWord.ans k)]
def impl_TurnRight.cuts : List (Nat × Keep) := []
theorem impl_TurnRight.s (k : Nat) (a0 : Int) (a1 : Int) : answer Try.prog impl_TurnRight.Cs 100000 impl_TurnRight.cuts [] Try.f220 (k + 1) [.v (.int .i64 a0), .v (.int .i64 a1)] = impl_TurnRight.b (fun r => some (impl_TurnRight.enc r)) k a0 a1 := by kernel_rfl
theorem impl_TurnRight.b_nat {R R' : Type} (e : R → R') (ret : Int → Option R) (k : Nat) (a0 : Int) (a1 : Int) : impl_TurnRight.b (fun r => (ret r).map e) k a0 a1 = (impl_TurnRight.b ret k a0 a1).map e := by
  unfold impl_TurnRight.b
  repeat' first | with_reducible refine nat_cond ?_ ?_ | with_reducible refine nat_bind fun _ => ?_ | rfl
theorem impl_TurnRight.eq (k : Nat) (a0 : Int) (a1 : Int) : answer Try.prog impl_TurnRight.Cs 100000 impl_TurnRight.cuts [] Try.f220 (k + 1) [.v (.int .i64 a0), .v (.int .i64 a1)] = (impl_TurnRight.f (k + 1) a0 a1).map impl_TurnRight.enc := by
  refine (impl_TurnRight.s k a0 a1).trans (Eq.trans ?_ (impl_TurnRight.b_nat impl_TurnRight.enc some k a0 a1))
  simp only [Option.map_some]
theorem impl_TurnRight.sound (k : Nat) : SoundF Try.prog 220 (fun a => (impl_TurnRight.ans k a).val) := by
  refine sound_plain (fun args res h => ?_) (fun t n => rfl)
  unfold impl_TurnRight.ans at h
  dsimp only at h
  split at h
  · cases k with
    | zero => cases h
    | succ k =>
      unfold Ans.val at h
      rw [← impl_TurnRight.eq] at h
      exact answer_sound mixed Try.func220 _ _ _ (k + 1) (fun j _ => tab_sound (tab_cons (impl_within.sound j) (tab_cons (impl_isWord.sound j) (tab_nil)))) _ _ h
  · exact (Ans.no_val h).elim

end Go.Proofs.YtadnejogdohfkaaG
