/- What the functions compute, printed by a program of this repo; each is shown to be what the machine of values answers. No condition. -/
import Derived.Test.YtbpcnodmgphinaaGreatProg
import Derived.KernelRfl
import Derived.Test.YtbpcnodmgphinaaGreatGFnExactGatherc
namespace Go.Proofs.YtbpcnodmgphinaaGreatG
open Go Go.Proofs.YtbpcnodmgphinaaGreatRv Go.Proofs Go.RowKit
set_option linter.unusedVariables false
set_option linter.unusedSimpArgs false
def impl_isWord.b {R : Type} (ret : Bool → Option R) (k : Nat) (a0 : Int) : Option R :=
  (impl_within.f k a0 0 4294967295).bind fun t0 => ret t0
def impl_isWord.f : Nat → Int → Option Bool
  | 0, _ => none
  | k + 1, a0 => impl_isWord.b some k a0
def impl_isWord.enc (r : Bool) : Res := ⟨[.vals false [((.bool r), true)]], []⟩
def impl_isWord.ans (k : Nat) : List Arg → Ans
  | [.v (.int .i64 a0)] => ⟨impl_isWord.f k a0, impl_isWord.enc⟩
  | _ => Ans.no
def impl_isWord.Cs (k : Nat) : CallSem := tab [(61, impl_within.ans k)]
theorem impl_isWord.eq (k : Nat) (a0 : Int) : answer Tryz.prog impl_isWord.Cs 100000 [] [] Tryz.f113 (k + 1) [.v (.int .i64 a0)] = (impl_isWord.f (k + 1) a0).map impl_isWord.enc := by
  refine Eq.trans (b := impl_isWord.b (fun r => some (impl_isWord.enc r)) k a0) (by kernel_rfl) ?_
  show _ = (impl_isWord.b some k a0).map impl_isWord.enc
  unfold impl_isWord.b
  repeat' first | with_reducible refine nat_cond ?_ ?_ | with_reducible refine nat_bind fun _ => ?_ | rfl
theorem impl_isWord.sound (k : Nat) : SoundF Tryz.prog 113 (fun a => (impl_isWord.ans k a).val) := by
  refine sound_plain (fun args res h => ?_) (fun t n => rfl)
  unfold impl_isWord.ans at h
  dsimp only at h
  split at h
  · cases k with
    | zero => cases h
    | succ k =>
      unfold Ans.val at h
      rw [← impl_isWord.eq] at h
      exact answer_sound mixed Tryz.func113 _ _ _ (k + 1) (fun j _ => tab_sound (tab_cons (impl_within.sound j) (tab_nil))) _ _ h
  · exact (Ans.no_val h).elim

def impl_rounds.b {R : Type} (ret : Bool × List Int → Option R) (k : Nat) : Option R :=
  ret (false, ([1116352408, 1899447441, 3049323471, 3921009573, 961987163, 1508970993, 2453635748, 2870763221, 3624381080, 310598401, 607225278, 1426881987, 1925078388, 2162078206, 2614888103, 3248222580, 3835390401, 4022224774, 264347078, 604807628, 770255983, 1249150122, 1555081692, 1996064986, 2554220882, 2821834349, 2952996808, 3210313671, 3336571891, 3584528711, 113926993, 338241895, 666307205, 773529912, 1294757372, 1396182291, 1695183700, 1986661051, 2177026350, 2456956037, 2730485921, 2820302411, 3259730800, 3345764771, 3516065817, 3600352804, 4094571909, 275423344, 430227734, 506948616, 659060556, 883997877, 958139571, 1322822218, 1537002063, 1747873779, 1955562222, 2024104815, 2227730452, 2361852424, 2428436474, 2756734187, 3204031479, 3329325298] : List Int))
def impl_rounds.f : Nat → Option (Bool × List Int)
  | 0 => none
  | k + 1 => impl_rounds.b some k
def impl_rounds.enc (r : Bool × List Int) : Res := ⟨[.vals false [((.nums 3 .i64 r.1 r.2), true)]], []⟩
def impl_rounds.ans (k : Nat) : List Arg → Ans
  | [] => ⟨impl_rounds.f k, impl_rounds.enc⟩
  | _ => Ans.no
def impl_rounds.Cs (k : Nat) : CallSem := tab []
theorem impl_rounds.eq (k : Nat) : answer Tryz.prog impl_rounds.Cs 100000 [] [] Tryz.f114 (k + 1) [] = (impl_rounds.f (k + 1)).map impl_rounds.enc := by
  refine Eq.trans (b := impl_rounds.b (fun r => some (impl_rounds.enc r)) k) (by kernel_rfl) ?_
  show _ = (impl_rounds.b some k).map impl_rounds.enc
  unfold impl_rounds.b
  repeat' first | with_reducible refine nat_cond ?_ ?_ | with_reducible refine nat_bind fun _ => ?_ | rfl
theorem impl_rounds.sound (k : Nat) : SoundF Tryz.prog 114 (fun a => (impl_rounds.ans k a).val) := by
  refine sound_plain (fun args res h => ?_) (fun t n => rfl)
  unfold impl_rounds.ans at h
  dsimp only at h
  split at h
  · cases k with
    | zero => cases h
    | succ k =>
      unfold Ans.val at h
      rw [← impl_rounds.eq] at h
      exact answer_sound mixed Tryz.func114 _ _ _ (k + 1) (fun j _ => tab_sound (tab_nil)) _ _ h
  · exact (Ans.no_val h).elim

def impl_TurnRight.b {R : Type} (ret : Int → Option R) (k : Nat) (a0 a1 : Int) : Option R :=
  (impl_isWord.f k a0).bind fun t0 => cond (!t0) (ret 0) ((impl_within.f k a1 0 31).bind fun t1 => cond (!t1) (ret 0) (cond (decide (0 ≤ a1)) (cond (decide (0 ≤ (wrap64 ((32 : Int) - a1)))) (ret (Go.bits .and .i64 (Go.bits .or .i64 (shrI .i64 a0 a1) (shlI .i64 a0 (wrap64 ((32 : Int) - a1)))) 4294967295)) (none)) (none)))
def impl_TurnRight.f : Nat → Int → Int → Option Int
  | 0, _, _ => none
  | k + 1, a0, a1 => impl_TurnRight.b some k a0 a1
def impl_TurnRight.enc (r : Int) : Res := ⟨[.vals false [((.int .i64 r), true)]], []⟩
def impl_TurnRight.ans (k : Nat) : List Arg → Ans
  | [.v (.int .i64 a0), .v (.int .i64 a1)] => ⟨impl_TurnRight.f k a0 a1, impl_TurnRight.enc⟩
  | _ => Ans.no
def impl_TurnRight.Cs (k : Nat) : CallSem := tab [(61, impl_within.ans k), (113, impl_isWord.ans k)]
theorem impl_TurnRight.eq (k : Nat) (a0 a1 : Int) : answer Tryz.prog impl_TurnRight.Cs 100000 [] [] Tryz.f115 (k + 1) [.v (.int .i64 a0), .v (.int .i64 a1)] = (impl_TurnRight.f (k + 1) a0 a1).map impl_TurnRight.enc := by
  refine Eq.trans (b := impl_TurnRight.b (fun r => some (impl_TurnRight.enc r)) k a0 a1) (by kernel_rfl) ?_
  show _ = (impl_TurnRight.b some k a0 a1).map impl_TurnRight.enc
  unfold impl_TurnRight.b
  repeat' first | with_reducible refine nat_cond ?_ ?_ | with_reducible refine nat_bind fun _ => ?_ | rfl
theorem impl_TurnRight.sound (k : Nat) : SoundF Tryz.prog 115 (fun a => (impl_TurnRight.ans k a).val) := by
  refine sound_plain (fun args res h => ?_) (fun t n => rfl)
  unfold impl_TurnRight.ans at h
  dsimp only at h
  split at h
  · cases k with
    | zero => cases h
    | succ k =>
      unfold Ans.val at h
      rw [← impl_TurnRight.eq] at h
      exact answer_sound mixed Tryz.func115 _ _ _ (k + 1) (fun j _ => tab_sound (tab_cons (impl_within.sound j) (tab_cons (impl_isWord.sound j) (tab_nil)))) _ _ h
  · exact (Ans.no_val h).elim

def impl_ShaBlock.b {R : Type} (ret : Bool × List Int → Option R) (j0 : Bool → (List Int) → Bool → (List Int) → Bool → (List Int) → Int → Int → Option R) (j1 : Bool → (List Int) → Bool → (List Int) → Bool → (List Int) → Int → (List Int) → Option R) (j2 : Bool → (List Int) → Bool → (List Int) → Int → (List Int) → Option R) (j3 : Bool → (List Int) → Bool → (List Int) → Int → (List Int) → (List Int) → Option R) (j4 : Bool → (List Int) → (List Int) → Int → (List Int) → Option R) (k : Nat) (a0z : Bool) (a0 : List Int) (a1z : Bool) (a1 : List Int) : Option R :=
  cond (!(decide (((a0).length : Int) = 8))) (ret (true, ([] : List Int))) (cond (!(decide (((a1).length : Int) = 64))) (ret (true, ([] : List Int))) (j0 a0z a0 a1z a1 a0z a0 ((a0).length : Int) 0))
def impl_ShaBlock.l0b {R : Type} (ret : Bool × List Int → Option R) (j0 : Bool → (List Int) → Bool → (List Int) → Bool → (List Int) → Int → Int → Option R) (j1 : Bool → (List Int) → Bool → (List Int) → Bool → (List Int) → Int → (List Int) → Option R) (j2 : Bool → (List Int) → Bool → (List Int) → Int → (List Int) → Option R) (j3 : Bool → (List Int) → Bool → (List Int) → Int → (List Int) → (List Int) → Option R) (j4 : Bool → (List Int) → (List Int) → Int → (List Int) → Option R) (k : Nat) (x0z : Bool) (x0 : List Int) (x1z : Bool) (x1 : List Int) (x33z : Bool) (x33 : List Int) (x34 x35 : Int) : Option R :=
  cond (decide (x35 < x34)) (cond (decide (0 ≤ x35)) (cond (decide (x35 < ((x33).length : Int))) ((impl_isWord.f k (rdI x33 x35)).bind fun t0 => cond (!t0) (ret (true, ([] : List Int))) (j0 x0z x0 x1z x1 x33z x33 x34 (wrap64 (x35 + 1)))) (none)) (none)) ((impl_rounds.f k).bind fun t0 => j1 x0z x0 x1z x1 t0.1 t0.2 0 ([0, 0, 0, 0, 0, 0, 0, 0, 0, 0, 0, 0, 0, 0, 0, 0, 0, 0, 0, 0, 0, 0, 0, 0, 0, 0, 0, 0, 0, 0, 0, 0, 0, 0, 0, 0, 0, 0, 0, 0, 0, 0, 0, 0, 0, 0, 0, 0, 0, 0, 0, 0, 0, 0, 0, 0, 0, 0, 0, 0, 0, 0, 0, 0] : List Int))
def impl_ShaBlock.l1b {R : Type} (ret : Bool × List Int → Option R) (j0 : Bool → (List Int) → Bool → (List Int) → Bool → (List Int) → Int → Int → Option R) (j1 : Bool → (List Int) → Bool → (List Int) → Bool → (List Int) → Int → (List Int) → Option R) (j2 : Bool → (List Int) → Bool → (List Int) → Int → (List Int) → Option R) (j3 : Bool → (List Int) → Bool → (List Int) → Int → (List Int) → (List Int) → Option R) (j4 : Bool → (List Int) → (List Int) → Int → (List Int) → Option R) (k : Nat) (x0z : Bool) (x0 : List Int) (x1z : Bool) (x1 : List Int) (x8z : Bool) (x8 : List Int) (x46 : Int) (c7 : List Int) : Option R :=
  cond (decide (x46 < 16)) (cond (decide (0 ≤ (wrap64 ((4 : Int) * x46)))) (cond (decide ((wrap64 ((4 : Int) * x46)) < ((x1).length : Int))) (cond (decide (0 ≤ (wrap64 ((wrap64 ((4 : Int) * x46)) + 1)))) (cond (decide ((wrap64 ((wrap64 ((4 : Int) * x46)) + 1)) < ((x1).length : Int))) (cond (decide (0 ≤ (wrap64 ((wrap64 ((4 : Int) * x46)) + 2)))) (cond (decide ((wrap64 ((wrap64 ((4 : Int) * x46)) + 2)) < ((x1).length : Int))) (cond (decide (0 ≤ (wrap64 ((wrap64 ((4 : Int) * x46)) + 3)))) (cond (decide ((wrap64 ((wrap64 ((4 : Int) * x46)) + 3)) < ((x1).length : Int))) (cond (decide (0 ≤ x46)) (cond (decide (x46 < 64)) (j1 x0z x0 x1z x1 x8z x8 (wrap64 (x46 + 1)) ((c7).set (x46).toNat (Go.bits .or .i64 (Go.bits .or .i64 (Go.bits .or .i64 (shlI .i64 (wrap64 ((rdI x1 (wrap64 ((4 : Int) * x46))))) 24) (shlI .i64 (wrap64 ((rdI x1 (wrap64 ((wrap64 ((4 : Int) * x46)) + 1))))) 16)) (shlI .i64 (wrap64 ((rdI x1 (wrap64 ((wrap64 ((4 : Int) * x46)) + 2))))) 8)) (wrap64 ((rdI x1 (wrap64 ((wrap64 ((4 : Int) * x46)) + 3)))))))) (none)) (none)) (none)) (none)) (none)) (none)) (none)) (none)) (none)) (none)) (j2 x0z x0 x8z x8 16 c7)
def impl_ShaBlock.l2b {R : Type} (ret : Bool × List Int → Option R) (j0 : Bool → (List Int) → Bool → (List Int) → Bool → (List Int) → Int → Int → Option R) (j1 : Bool → (List Int) → Bool → (List Int) → Bool → (List Int) → Int → (List Int) → Option R) (j2 : Bool → (List Int) → Bool → (List Int) → Int → (List Int) → Option R) (j3 : Bool → (List Int) → Bool → (List Int) → Int → (List Int) → (List Int) → Option R) (j4 : Bool → (List Int) → (List Int) → Int → (List Int) → Option R) (k : Nat) (x0z : Bool) (x0 : List Int) (x8z : Bool) (x8 : List Int) (x11 : Int) (c7 : List Int) : Option R :=
  cond (decide (x11 < 64)) (cond (decide (0 ≤ (wrap64 (x11 - 15)))) (cond (decide ((wrap64 (x11 - 15)) < 64)) (cond (decide (0 ≤ (wrap64 (x11 - 2)))) (cond (decide ((wrap64 (x11 - 2)) < 64)) ((impl_TurnRight.f k (rdI c7 (wrap64 (x11 - 15))) 7).bind fun t0 => (impl_TurnRight.f k (rdI c7 (wrap64 (x11 - 15))) 18).bind fun t1 => (impl_TurnRight.f k (rdI c7 (wrap64 (x11 - 2))) 17).bind fun t2 => (impl_TurnRight.f k (rdI c7 (wrap64 (x11 - 2))) 19).bind fun t3 => cond (decide (0 ≤ (wrap64 (x11 - 16)))) (cond (decide ((wrap64 (x11 - 16)) < 64)) (cond (decide (0 ≤ (wrap64 (x11 - 7)))) (cond (decide ((wrap64 (x11 - 7)) < 64)) (cond (decide (0 ≤ x11)) (cond (decide (x11 < 64)) (j2 x0z x0 x8z x8 (wrap64 (x11 + 1)) ((c7).set (x11).toNat (Go.bits .and .i64 (wrap64 ((wrap64 ((wrap64 ((rdI c7 (wrap64 (x11 - 16))) + (Go.bits .xor .i64 (Go.bits .xor .i64 t0 t1) (shrI .i64 (rdI c7 (wrap64 (x11 - 15))) 3)))) + (rdI c7 (wrap64 (x11 - 7))))) + (Go.bits .xor .i64 (Go.bits .xor .i64 t2 t3) (shrI .i64 (rdI c7 (wrap64 (x11 - 2))) 10)))) 4294967295))) (none)) (none)) (none)) (none)) (none)) (none)) (none)) (none)) (none)) (none)) (j3 x0z x0 x8z x8 0 c7 ((x0).take 8 ++ (([0, 0, 0, 0, 0, 0, 0, 0] : List Int)).drop (x0).length))
def impl_ShaBlock.l3b {R : Type} (ret : Bool × List Int → Option R) (j0 : Bool → (List Int) → Bool → (List Int) → Bool → (List Int) → Int → Int → Option R) (j1 : Bool → (List Int) → Bool → (List Int) → Bool → (List Int) → Int → (List Int) → Option R) (j2 : Bool → (List Int) → Bool → (List Int) → Int → (List Int) → Option R) (j3 : Bool → (List Int) → Bool → (List Int) → Int → (List Int) → (List Int) → Option R) (j4 : Bool → (List Int) → (List Int) → Int → (List Int) → Option R) (k : Nat) (x0z : Bool) (x0 : List Int) (x8z : Bool) (x8 : List Int) (x132 : Int) (c7 c9 : List Int) : Option R :=
  cond (decide (x132 < 64)) ((impl_TurnRight.f k (rdI c9 4) 6).bind fun t0 => (impl_TurnRight.f k (rdI c9 4) 11).bind fun t1 => (impl_TurnRight.f k (rdI c9 4) 25).bind fun t2 => cond (decide (0 ≤ x132)) (cond (decide (x132 < ((x8).length : Int))) (cond (decide (0 ≤ x132)) (cond (decide (x132 < 64)) ((impl_TurnRight.f k (rdI c9 0) 2).bind fun t3 => (impl_TurnRight.f k (rdI c9 0) 13).bind fun t4 => (impl_TurnRight.f k (rdI c9 0) 22).bind fun t5 => j3 x0z x0 x8z x8 (wrap64 (x132 + 1)) c7 ([(Go.bits .and .i64 (wrap64 ((wrap64 ((wrap64 ((wrap64 ((wrap64 ((rdI c9 7) + (Go.bits .xor .i64 (Go.bits .xor .i64 t0 t1) t2))) + (Go.bits .or .i64 (Go.bits .and .i64 (rdI c9 4) (rdI c9 5)) (Go.bits .and .i64 (Go.bits .xor .i64 (rdI c9 4) 4294967295) (rdI c9 6))))) + (rdI x8 x132))) + (rdI c7 x132))) + (wrap64 ((Go.bits .xor .i64 (Go.bits .xor .i64 t3 t4) t5) + (Go.bits .or .i64 (Go.bits .or .i64 (Go.bits .and .i64 (rdI c9 0) (rdI c9 1)) (Go.bits .and .i64 (rdI c9 0) (rdI c9 2))) (Go.bits .and .i64 (rdI c9 1) (rdI c9 2))))))) 4294967295), (rdI c9 0), (rdI c9 1), (rdI c9 2), (Go.bits .and .i64 (wrap64 ((rdI c9 3) + (wrap64 ((wrap64 ((wrap64 ((wrap64 ((rdI c9 7) + (Go.bits .xor .i64 (Go.bits .xor .i64 t0 t1) t2))) + (Go.bits .or .i64 (Go.bits .and .i64 (rdI c9 4) (rdI c9 5)) (Go.bits .and .i64 (Go.bits .xor .i64 (rdI c9 4) 4294967295) (rdI c9 6))))) + (rdI x8 x132))) + (rdI c7 x132))))) 4294967295), (rdI c9 4), (rdI c9 5), (rdI c9 6)] : List Int)) (none)) (none)) (none)) (none)) (j4 x0z x0 ([] : List Int) 0 c9)
def impl_ShaBlock.l4b {R : Type} (ret : Bool × List Int → Option R) (j0 : Bool → (List Int) → Bool → (List Int) → Bool → (List Int) → Int → Int → Option R) (j1 : Bool → (List Int) → Bool → (List Int) → Bool → (List Int) → Int → (List Int) → Option R) (j2 : Bool → (List Int) → Bool → (List Int) → Int → (List Int) → Option R) (j3 : Bool → (List Int) → Bool → (List Int) → Int → (List Int) → (List Int) → Option R) (j4 : Bool → (List Int) → (List Int) → Int → (List Int) → Option R) (k : Nat) (x0z : Bool) (x0 x23 : List Int) (x218 : Int) (c9 : List Int) : Option R :=
  cond (decide (x218 < 8)) (cond (decide (0 ≤ x218)) (cond (decide (x218 < ((x0).length : Int))) (cond (decide (0 ≤ x218)) (cond (decide (x218 < 8)) (cond (decide ((x23).length + 1 < 17592186044416)) (j4 x0z x0 (x23 ++ ([(Go.bits .and .i64 (wrap64 ((rdI x0 x218) + (rdI c9 x218))) 4294967295)] : List Int)) (wrap64 (x218 + 1)) c9) (none)) (none)) (none)) (none)) (none)) (ret (false, x23))
mutual
def impl_ShaBlock.l0 : Nat → Bool → (List Int) → Bool → (List Int) → Bool → (List Int) → Int → Int → Option (Bool × List Int)
  | 0, _, _, _, _, _, _, _, _ => none
  | k + 1, x0z, x0, x1z, x1, x33z, x33, x34, x35 => impl_ShaBlock.l0b some (impl_ShaBlock.l0 k) (impl_ShaBlock.l1 k) (impl_ShaBlock.l2 k) (impl_ShaBlock.l3 k) (impl_ShaBlock.l4 k) k x0z x0 x1z x1 x33z x33 x34 x35
def impl_ShaBlock.l1 : Nat → Bool → (List Int) → Bool → (List Int) → Bool → (List Int) → Int → (List Int) → Option (Bool × List Int)
  | 0, _, _, _, _, _, _, _, _ => none
  | k + 1, x0z, x0, x1z, x1, x8z, x8, x46, c7 => impl_ShaBlock.l1b some (impl_ShaBlock.l0 k) (impl_ShaBlock.l1 k) (impl_ShaBlock.l2 k) (impl_ShaBlock.l3 k) (impl_ShaBlock.l4 k) k x0z x0 x1z x1 x8z x8 x46 c7
def impl_ShaBlock.l2 : Nat → Bool → (List Int) → Bool → (List Int) → Int → (List Int) → Option (Bool × List Int)
  | 0, _, _, _, _, _, _ => none
  | k + 1, x0z, x0, x8z, x8, x11, c7 => impl_ShaBlock.l2b some (impl_ShaBlock.l0 k) (impl_ShaBlock.l1 k) (impl_ShaBlock.l2 k) (impl_ShaBlock.l3 k) (impl_ShaBlock.l4 k) k x0z x0 x8z x8 x11 c7
def impl_ShaBlock.l3 : Nat → Bool → (List Int) → Bool → (List Int) → Int → (List Int) → (List Int) → Option (Bool × List Int)
  | 0, _, _, _, _, _, _, _ => none
  | k + 1, x0z, x0, x8z, x8, x132, c7, c9 => impl_ShaBlock.l3b some (impl_ShaBlock.l0 k) (impl_ShaBlock.l1 k) (impl_ShaBlock.l2 k) (impl_ShaBlock.l3 k) (impl_ShaBlock.l4 k) k x0z x0 x8z x8 x132 c7 c9
def impl_ShaBlock.l4 : Nat → Bool → (List Int) → (List Int) → Int → (List Int) → Option (Bool × List Int)
  | 0, _, _, _, _, _ => none
  | k + 1, x0z, x0, x23, x218, c9 => impl_ShaBlock.l4b some (impl_ShaBlock.l0 k) (impl_ShaBlock.l1 k) (impl_ShaBlock.l2 k) (impl_ShaBlock.l3 k) (impl_ShaBlock.l4 k) k x0z x0 x23 x218 c9
end
def impl_ShaBlock.f : Nat → Bool → (List Int) → Bool → (List Int) → Option (Bool × List Int)
  | 0, _, _, _, _ => none
  | k + 1, a0z, a0, a1z, a1 => impl_ShaBlock.b some (impl_ShaBlock.l0 k) (impl_ShaBlock.l1 k) (impl_ShaBlock.l2 k) (impl_ShaBlock.l3 k) (impl_ShaBlock.l4 k) k a0z a0 a1z a1
def impl_ShaBlock.enc (r : Bool × List Int) : Res := ⟨[.vals false [((.nums 3 .i64 r.1 r.2), true)]], []⟩
def impl_ShaBlock.ans (k : Nat) : List Arg → Ans
  | [.v (.nums 3 .i64 a0z a0), .v (.nums 5 .u8 a1z a1)] => ⟨impl_ShaBlock.f k a0z a0 a1z a1, impl_ShaBlock.enc⟩
  | _ => Ans.no
def impl_ShaBlock.Cs (k : Nat) : CallSem := tab [(113, impl_isWord.ans k), (114, impl_rounds.ans k), (115, impl_TurnRight.ans k)]
def impl_ShaBlock.cuts : List (Nat × Keep) := [(58, ⟨[(0, some []), (1, some []), (33, some []), (34, some []), (35, some [])], []⟩), (250, ⟨[(0, some []), (1, some []), (7, some []), (8, none), (9, some []), (46, some [])], []⟩), (506, ⟨[(0, some []), (7, some []), (8, none), (9, some []), (11, some [])], []⟩), (2042, ⟨[(0, some []), (7, some []), (8, none), (9, some []), (132, some [])], []⟩), (8186, ⟨[(0, some []), (9, some []), (23, none), (218, some [])], []⟩)]
noncomputable def impl_ShaBlock.K0 : List Fr := framesAt [true, true, false, true, false] (bodyOf Tryz.f109 impl_ShaBlock.cuts) []
def impl_ShaBlock.N0 (x0z : Bool) (x0 : List Int) (x1z : Bool) (x1 : List Int) (x33z : Bool) (x33 : List Int) (x34 x35 : Int) : St := stOf 235 235 2 [(0, .val ⟨(.nums 3 .i64 x0z x0), [], false, none⟩), (1, .val ⟨(.nums 5 .u8 x1z x1), [], false, none⟩), (33, .val ⟨(.nums 3 .i64 x33z x33), [], false, none⟩), (34, .val (V.s (.int .i64 x34))), (35, .val (V.s (.int .i64 x35)))] []
noncomputable def impl_ShaBlock.K1 : List Fr := framesAt [true, true, true, true, false, true, false] (bodyOf Tryz.f109 impl_ShaBlock.cuts) []
def impl_ShaBlock.N1 (x0z : Bool) (x0 : List Int) (x1z : Bool) (x1 : List Int) (x8z : Bool) (x8 : List Int) (x46 : Int) (c7 : List Int) : St := stOf 235 235 2 [(0, .val ⟨(.nums 3 .i64 x0z x0), [], false, none⟩), (1, .val ⟨(.nums 5 .u8 x1z x1), [], false, none⟩), (7, .bp 7 0), (8, .val ⟨(.nums 3 .i64 x8z x8), [.l 8 0], true, some (.l 8 0)⟩), (9, .bp 9 0), (46, .val (V.s (.int .i64 x46)))] [(7, .arr .i64 64 c7), (9, .arr .i64 8 ([0, 0, 0, 0, 0, 0, 0, 0] : List Int))]
noncomputable def impl_ShaBlock.K2 : List Fr := framesAt [true, true, true, true, true, false, true, false] (bodyOf Tryz.f109 impl_ShaBlock.cuts) []
def impl_ShaBlock.N2 (x0z : Bool) (x0 : List Int) (x8z : Bool) (x8 : List Int) (x11 : Int) (c7 : List Int) : St := stOf 235 235 2 [(0, .val ⟨(.nums 3 .i64 x0z x0), [], false, none⟩), (7, .bp 7 0), (8, .val ⟨(.nums 3 .i64 x8z x8), [.l 8 0], true, some (.l 8 0)⟩), (9, .bp 9 0), (11, .val (V.s (.int .i64 x11)))] [(7, .arr .i64 64 c7), (9, .arr .i64 8 ([0, 0, 0, 0, 0, 0, 0, 0] : List Int))]
noncomputable def impl_ShaBlock.K3 : List Fr := framesAt [true, true, true, true, true, true, true, false, true, false] (bodyOf Tryz.f109 impl_ShaBlock.cuts) []
def impl_ShaBlock.N3 (x0z : Bool) (x0 : List Int) (x8z : Bool) (x8 : List Int) (x132 : Int) (c7 c9 : List Int) : St := stOf 235 235 2 [(0, .val ⟨(.nums 3 .i64 x0z x0), [], false, none⟩), (7, .bp 7 0), (8, .val ⟨(.nums 3 .i64 x8z x8), [.l 8 0], true, some (.l 8 0)⟩), (9, .bp 9 0), (132, .val (V.s (.int .i64 x132)))] [(7, .arr .i64 64 c7), (9, .arr .i64 8 c9)]
noncomputable def impl_ShaBlock.K4 : List Fr := framesAt [true, true, true, true, true, true, true, true, true, false, true, false] (bodyOf Tryz.f109 impl_ShaBlock.cuts) []
def impl_ShaBlock.N4 (x0z : Bool) (x0 x23 : List Int) (x218 : Int) (c9 : List Int) : St := stOf 235 235 2 [(0, .val ⟨(.nums 3 .i64 x0z x0), [], false, none⟩), (9, .bp 9 0), (23, .val ⟨(.nums 3 .i64 false x23), [.l 23 0], true, some (.l 23 0)⟩), (218, .val (V.s (.int .i64 x218)))] [(9, .arr .i64 8 c9)]
theorem impl_ShaBlock.s0 (k : Nat) (G : List Fr → St → Option Res) (a0z : Bool) (a0 : List Int) (a1z : Bool) (a1 : List Int) (yx0z : Bool) (yx0 : List Int) (yx1z : Bool) (yx1 : List Int) (yx33z : Bool) (yx33 : List Int) (yx34 yx35 : Int) : resume Tryz.prog (impl_ShaBlock.Cs k) G (finish Tryz.prog [] Tryz.f109 [.v (.nums 3 .i64 a0z a0), .v (.nums 5 .u8 a1z a1)]) 100000 impl_ShaBlock.K0 (impl_ShaBlock.N0 yx0z yx0 yx1z yx1 yx33z yx33 yx34 yx35) = impl_ShaBlock.l0b (fun r => some (impl_ShaBlock.enc r)) (fun x0z x0 x1z x1 x33z x33 x34 x35 => G impl_ShaBlock.K0 (impl_ShaBlock.N0 x0z x0 x1z x1 x33z x33 x34 x35)) (fun x0z x0 x1z x1 x8z x8 x46 c7 => G impl_ShaBlock.K1 (impl_ShaBlock.N1 x0z x0 x1z x1 x8z x8 x46 c7)) (fun x0z x0 x8z x8 x11 c7 => G impl_ShaBlock.K2 (impl_ShaBlock.N2 x0z x0 x8z x8 x11 c7)) (fun x0z x0 x8z x8 x132 c7 c9 => G impl_ShaBlock.K3 (impl_ShaBlock.N3 x0z x0 x8z x8 x132 c7 c9)) (fun x0z x0 x23 x218 c9 => G impl_ShaBlock.K4 (impl_ShaBlock.N4 x0z x0 x23 x218 c9)) k yx0z yx0 yx1z yx1 yx33z yx33 yx34 yx35 := by kernel_rfl
theorem impl_ShaBlock.s1 (k : Nat) (G : List Fr → St → Option Res) (a0z : Bool) (a0 : List Int) (a1z : Bool) (a1 : List Int) (yx0z : Bool) (yx0 : List Int) (yx1z : Bool) (yx1 : List Int) (yx8z : Bool) (yx8 : List Int) (yx46 : Int) (yc7 : List Int) : resume Tryz.prog (impl_ShaBlock.Cs k) G (finish Tryz.prog [] Tryz.f109 [.v (.nums 3 .i64 a0z a0), .v (.nums 5 .u8 a1z a1)]) 100000 impl_ShaBlock.K1 (impl_ShaBlock.N1 yx0z yx0 yx1z yx1 yx8z yx8 yx46 yc7) = impl_ShaBlock.l1b (fun r => some (impl_ShaBlock.enc r)) (fun x0z x0 x1z x1 x33z x33 x34 x35 => G impl_ShaBlock.K0 (impl_ShaBlock.N0 x0z x0 x1z x1 x33z x33 x34 x35)) (fun x0z x0 x1z x1 x8z x8 x46 c7 => G impl_ShaBlock.K1 (impl_ShaBlock.N1 x0z x0 x1z x1 x8z x8 x46 c7)) (fun x0z x0 x8z x8 x11 c7 => G impl_ShaBlock.K2 (impl_ShaBlock.N2 x0z x0 x8z x8 x11 c7)) (fun x0z x0 x8z x8 x132 c7 c9 => G impl_ShaBlock.K3 (impl_ShaBlock.N3 x0z x0 x8z x8 x132 c7 c9)) (fun x0z x0 x23 x218 c9 => G impl_ShaBlock.K4 (impl_ShaBlock.N4 x0z x0 x23 x218 c9)) k yx0z yx0 yx1z yx1 yx8z yx8 yx46 yc7 := by kernel_rfl
theorem impl_ShaBlock.s2 (k : Nat) (G : List Fr → St → Option Res) (a0z : Bool) (a0 : List Int) (a1z : Bool) (a1 : List Int) (yx0z : Bool) (yx0 : List Int) (yx8z : Bool) (yx8 : List Int) (yx11 : Int) (yc7 : List Int) : resume Tryz.prog (impl_ShaBlock.Cs k) G (finish Tryz.prog [] Tryz.f109 [.v (.nums 3 .i64 a0z a0), .v (.nums 5 .u8 a1z a1)]) 100000 impl_ShaBlock.K2 (impl_ShaBlock.N2 yx0z yx0 yx8z yx8 yx11 yc7) = impl_ShaBlock.l2b (fun r => some (impl_ShaBlock.enc r)) (fun x0z x0 x1z x1 x33z x33 x34 x35 => G impl_ShaBlock.K0 (impl_ShaBlock.N0 x0z x0 x1z x1 x33z x33 x34 x35)) (fun x0z x0 x1z x1 x8z x8 x46 c7 => G impl_ShaBlock.K1 (impl_ShaBlock.N1 x0z x0 x1z x1 x8z x8 x46 c7)) (fun x0z x0 x8z x8 x11 c7 => G impl_ShaBlock.K2 (impl_ShaBlock.N2 x0z x0 x8z x8 x11 c7)) (fun x0z x0 x8z x8 x132 c7 c9 => G impl_ShaBlock.K3 (impl_ShaBlock.N3 x0z x0 x8z x8 x132 c7 c9)) (fun x0z x0 x23 x218 c9 => G impl_ShaBlock.K4 (impl_ShaBlock.N4 x0z x0 x23 x218 c9)) k yx0z yx0 yx8z yx8 yx11 yc7 := by kernel_rfl
theorem impl_ShaBlock.s3 (k : Nat) (G : List Fr → St → Option Res) (a0z : Bool) (a0 : List Int) (a1z : Bool) (a1 : List Int) (yx0z : Bool) (yx0 : List Int) (yx8z : Bool) (yx8 : List Int) (yx132 : Int) (yc7 yc9 : List Int) : resume Tryz.prog (impl_ShaBlock.Cs k) G (finish Tryz.prog [] Tryz.f109 [.v (.nums 3 .i64 a0z a0), .v (.nums 5 .u8 a1z a1)]) 100000 impl_ShaBlock.K3 (impl_ShaBlock.N3 yx0z yx0 yx8z yx8 yx132 yc7 yc9) = impl_ShaBlock.l3b (fun r => some (impl_ShaBlock.enc r)) (fun x0z x0 x1z x1 x33z x33 x34 x35 => G impl_ShaBlock.K0 (impl_ShaBlock.N0 x0z x0 x1z x1 x33z x33 x34 x35)) (fun x0z x0 x1z x1 x8z x8 x46 c7 => G impl_ShaBlock.K1 (impl_ShaBlock.N1 x0z x0 x1z x1 x8z x8 x46 c7)) (fun x0z x0 x8z x8 x11 c7 => G impl_ShaBlock.K2 (impl_ShaBlock.N2 x0z x0 x8z x8 x11 c7)) (fun x0z x0 x8z x8 x132 c7 c9 => G impl_ShaBlock.K3 (impl_ShaBlock.N3 x0z x0 x8z x8 x132 c7 c9)) (fun x0z x0 x23 x218 c9 => G impl_ShaBlock.K4 (impl_ShaBlock.N4 x0z x0 x23 x218 c9)) k yx0z yx0 yx8z yx8 yx132 yc7 yc9 := by kernel_rfl
theorem impl_ShaBlock.s4 (k : Nat) (G : List Fr → St → Option Res) (a0z : Bool) (a0 : List Int) (a1z : Bool) (a1 : List Int) (yx0z : Bool) (yx0 yx23 : List Int) (yx218 : Int) (yc9 : List Int) : resume Tryz.prog (impl_ShaBlock.Cs k) G (finish Tryz.prog [] Tryz.f109 [.v (.nums 3 .i64 a0z a0), .v (.nums 5 .u8 a1z a1)]) 100000 impl_ShaBlock.K4 (impl_ShaBlock.N4 yx0z yx0 yx23 yx218 yc9) = impl_ShaBlock.l4b (fun r => some (impl_ShaBlock.enc r)) (fun x0z x0 x1z x1 x33z x33 x34 x35 => G impl_ShaBlock.K0 (impl_ShaBlock.N0 x0z x0 x1z x1 x33z x33 x34 x35)) (fun x0z x0 x1z x1 x8z x8 x46 c7 => G impl_ShaBlock.K1 (impl_ShaBlock.N1 x0z x0 x1z x1 x8z x8 x46 c7)) (fun x0z x0 x8z x8 x11 c7 => G impl_ShaBlock.K2 (impl_ShaBlock.N2 x0z x0 x8z x8 x11 c7)) (fun x0z x0 x8z x8 x132 c7 c9 => G impl_ShaBlock.K3 (impl_ShaBlock.N3 x0z x0 x8z x8 x132 c7 c9)) (fun x0z x0 x23 x218 c9 => G impl_ShaBlock.K4 (impl_ShaBlock.N4 x0z x0 x23 x218 c9)) k yx0z yx0 yx23 yx218 yc9 := by kernel_rfl
theorem impl_ShaBlock.bn {R R' : Type} (e : R → R') (ret : Bool × List Int → Option R) (j0 : Bool → (List Int) → Bool → (List Int) → Bool → (List Int) → Int → Int → Option R) (j1 : Bool → (List Int) → Bool → (List Int) → Bool → (List Int) → Int → (List Int) → Option R) (j2 : Bool → (List Int) → Bool → (List Int) → Int → (List Int) → Option R) (j3 : Bool → (List Int) → Bool → (List Int) → Int → (List Int) → (List Int) → Option R) (j4 : Bool → (List Int) → (List Int) → Int → (List Int) → Option R) (k : Nat) (a0z : Bool) (a0 : List Int) (a1z : Bool) (a1 : List Int) : impl_ShaBlock.b (fun r => (ret r).map e) (fun x0z x0 x1z x1 x33z x33 x34 x35 => (j0 x0z x0 x1z x1 x33z x33 x34 x35).map e) (fun x0z x0 x1z x1 x8z x8 x46 c7 => (j1 x0z x0 x1z x1 x8z x8 x46 c7).map e) (fun x0z x0 x8z x8 x11 c7 => (j2 x0z x0 x8z x8 x11 c7).map e) (fun x0z x0 x8z x8 x132 c7 c9 => (j3 x0z x0 x8z x8 x132 c7 c9).map e) (fun x0z x0 x23 x218 c9 => (j4 x0z x0 x23 x218 c9).map e) k a0z a0 a1z a1 = (impl_ShaBlock.b ret j0 j1 j2 j3 j4 k a0z a0 a1z a1).map e := by
  unfold impl_ShaBlock.b
  repeat' first | with_reducible refine nat_cond ?_ ?_ | with_reducible refine nat_bind fun _ => ?_ | rfl
theorem impl_ShaBlock.l0n {R R' : Type} (e : R → R') (ret : Bool × List Int → Option R) (j0 : Bool → (List Int) → Bool → (List Int) → Bool → (List Int) → Int → Int → Option R) (j1 : Bool → (List Int) → Bool → (List Int) → Bool → (List Int) → Int → (List Int) → Option R) (j2 : Bool → (List Int) → Bool → (List Int) → Int → (List Int) → Option R) (j3 : Bool → (List Int) → Bool → (List Int) → Int → (List Int) → (List Int) → Option R) (j4 : Bool → (List Int) → (List Int) → Int → (List Int) → Option R) (k : Nat) (x0z : Bool) (x0 : List Int) (x1z : Bool) (x1 : List Int) (x33z : Bool) (x33 : List Int) (x34 x35 : Int) : impl_ShaBlock.l0b (fun r => (ret r).map e) (fun x0z x0 x1z x1 x33z x33 x34 x35 => (j0 x0z x0 x1z x1 x33z x33 x34 x35).map e) (fun x0z x0 x1z x1 x8z x8 x46 c7 => (j1 x0z x0 x1z x1 x8z x8 x46 c7).map e) (fun x0z x0 x8z x8 x11 c7 => (j2 x0z x0 x8z x8 x11 c7).map e) (fun x0z x0 x8z x8 x132 c7 c9 => (j3 x0z x0 x8z x8 x132 c7 c9).map e) (fun x0z x0 x23 x218 c9 => (j4 x0z x0 x23 x218 c9).map e) k x0z x0 x1z x1 x33z x33 x34 x35 = (impl_ShaBlock.l0b ret j0 j1 j2 j3 j4 k x0z x0 x1z x1 x33z x33 x34 x35).map e := by
  unfold impl_ShaBlock.l0b
  repeat' first | with_reducible refine nat_cond ?_ ?_ | with_reducible refine nat_bind fun _ => ?_ | rfl
theorem impl_ShaBlock.l1n {R R' : Type} (e : R → R') (ret : Bool × List Int → Option R) (j0 : Bool → (List Int) → Bool → (List Int) → Bool → (List Int) → Int → Int → Option R) (j1 : Bool → (List Int) → Bool → (List Int) → Bool → (List Int) → Int → (List Int) → Option R) (j2 : Bool → (List Int) → Bool → (List Int) → Int → (List Int) → Option R) (j3 : Bool → (List Int) → Bool → (List Int) → Int → (List Int) → (List Int) → Option R) (j4 : Bool → (List Int) → (List Int) → Int → (List Int) → Option R) (k : Nat) (x0z : Bool) (x0 : List Int) (x1z : Bool) (x1 : List Int) (x8z : Bool) (x8 : List Int) (x46 : Int) (c7 : List Int) : impl_ShaBlock.l1b (fun r => (ret r).map e) (fun x0z x0 x1z x1 x33z x33 x34 x35 => (j0 x0z x0 x1z x1 x33z x33 x34 x35).map e) (fun x0z x0 x1z x1 x8z x8 x46 c7 => (j1 x0z x0 x1z x1 x8z x8 x46 c7).map e) (fun x0z x0 x8z x8 x11 c7 => (j2 x0z x0 x8z x8 x11 c7).map e) (fun x0z x0 x8z x8 x132 c7 c9 => (j3 x0z x0 x8z x8 x132 c7 c9).map e) (fun x0z x0 x23 x218 c9 => (j4 x0z x0 x23 x218 c9).map e) k x0z x0 x1z x1 x8z x8 x46 c7 = (impl_ShaBlock.l1b ret j0 j1 j2 j3 j4 k x0z x0 x1z x1 x8z x8 x46 c7).map e := by
  unfold impl_ShaBlock.l1b
  repeat' first | with_reducible refine nat_cond ?_ ?_ | with_reducible refine nat_bind fun _ => ?_ | rfl
theorem impl_ShaBlock.l2b_nat {R R' : Type} (e : R → R') (ret : Bool × List Int → Option R) (j0 : Bool → (List Int) → Bool → (List Int) → Bool → (List Int) → Int → Int → Option R) (j1 : Bool → (List Int) → Bool → (List Int) → Bool → (List Int) → Int → (List Int) → Option R) (j2 : Bool → (List Int) → Bool → (List Int) → Int → (List Int) → Option R) (j3 : Bool → (List Int) → Bool → (List Int) → Int → (List Int) → (List Int) → Option R) (j4 : Bool → (List Int) → (List Int) → Int → (List Int) → Option R) (k : Nat) (x0z : Bool) (x0 : List Int) (x8z : Bool) (x8 : List Int) (x11 : Int) (c7 : List Int) : impl_ShaBlock.l2b (fun r => (ret r).map e) (fun x0z x0 x1z x1 x33z x33 x34 x35 => (j0 x0z x0 x1z x1 x33z x33 x34 x35).map e) (fun x0z x0 x1z x1 x8z x8 x46 c7 => (j1 x0z x0 x1z x1 x8z x8 x46 c7).map e) (fun x0z x0 x8z x8 x11 c7 => (j2 x0z x0 x8z x8 x11 c7).map e) (fun x0z x0 x8z x8 x132 c7 c9 => (j3 x0z x0 x8z x8 x132 c7 c9).map e) (fun x0z x0 x23 x218 c9 => (j4 x0z x0 x23 x218 c9).map e) k x0z x0 x8z x8 x11 c7 = (impl_ShaBlock.l2b ret j0 j1 j2 j3 j4 k x0z x0 x8z x8 x11 c7).map e := by
  unfold impl_ShaBlock.l2b
  repeat' first | with_reducible refine nat_cond ?_ ?_ | with_reducible refine nat_bind fun _ => ?_ | rfl
theorem impl_ShaBlock.l3b_nat {R R' : Type} (e : R → R') (ret : Bool × List Int → Option R) (j0 : Bool → (List Int) → Bool → (List Int) → Bool → (List Int) → Int → Int → Option R) (j1 : Bool → (List Int) → Bool → (List Int) → Bool → (List Int) → Int → (List Int) → Option R) (j2 : Bool → (List Int) → Bool → (List Int) → Int → (List Int) → Option R) (j3 : Bool → (List Int) → Bool → (List Int) → Int → (List Int) → (List Int) → Option R) (j4 : Bool → (List Int) → (List Int) → Int → (List Int) → Option R) (k : Nat) (x0z : Bool) (x0 : List Int) (x8z : Bool) (x8 : List Int) (x132 : Int) (c7 c9 : List Int) : impl_ShaBlock.l3b (fun r => (ret r).map e) (fun x0z x0 x1z x1 x33z x33 x34 x35 => (j0 x0z x0 x1z x1 x33z x33 x34 x35).map e) (fun x0z x0 x1z x1 x8z x8 x46 c7 => (j1 x0z x0 x1z x1 x8z x8 x46 c7).map e) (fun x0z x0 x8z x8 x11 c7 => (j2 x0z x0 x8z x8 x11 c7).map e) (fun x0z x0 x8z x8 x132 c7 c9 => (j3 x0z x0 x8z x8 x132 c7 c9).map e) (fun x0z x0 x23 x218 c9 => (j4 x0z x0 x23 x218 c9).map e) k x0z x0 x8z x8 x132 c7 c9 = (impl_ShaBlock.l3b ret j0 j1 j2 j3 j4 k x0z x0 x8z x8 x132 c7 c9).map e := by
  unfold impl_ShaBlock.l3b
  repeat' first | with_reducible refine nat_cond ?_ ?_ | with_reducible refine nat_bind fun _ => ?_ | rfl
theorem impl_ShaBlock.l4b_nat {R R' : Type} (e : R → R') (ret : Bool × List Int → Option R) (j0 : Bool → (List Int) → Bool → (List Int) → Bool → (List Int) → Int → Int → Option R) (j1 : Bool → (List Int) → Bool → (List Int) → Bool → (List Int) → Int → (List Int) → Option R) (j2 : Bool → (List Int) → Bool → (List Int) → Int → (List Int) → Option R) (j3 : Bool → (List Int) → Bool → (List Int) → Int → (List Int) → (List Int) → Option R) (j4 : Bool → (List Int) → (List Int) → Int → (List Int) → Option R) (k : Nat) (x0z : Bool) (x0 x23 : List Int) (x218 : Int) (c9 : List Int) : impl_ShaBlock.l4b (fun r => (ret r).map e) (fun x0z x0 x1z x1 x33z x33 x34 x35 => (j0 x0z x0 x1z x1 x33z x33 x34 x35).map e) (fun x0z x0 x1z x1 x8z x8 x46 c7 => (j1 x0z x0 x1z x1 x8z x8 x46 c7).map e) (fun x0z x0 x8z x8 x11 c7 => (j2 x0z x0 x8z x8 x11 c7).map e) (fun x0z x0 x8z x8 x132 c7 c9 => (j3 x0z x0 x8z x8 x132 c7 c9).map e) (fun x0z x0 x23 x218 c9 => (j4 x0z x0 x23 x218 c9).map e) k x0z x0 x23 x218 c9 = (impl_ShaBlock.l4b ret j0 j1 j2 j3 j4 k x0z x0 x23 x218 c9).map e := by
  unfold impl_ShaBlock.l4b
  repeat' first | with_reducible refine nat_cond ?_ ?_ | with_reducible refine nat_bind fun _ => ?_ | rfl
theorem impl_ShaBlock.rq (a0z : Bool) (a0 : List Int) (a1z : Bool) (a1 : List Int) : ∀ k, (∀ (x0z : Bool) (x0 : List Int) (x1z : Bool) (x1 : List Int) (x33z : Bool) (x33 : List Int) (x34 x35 : Int), rounds Tryz.prog impl_ShaBlock.Cs (finish Tryz.prog [] Tryz.f109 [.v (.nums 3 .i64 a0z a0), .v (.nums 5 .u8 a1z a1)]) 100000 k impl_ShaBlock.K0 (impl_ShaBlock.N0 x0z x0 x1z x1 x33z x33 x34 x35) = (impl_ShaBlock.l0 k x0z x0 x1z x1 x33z x33 x34 x35).map impl_ShaBlock.enc) ∧ (∀ (x0z : Bool) (x0 : List Int) (x1z : Bool) (x1 : List Int) (x8z : Bool) (x8 : List Int) (x46 : Int) (c7 : List Int), rounds Tryz.prog impl_ShaBlock.Cs (finish Tryz.prog [] Tryz.f109 [.v (.nums 3 .i64 a0z a0), .v (.nums 5 .u8 a1z a1)]) 100000 k impl_ShaBlock.K1 (impl_ShaBlock.N1 x0z x0 x1z x1 x8z x8 x46 c7) = (impl_ShaBlock.l1 k x0z x0 x1z x1 x8z x8 x46 c7).map impl_ShaBlock.enc) ∧ (∀ (x0z : Bool) (x0 : List Int) (x8z : Bool) (x8 : List Int) (x11 : Int) (c7 : List Int), rounds Tryz.prog impl_ShaBlock.Cs (finish Tryz.prog [] Tryz.f109 [.v (.nums 3 .i64 a0z a0), .v (.nums 5 .u8 a1z a1)]) 100000 k impl_ShaBlock.K2 (impl_ShaBlock.N2 x0z x0 x8z x8 x11 c7) = (impl_ShaBlock.l2 k x0z x0 x8z x8 x11 c7).map impl_ShaBlock.enc) ∧ (∀ (x0z : Bool) (x0 : List Int) (x8z : Bool) (x8 : List Int) (x132 : Int) (c7 c9 : List Int), rounds Tryz.prog impl_ShaBlock.Cs (finish Tryz.prog [] Tryz.f109 [.v (.nums 3 .i64 a0z a0), .v (.nums 5 .u8 a1z a1)]) 100000 k impl_ShaBlock.K3 (impl_ShaBlock.N3 x0z x0 x8z x8 x132 c7 c9) = (impl_ShaBlock.l3 k x0z x0 x8z x8 x132 c7 c9).map impl_ShaBlock.enc) ∧ (∀ (x0z : Bool) (x0 x23 : List Int) (x218 : Int) (c9 : List Int), rounds Tryz.prog impl_ShaBlock.Cs (finish Tryz.prog [] Tryz.f109 [.v (.nums 3 .i64 a0z a0), .v (.nums 5 .u8 a1z a1)]) 100000 k impl_ShaBlock.K4 (impl_ShaBlock.N4 x0z x0 x23 x218 c9) = (impl_ShaBlock.l4 k x0z x0 x23 x218 c9).map impl_ShaBlock.enc)
  | 0 => ⟨fun _ _ _ _ _ _ _ _ => rfl, fun _ _ _ _ _ _ _ _ => rfl, fun _ _ _ _ _ _ => rfl, fun _ _ _ _ _ _ _ => rfl, fun _ _ _ _ _ => rfl⟩
  | k + 1 => by
    have ih := impl_ShaBlock.rq a0z a0 a1z a1 k
    refine ⟨fun _ _ _ _ _ _ _ _ => ?_, fun _ _ _ _ _ _ _ _ => ?_, fun _ _ _ _ _ _ => ?_, fun _ _ _ _ _ _ _ => ?_, fun _ _ _ _ _ => ?_⟩
    · refine (impl_ShaBlock.s0 k _ a0z a0 a1z a1 _ _ _ _ _ _ _ _).trans (Eq.trans ?_ (impl_ShaBlock.l0n impl_ShaBlock.enc some (impl_ShaBlock.l0 k) (impl_ShaBlock.l1 k) (impl_ShaBlock.l2 k) (impl_ShaBlock.l3 k) (impl_ShaBlock.l4 k) k _ _ _ _ _ _ _ _))
      simp only [ih.1, ih.2.1, ih.2.2.1, ih.2.2.2.1, ih.2.2.2.2, Option.map_some]
    · refine (impl_ShaBlock.s1 k _ a0z a0 a1z a1 _ _ _ _ _ _ _ _).trans (Eq.trans ?_ (impl_ShaBlock.l1n impl_ShaBlock.enc some (impl_ShaBlock.l0 k) (impl_ShaBlock.l1 k) (impl_ShaBlock.l2 k) (impl_ShaBlock.l3 k) (impl_ShaBlock.l4 k) k _ _ _ _ _ _ _ _))
      simp only [ih.1, ih.2.1, ih.2.2.1, ih.2.2.2.1, ih.2.2.2.2, Option.map_some]
    · refine (impl_ShaBlock.s2 k _ a0z a0 a1z a1 _ _ _ _ _ _).trans (Eq.trans ?_ (impl_ShaBlock.l2b_nat impl_ShaBlock.enc some (impl_ShaBlock.l0 k) (impl_ShaBlock.l1 k) (impl_ShaBlock.l2 k) (impl_ShaBlock.l3 k) (impl_ShaBlock.l4 k) k _ _ _ _ _ _))
      simp only [ih.1, ih.2.1, ih.2.2.1, ih.2.2.2.1, ih.2.2.2.2, Option.map_some]
    · refine (impl_ShaBlock.s3 k _ a0z a0 a1z a1 _ _ _ _ _ _ _).trans (Eq.trans ?_ (impl_ShaBlock.l3b_nat impl_ShaBlock.enc some (impl_ShaBlock.l0 k) (impl_ShaBlock.l1 k) (impl_ShaBlock.l2 k) (impl_ShaBlock.l3 k) (impl_ShaBlock.l4 k) k _ _ _ _ _ _ _))
      simp only [ih.1, ih.2.1, ih.2.2.1, ih.2.2.2.1, ih.2.2.2.2, Option.map_some]
    · refine (impl_ShaBlock.s4 k _ a0z a0 a1z a1 _ _ _ _ _).trans (Eq.trans ?_ (impl_ShaBlock.l4b_nat impl_ShaBlock.enc some (impl_ShaBlock.l0 k) (impl_ShaBlock.l1 k) (impl_ShaBlock.l2 k) (impl_ShaBlock.l3 k) (impl_ShaBlock.l4 k) k _ _ _ _ _))
      simp only [ih.1, ih.2.1, ih.2.2.1, ih.2.2.2.1, ih.2.2.2.2, Option.map_some]
theorem impl_ShaBlock.eq (k : Nat) (a0z : Bool) (a0 : List Int) (a1z : Bool) (a1 : List Int) : answer Tryz.prog impl_ShaBlock.Cs 100000 impl_ShaBlock.cuts [] Tryz.f109 (k + 1) [.v (.nums 3 .i64 a0z a0), .v (.nums 5 .u8 a1z a1)] = (impl_ShaBlock.f (k + 1) a0z a0 a1z a1).map impl_ShaBlock.enc := by
  have ih := impl_ShaBlock.rq a0z a0 a1z a1 k
  refine Eq.trans (b := impl_ShaBlock.b (fun r => some (impl_ShaBlock.enc r)) (fun x0z x0 x1z x1 x33z x33 x34 x35 => rounds Tryz.prog impl_ShaBlock.Cs (finish Tryz.prog [] Tryz.f109 [.v (.nums 3 .i64 a0z a0), .v (.nums 5 .u8 a1z a1)]) 100000 k impl_ShaBlock.K0 (impl_ShaBlock.N0 x0z x0 x1z x1 x33z x33 x34 x35)) (fun x0z x0 x1z x1 x8z x8 x46 c7 => rounds Tryz.prog impl_ShaBlock.Cs (finish Tryz.prog [] Tryz.f109 [.v (.nums 3 .i64 a0z a0), .v (.nums 5 .u8 a1z a1)]) 100000 k impl_ShaBlock.K1 (impl_ShaBlock.N1 x0z x0 x1z x1 x8z x8 x46 c7)) (fun x0z x0 x8z x8 x11 c7 => rounds Tryz.prog impl_ShaBlock.Cs (finish Tryz.prog [] Tryz.f109 [.v (.nums 3 .i64 a0z a0), .v (.nums 5 .u8 a1z a1)]) 100000 k impl_ShaBlock.K2 (impl_ShaBlock.N2 x0z x0 x8z x8 x11 c7)) (fun x0z x0 x8z x8 x132 c7 c9 => rounds Tryz.prog impl_ShaBlock.Cs (finish Tryz.prog [] Tryz.f109 [.v (.nums 3 .i64 a0z a0), .v (.nums 5 .u8 a1z a1)]) 100000 k impl_ShaBlock.K3 (impl_ShaBlock.N3 x0z x0 x8z x8 x132 c7 c9)) (fun x0z x0 x23 x218 c9 => rounds Tryz.prog impl_ShaBlock.Cs (finish Tryz.prog [] Tryz.f109 [.v (.nums 3 .i64 a0z a0), .v (.nums 5 .u8 a1z a1)]) 100000 k impl_ShaBlock.K4 (impl_ShaBlock.N4 x0z x0 x23 x218 c9)) k a0z a0 a1z a1) (by kernel_rfl) (Eq.trans ?_ (impl_ShaBlock.bn impl_ShaBlock.enc some (impl_ShaBlock.l0 k) (impl_ShaBlock.l1 k) (impl_ShaBlock.l2 k) (impl_ShaBlock.l3 k) (impl_ShaBlock.l4 k) k a0z a0 a1z a1))
  simp only [ih.1, ih.2.1, ih.2.2.1, ih.2.2.2.1, ih.2.2.2.2, Option.map_some]
theorem impl_ShaBlock.sound (k : Nat) : SoundF Tryz.prog 109 (fun a => (impl_ShaBlock.ans k a).val) := by
  refine sound_plain (fun args res h => ?_) (fun t n => rfl)
  unfold impl_ShaBlock.ans at h
  dsimp only at h
  split at h
  · cases k with
    | zero => cases h
    | succ k =>
      unfold Ans.val at h
      rw [← impl_ShaBlock.eq] at h
      exact answer_sound mixed Tryz.func109 _ _ _ (k + 1) (fun j _ => tab_sound (tab_cons (impl_isWord.sound j) (tab_cons (impl_rounds.sound j) (tab_cons (impl_TurnRight.sound j) (tab_nil))))) _ _ h
  · exact (Ans.no_val h).elim

def impl_Sha.b {R : Type} (ret : Bool × List Int → Option R) (j0 : Bool → (List Int) → Bool → (List Int) → Int → Option R) (j1 : (List Int) → Bool → (List Int) → Int → Int → Option R) (k : Nat) (a0z : Bool) (a0 : List Int) : Option R :=
  (impl_ShaInit.f k).bind fun t0 => (impl_ShaPad.f k a0z a0).bind fun t1 => j0 t0.1 t0.2 t1.1 t1.2 0
def impl_Sha.l0b {R : Type} (ret : Bool × List Int → Option R) (j0 : Bool → (List Int) → Bool → (List Int) → Int → Option R) (j1 : (List Int) → Bool → (List Int) → Int → Int → Option R) (k : Nat) (x3z : Bool) (x3 : List Int) (x4z : Bool) (x4 : List Int) (x5 : Int) : Option R :=
  cond (decide (x5 < ((x4).length : Int))) (cond (decide (0 ≤ (wrap64 (x5 + 64)))) (cond (decide ((wrap64 (x5 + 64)) ≤ ((x4).length : Int))) (cond (decide (0 ≤ x5)) (cond (decide (x5 ≤ (wrap64 (x5 + 64)))) ((impl_ShaBlock.f k x3z x3 x4z (((x4).take ((wrap64 (x5 + 64))).toNat).drop (x5).toNat)).bind fun t0 => j0 t0.1 t0.2 x4z x4 (wrap64 (x5 + 64))) (none)) (none)) (none)) (none)) (j1 ([] : List Int) x3z x3 ((x3).length : Int) 0)
def impl_Sha.l1b {R : Type} (ret : Bool × List Int → Option R) (j0 : Bool → (List Int) → Bool → (List Int) → Int → Option R) (j1 : (List Int) → Bool → (List Int) → Int → Int → Option R) (k : Nat) (x6 : List Int) (x26z : Bool) (x26 : List Int) (x27 x28 : Int) : Option R :=
  cond (decide (x28 < x27)) (cond (decide (0 ≤ x28)) (cond (decide (x28 < ((x26).length : Int))) (cond (decide ((x6).length + 4 < 140737488355328)) (j1 (x6 ++ ([(((shrI .i64 (rdI x26 x28) 24)) % 256), (((shrI .i64 (rdI x26 x28) 16)) % 256), (((shrI .i64 (rdI x26 x28) 8)) % 256), (((rdI x26 x28)) % 256)] : List Int)) x26z x26 x27 (wrap64 (x28 + 1))) (none)) (none)) (none)) (ret (false, x6))
mutual
def impl_Sha.l0 : Nat → Bool → (List Int) → Bool → (List Int) → Int → Option (Bool × List Int)
  | 0, _, _, _, _, _ => none
  | k + 1, x3z, x3, x4z, x4, x5 => impl_Sha.l0b some (impl_Sha.l0 k) (impl_Sha.l1 k) k x3z x3 x4z x4 x5
def impl_Sha.l1 : Nat → (List Int) → Bool → (List Int) → Int → Int → Option (Bool × List Int)
  | 0, _, _, _, _, _ => none
  | k + 1, x6, x26z, x26, x27, x28 => impl_Sha.l1b some (impl_Sha.l0 k) (impl_Sha.l1 k) k x6 x26z x26 x27 x28
end
def impl_Sha.f : Nat → Bool → (List Int) → Option (Bool × List Int)
  | 0, _, _ => none
  | k + 1, a0z, a0 => impl_Sha.b some (impl_Sha.l0 k) (impl_Sha.l1 k) k a0z a0
def impl_Sha.enc (r : Bool × List Int) : Res := ⟨[.vals false [((.nums 5 .u8 r.1 r.2), true)]], []⟩
def impl_Sha.ans (k : Nat) : List Arg → Ans
  | [.v (.nums 5 .u8 a0z a0)] => ⟨impl_Sha.f k a0z a0, impl_Sha.enc⟩
  | _ => Ans.no
def impl_Sha.Cs (k : Nat) : CallSem := tab [(107, impl_ShaInit.ans k), (108, impl_ShaPad.ans k), (109, impl_ShaBlock.ans k)]
def impl_Sha.cuts : List (Nat × Keep) := [(58, ⟨[(3, none), (4, none), (5, some [])], []⟩), (250, ⟨[(6, none), (26, none), (27, some []), (28, some [])], []⟩)]
noncomputable def impl_Sha.K0 : List Fr := framesAt [true, true, false, true, false] (bodyOf Tryz.f98 impl_Sha.cuts) []
def impl_Sha.N0 (x3z : Bool) (x3 : List Int) (x4z : Bool) (x4 : List Int) (x5 : Int) : St := stOf 48 48 1 [(3, .val ⟨(.nums 3 .i64 x3z x3), [.l 3 0], true, some (.l 3 0)⟩), (4, .val ⟨(.nums 5 .u8 x4z x4), [.l 4 0], true, some (.l 4 0)⟩), (5, .val (V.s (.int .i64 x5)))] []
noncomputable def impl_Sha.K1 : List Fr := framesAt [true, true, true, true, false, true, false] (bodyOf Tryz.f98 impl_Sha.cuts) []
def impl_Sha.N1 (x6 : List Int) (x26z : Bool) (x26 : List Int) (x27 x28 : Int) : St := stOf 48 48 1 [(6, .val ⟨(.nums 5 .u8 false x6), [.l 6 0], true, some (.l 6 0)⟩), (26, .val ⟨(.nums 3 .i64 x26z x26), [.l 26 0], true, some (.l 26 0)⟩), (27, .val (V.s (.int .i64 x27))), (28, .val (V.s (.int .i64 x28)))] []
theorem impl_Sha.s0 (k : Nat) (G : List Fr → St → Option Res) (a0z : Bool) (a0 : List Int) (yx3z : Bool) (yx3 : List Int) (yx4z : Bool) (yx4 : List Int) (yx5 : Int) : resume Tryz.prog (impl_Sha.Cs k) G (finish Tryz.prog [] Tryz.f98 [.v (.nums 5 .u8 a0z a0)]) 100000 impl_Sha.K0 (impl_Sha.N0 yx3z yx3 yx4z yx4 yx5) = impl_Sha.l0b (fun r => some (impl_Sha.enc r)) (fun x3z x3 x4z x4 x5 => G impl_Sha.K0 (impl_Sha.N0 x3z x3 x4z x4 x5)) (fun x6 x26z x26 x27 x28 => G impl_Sha.K1 (impl_Sha.N1 x6 x26z x26 x27 x28)) k yx3z yx3 yx4z yx4 yx5 := by kernel_rfl
theorem impl_Sha.s1 (k : Nat) (G : List Fr → St → Option Res) (a0z : Bool) (a0 yx6 : List Int) (yx26z : Bool) (yx26 : List Int) (yx27 yx28 : Int) : resume Tryz.prog (impl_Sha.Cs k) G (finish Tryz.prog [] Tryz.f98 [.v (.nums 5 .u8 a0z a0)]) 100000 impl_Sha.K1 (impl_Sha.N1 yx6 yx26z yx26 yx27 yx28) = impl_Sha.l1b (fun r => some (impl_Sha.enc r)) (fun x3z x3 x4z x4 x5 => G impl_Sha.K0 (impl_Sha.N0 x3z x3 x4z x4 x5)) (fun x6 x26z x26 x27 x28 => G impl_Sha.K1 (impl_Sha.N1 x6 x26z x26 x27 x28)) k yx6 yx26z yx26 yx27 yx28 := by kernel_rfl
theorem impl_Sha.bn {R R' : Type} (e : R → R') (ret : Bool × List Int → Option R) (j0 : Bool → (List Int) → Bool → (List Int) → Int → Option R) (j1 : (List Int) → Bool → (List Int) → Int → Int → Option R) (k : Nat) (a0z : Bool) (a0 : List Int) : impl_Sha.b (fun r => (ret r).map e) (fun x3z x3 x4z x4 x5 => (j0 x3z x3 x4z x4 x5).map e) (fun x6 x26z x26 x27 x28 => (j1 x6 x26z x26 x27 x28).map e) k a0z a0 = (impl_Sha.b ret j0 j1 k a0z a0).map e := by
  unfold impl_Sha.b
  repeat' first | with_reducible refine nat_cond ?_ ?_ | with_reducible refine nat_bind fun _ => ?_ | rfl
theorem impl_Sha.l0n {R R' : Type} (e : R → R') (ret : Bool × List Int → Option R) (j0 : Bool → (List Int) → Bool → (List Int) → Int → Option R) (j1 : (List Int) → Bool → (List Int) → Int → Int → Option R) (k : Nat) (x3z : Bool) (x3 : List Int) (x4z : Bool) (x4 : List Int) (x5 : Int) : impl_Sha.l0b (fun r => (ret r).map e) (fun x3z x3 x4z x4 x5 => (j0 x3z x3 x4z x4 x5).map e) (fun x6 x26z x26 x27 x28 => (j1 x6 x26z x26 x27 x28).map e) k x3z x3 x4z x4 x5 = (impl_Sha.l0b ret j0 j1 k x3z x3 x4z x4 x5).map e := by
  unfold impl_Sha.l0b
  repeat' first | with_reducible refine nat_cond ?_ ?_ | with_reducible refine nat_bind fun _ => ?_ | rfl
theorem impl_Sha.l1n {R R' : Type} (e : R → R') (ret : Bool × List Int → Option R) (j0 : Bool → (List Int) → Bool → (List Int) → Int → Option R) (j1 : (List Int) → Bool → (List Int) → Int → Int → Option R) (k : Nat) (x6 : List Int) (x26z : Bool) (x26 : List Int) (x27 x28 : Int) : impl_Sha.l1b (fun r => (ret r).map e) (fun x3z x3 x4z x4 x5 => (j0 x3z x3 x4z x4 x5).map e) (fun x6 x26z x26 x27 x28 => (j1 x6 x26z x26 x27 x28).map e) k x6 x26z x26 x27 x28 = (impl_Sha.l1b ret j0 j1 k x6 x26z x26 x27 x28).map e := by
  unfold impl_Sha.l1b
  repeat' first | with_reducible refine nat_cond ?_ ?_ | with_reducible refine nat_bind fun _ => ?_ | rfl
theorem impl_Sha.rq (a0z : Bool) (a0 : List Int) : ∀ k, (∀ (x3z : Bool) (x3 : List Int) (x4z : Bool) (x4 : List Int) (x5 : Int), rounds Tryz.prog impl_Sha.Cs (finish Tryz.prog [] Tryz.f98 [.v (.nums 5 .u8 a0z a0)]) 100000 k impl_Sha.K0 (impl_Sha.N0 x3z x3 x4z x4 x5) = (impl_Sha.l0 k x3z x3 x4z x4 x5).map impl_Sha.enc) ∧ (∀ (x6 : List Int) (x26z : Bool) (x26 : List Int) (x27 x28 : Int), rounds Tryz.prog impl_Sha.Cs (finish Tryz.prog [] Tryz.f98 [.v (.nums 5 .u8 a0z a0)]) 100000 k impl_Sha.K1 (impl_Sha.N1 x6 x26z x26 x27 x28) = (impl_Sha.l1 k x6 x26z x26 x27 x28).map impl_Sha.enc)
  | 0 => ⟨fun _ _ _ _ _ => rfl, fun _ _ _ _ _ => rfl⟩
  | k + 1 => by
    have ih := impl_Sha.rq a0z a0 k
    refine ⟨fun _ _ _ _ _ => ?_, fun _ _ _ _ _ => ?_⟩
    · refine (impl_Sha.s0 k _ a0z a0 _ _ _ _ _).trans (Eq.trans ?_ (impl_Sha.l0n impl_Sha.enc some (impl_Sha.l0 k) (impl_Sha.l1 k) k _ _ _ _ _))
      simp only [ih.1, ih.2, Option.map_some]
    · refine (impl_Sha.s1 k _ a0z a0 _ _ _ _ _).trans (Eq.trans ?_ (impl_Sha.l1n impl_Sha.enc some (impl_Sha.l0 k) (impl_Sha.l1 k) k _ _ _ _ _))
      simp only [ih.1, ih.2, Option.map_some]
theorem impl_Sha.eq (k : Nat) (a0z : Bool) (a0 : List Int) : answer Tryz.prog impl_Sha.Cs 100000 impl_Sha.cuts [] Tryz.f98 (k + 1) [.v (.nums 5 .u8 a0z a0)] = (impl_Sha.f (k + 1) a0z a0).map impl_Sha.enc := by
  have ih := impl_Sha.rq a0z a0 k
  refine Eq.trans (b := impl_Sha.b (fun r => some (impl_Sha.enc r)) (fun x3z x3 x4z x4 x5 => rounds Tryz.prog impl_Sha.Cs (finish Tryz.prog [] Tryz.f98 [.v (.nums 5 .u8 a0z a0)]) 100000 k impl_Sha.K0 (impl_Sha.N0 x3z x3 x4z x4 x5)) (fun x6 x26z x26 x27 x28 => rounds Tryz.prog impl_Sha.Cs (finish Tryz.prog [] Tryz.f98 [.v (.nums 5 .u8 a0z a0)]) 100000 k impl_Sha.K1 (impl_Sha.N1 x6 x26z x26 x27 x28)) k a0z a0) (by kernel_rfl) (Eq.trans ?_ (impl_Sha.bn impl_Sha.enc some (impl_Sha.l0 k) (impl_Sha.l1 k) k a0z a0))
  simp only [ih.1, ih.2, Option.map_some]
theorem impl_Sha.sound (k : Nat) : SoundF Tryz.prog 98 (fun a => (impl_Sha.ans k a).val) := by
  refine sound_plain (fun args res h => ?_) (fun t n => rfl)
  unfold impl_Sha.ans at h
  dsimp only at h
  split at h
  · cases k with
    | zero => cases h
    | succ k =>
      unfold Ans.val at h
      rw [← impl_Sha.eq] at h
      exact answer_sound mixed Tryz.func98 _ _ _ (k + 1) (fun j _ => tab_sound (tab_cons (impl_ShaInit.sound j) (tab_cons (impl_ShaPad.sound j) (tab_cons (impl_ShaBlock.sound j) (tab_nil))))) _ _ h
  · exact (Ans.no_val h).elim

def impl_MacKey.b {R : Type} (ret : Bool × List Int → Option R) (k : Nat) (a0z : Bool) (a0 : List Int) : Option R :=
  cond (decide (((a0).length : Int) > 64)) ((impl_Sha.f k a0z a0).bind fun t0 => ret (false, ((t0.2).take ((List.replicate 64 (0 : Int))).length ++ ((List.replicate 64 (0 : Int))).drop (t0.2).length))) (ret (false, ((a0).take ((List.replicate 64 (0 : Int))).length ++ ((List.replicate 64 (0 : Int))).drop (a0).length)))
def impl_MacKey.f : Nat → Bool → (List Int) → Option (Bool × List Int)
  | 0, _, _ => none
  | k + 1, a0z, a0 => impl_MacKey.b some k a0z a0
def impl_MacKey.enc (r : Bool × List Int) : Res := ⟨[.vals false [((.nums 5 .u8 r.1 r.2), true)]], []⟩
def impl_MacKey.ans (k : Nat) : List Arg → Ans
  | [.v (.nums 5 .u8 a0z a0)] => ⟨impl_MacKey.f k a0z a0, impl_MacKey.enc⟩
  | _ => Ans.no
def impl_MacKey.Cs (k : Nat) : CallSem := tab [(98, impl_Sha.ans k)]
theorem impl_MacKey.eq (k : Nat) (a0z : Bool) (a0 : List Int) : answer Tryz.prog impl_MacKey.Cs 100000 [] [] Tryz.f97 (k + 1) [.v (.nums 5 .u8 a0z a0)] = (impl_MacKey.f (k + 1) a0z a0).map impl_MacKey.enc := by
  refine Eq.trans (b := impl_MacKey.b (fun r => some (impl_MacKey.enc r)) k a0z a0) (by kernel_rfl) ?_
  show _ = (impl_MacKey.b some k a0z a0).map impl_MacKey.enc
  unfold impl_MacKey.b
  repeat' first | with_reducible refine nat_cond ?_ ?_ | with_reducible refine nat_bind fun _ => ?_ | rfl
theorem impl_MacKey.sound (k : Nat) : SoundF Tryz.prog 97 (fun a => (impl_MacKey.ans k a).val) := by
  refine sound_plain (fun args res h => ?_) (fun t n => rfl)
  unfold impl_MacKey.ans at h
  dsimp only at h
  split at h
  · cases k with
    | zero => cases h
    | succ k =>
      unfold Ans.val at h
      rw [← impl_MacKey.eq] at h
      exact answer_sound mixed Tryz.func97 _ _ _ (k + 1) (fun j _ => tab_sound (tab_cons (impl_Sha.sound j) (tab_nil))) _ _ h
  · exact (Ans.no_val h).elim

def impl_masked.b {R : Type} (ret : Bool × List Int → Option R) (j0 : Int → (List Int) → Bool → (List Int) → Int → Int → Option R) (k : Nat) (a0z : Bool) (a0 : List Int) (a1 : Int) : Option R :=
  j0 a1 ([] : List Int) a0z a0 ((a0).length : Int) 0
def impl_masked.l0b {R : Type} (ret : Bool × List Int → Option R) (j0 : Int → (List Int) → Bool → (List Int) → Int → Int → Option R) (k : Nat) (x1 : Int) (x5 : List Int) (x9z : Bool) (x9 : List Int) (x10 x11 : Int) : Option R :=
  cond (decide (x11 < x10)) (cond (decide (0 ≤ x11)) (cond (decide (x11 < ((x9).length : Int))) (cond (decide ((x5).length + 1 < 140737488355328)) (j0 x1 (x5 ++ ([(Go.bits .xor .u8 (rdI x9 x11) x1)] : List Int)) x9z x9 x10 (wrap64 (x11 + 1))) (none)) (none)) (none)) (ret (false, x5))
def impl_masked.l0 : Nat → Int → (List Int) → Bool → (List Int) → Int → Int → Option (Bool × List Int)
  | 0, _, _, _, _, _, _ => none
  | k + 1, x1, x5, x9z, x9, x10, x11 => impl_masked.l0b some (impl_masked.l0 k) k x1 x5 x9z x9 x10 x11
def impl_masked.f : Nat → Bool → (List Int) → Int → Option (Bool × List Int)
  | 0, _, _, _ => none
  | k + 1, a0z, a0, a1 => impl_masked.b some (impl_masked.l0 k) k a0z a0 a1
def impl_masked.enc (r : Bool × List Int) : Res := ⟨[.vals false [((.nums 5 .u8 r.1 r.2), true)]], []⟩
def impl_masked.ans (k : Nat) : List Arg → Ans
  | [.v (.nums 5 .u8 a0z a0), .v (.int .u8 a1)] => ⟨impl_masked.f k a0z a0 a1, impl_masked.enc⟩
  | _ => Ans.no
def impl_masked.Cs (k : Nat) : CallSem := tab []
def impl_masked.cuts : List (Nat × Keep) := [(58, ⟨[(1, some []), (5, none), (9, some []), (10, some []), (11, some [])], []⟩)]
noncomputable def impl_masked.K0 : List Fr := framesAt [true, true, false, true, false] (bodyOf Tryz.f99 impl_masked.cuts) []
def impl_masked.N0 (x1 : Int) (x5 : List Int) (x9z : Bool) (x9 : List Int) (x10 x11 : Int) : St := stOf 23 23 2 [(1, .val (V.s (.int .u8 x1))), (5, .val ⟨(.nums 5 .u8 false x5), [.l 5 0], true, some (.l 5 0)⟩), (9, .val ⟨(.nums 5 .u8 x9z x9), [], false, none⟩), (10, .val (V.s (.int .i64 x10))), (11, .val (V.s (.int .i64 x11)))] []
theorem impl_masked.s0 (k : Nat) (G : List Fr → St → Option Res) (a0z : Bool) (a0 : List Int) (a1 yx1 : Int) (yx5 : List Int) (yx9z : Bool) (yx9 : List Int) (yx10 yx11 : Int) : resume Tryz.prog (impl_masked.Cs k) G (finish Tryz.prog [] Tryz.f99 [.v (.nums 5 .u8 a0z a0), .v (.int .u8 a1)]) 100000 impl_masked.K0 (impl_masked.N0 yx1 yx5 yx9z yx9 yx10 yx11) = impl_masked.l0b (fun r => some (impl_masked.enc r)) (fun x1 x5 x9z x9 x10 x11 => G impl_masked.K0 (impl_masked.N0 x1 x5 x9z x9 x10 x11)) k yx1 yx5 yx9z yx9 yx10 yx11 := by kernel_rfl
theorem impl_masked.bn {R R' : Type} (e : R → R') (ret : Bool × List Int → Option R) (j0 : Int → (List Int) → Bool → (List Int) → Int → Int → Option R) (k : Nat) (a0z : Bool) (a0 : List Int) (a1 : Int) : impl_masked.b (fun r => (ret r).map e) (fun x1 x5 x9z x9 x10 x11 => (j0 x1 x5 x9z x9 x10 x11).map e) k a0z a0 a1 = (impl_masked.b ret j0 k a0z a0 a1).map e := by
  unfold impl_masked.b
  repeat' first | with_reducible refine nat_cond ?_ ?_ | with_reducible refine nat_bind fun _ => ?_ | rfl
theorem impl_masked.l0n {R R' : Type} (e : R → R') (ret : Bool × List Int → Option R) (j0 : Int → (List Int) → Bool → (List Int) → Int → Int → Option R) (k : Nat) (x1 : Int) (x5 : List Int) (x9z : Bool) (x9 : List Int) (x10 x11 : Int) : impl_masked.l0b (fun r => (ret r).map e) (fun x1 x5 x9z x9 x10 x11 => (j0 x1 x5 x9z x9 x10 x11).map e) k x1 x5 x9z x9 x10 x11 = (impl_masked.l0b ret j0 k x1 x5 x9z x9 x10 x11).map e := by
  unfold impl_masked.l0b
  repeat' first | with_reducible refine nat_cond ?_ ?_ | with_reducible refine nat_bind fun _ => ?_ | rfl
theorem impl_masked.rq (a0z : Bool) (a0 : List Int) (a1 : Int) : ∀ k, (∀ (x1 : Int) (x5 : List Int) (x9z : Bool) (x9 : List Int) (x10 x11 : Int), rounds Tryz.prog impl_masked.Cs (finish Tryz.prog [] Tryz.f99 [.v (.nums 5 .u8 a0z a0), .v (.int .u8 a1)]) 100000 k impl_masked.K0 (impl_masked.N0 x1 x5 x9z x9 x10 x11) = (impl_masked.l0 k x1 x5 x9z x9 x10 x11).map impl_masked.enc)
  | 0 => fun _ _ _ _ _ _ => rfl
  | k + 1 => by
    have ih := impl_masked.rq a0z a0 a1 k
    refine fun _ _ _ _ _ _ => ?_
    · refine (impl_masked.s0 k _ a0z a0 a1 _ _ _ _ _ _).trans (Eq.trans ?_ (impl_masked.l0n impl_masked.enc some (impl_masked.l0 k) k _ _ _ _ _ _))
      simp only [ih, Option.map_some]
theorem impl_masked.eq (k : Nat) (a0z : Bool) (a0 : List Int) (a1 : Int) : answer Tryz.prog impl_masked.Cs 100000 impl_masked.cuts [] Tryz.f99 (k + 1) [.v (.nums 5 .u8 a0z a0), .v (.int .u8 a1)] = (impl_masked.f (k + 1) a0z a0 a1).map impl_masked.enc := by
  have ih := impl_masked.rq a0z a0 a1 k
  refine Eq.trans (b := impl_masked.b (fun r => some (impl_masked.enc r)) (fun x1 x5 x9z x9 x10 x11 => rounds Tryz.prog impl_masked.Cs (finish Tryz.prog [] Tryz.f99 [.v (.nums 5 .u8 a0z a0), .v (.int .u8 a1)]) 100000 k impl_masked.K0 (impl_masked.N0 x1 x5 x9z x9 x10 x11)) k a0z a0 a1) (by kernel_rfl) (Eq.trans ?_ (impl_masked.bn impl_masked.enc some (impl_masked.l0 k) k a0z a0 a1))
  simp only [ih, Option.map_some]
theorem impl_masked.sound (k : Nat) : SoundF Tryz.prog 99 (fun a => (impl_masked.ans k a).val) := by
  refine sound_plain (fun args res h => ?_) (fun t n => rfl)
  unfold impl_masked.ans at h
  dsimp only at h
  split at h
  · cases k with
    | zero => cases h
    | succ k =>
      unfold Ans.val at h
      rw [← impl_masked.eq] at h
      exact answer_sound mixed Tryz.func99 _ _ _ (k + 1) (fun j _ => tab_sound (tab_nil)) _ _ h
  · exact (Ans.no_val h).elim

def impl_Mac.b {R : Type} (ret : Bool × List Int → Option R) (k : Nat) (a0z : Bool) (a0 : List Int) (a1z : Bool) (a1 : List Int) : Option R :=
  (impl_MacKey.f k a0z a0).bind fun t0 => (impl_masked.f k t0.1 t0.2 92).bind fun t1 => (impl_masked.f k t0.1 t0.2 54).bind fun t2 => cond (decide ((t2.2).length + (a1).length < 140737488355328)) ((impl_Sha.f k ((a1).isEmpty && t2.1) (t2.2 ++ a1)).bind fun t3 => cond (decide ((t1.2).length + (t3.2).length < 140737488355328)) ((impl_Sha.f k ((t3.2).isEmpty && t1.1) (t1.2 ++ t3.2)).bind fun t4 => ret (t4.1, t4.2)) (none)) (none)
def impl_Mac.f : Nat → Bool → (List Int) → Bool → (List Int) → Option (Bool × List Int)
  | 0, _, _, _, _ => none
  | k + 1, a0z, a0, a1z, a1 => impl_Mac.b some k a0z a0 a1z a1
def impl_Mac.enc (r : Bool × List Int) : Res := ⟨[.vals false [((.nums 5 .u8 r.1 r.2), true)]], []⟩
def impl_Mac.ans (k : Nat) : List Arg → Ans
  | [.v (.nums 5 .u8 a0z a0), .v (.nums 5 .u8 a1z a1)] => ⟨impl_Mac.f k a0z a0 a1z a1, impl_Mac.enc⟩
  | _ => Ans.no
def impl_Mac.Cs (k : Nat) : CallSem := tab [(97, impl_MacKey.ans k), (98, impl_Sha.ans k), (99, impl_masked.ans k)]
theorem impl_Mac.eq (k : Nat) (a0z : Bool) (a0 : List Int) (a1z : Bool) (a1 : List Int) : answer Tryz.prog impl_Mac.Cs 100000 [] [] Tryz.f82 (k + 1) [.v (.nums 5 .u8 a0z a0), .v (.nums 5 .u8 a1z a1)] = (impl_Mac.f (k + 1) a0z a0 a1z a1).map impl_Mac.enc := by
  refine Eq.trans (b := impl_Mac.b (fun r => some (impl_Mac.enc r)) k a0z a0 a1z a1) (by kernel_rfl) ?_
  show _ = (impl_Mac.b some k a0z a0 a1z a1).map impl_Mac.enc
  unfold impl_Mac.b
  repeat' first | with_reducible refine nat_cond ?_ ?_ | with_reducible refine nat_bind fun _ => ?_ | rfl
theorem impl_Mac.sound (k : Nat) : SoundF Tryz.prog 82 (fun a => (impl_Mac.ans k a).val) := by
  refine sound_plain (fun args res h => ?_) (fun t n => rfl)
  unfold impl_Mac.ans at h
  dsimp only at h
  split at h
  · cases k with
    | zero => cases h
    | succ k =>
      unfold Ans.val at h
      rw [← impl_Mac.eq] at h
      exact answer_sound mixed Tryz.func82 _ _ _ (k + 1) (fun j _ => tab_sound (tab_cons (impl_MacKey.sound j) (tab_cons (impl_Sha.sound j) (tab_cons (impl_masked.sound j) (tab_nil))))) _ _ h
  · exact (Ans.no_val h).elim

def impl_SignVote.b {R : Type} (ret : Int × Int × Bool × (List Int) × Int × Bool × (List Int) × Bool → Option R) (k : Nat) (a0_0z : Bool) (a0_0 : List T) (a1 a2 : Int) (a3z : Bool) (a3 : List Int) (a4 : Int) : Option R :=
  (impl_VoteBytes.f k a1 a2 a3z a3).bind fun t0 => (impl_TableOk.f k a0_0z a0_0).bind fun t1 => cond (!t1) (ret (0, 0, true, ([] : List Int), 0, true, ([] : List Int), false)) (cond t0.1 (ret (0, 0, true, ([] : List Int), 0, true, ([] : List Int), false)) ((impl_within.f k a4 0 (wrap64 (((a0_0).length : Int) - 1))).bind fun t2 => cond (!t2) (ret (0, 0, true, ([] : List Int), 0, true, ([] : List Int), false)) ((impl_copyBytes.f k a3z a3).bind fun t3 => cond (decide (0 ≤ a4)) (cond (decide (a4 < ((a0_0).length : Int))) ((impl_Mac.f k (((((a0_0).getD (a4).toNat .bad).cells.getD 1 .bad)).isNil) (((((a0_0).getD (a4).toNat .bad).cells.getD 1 .bad)).toNums) t0.1 t0.2).bind fun t4 => ret (a1, a2, t3.1, t3.2, a4, t4.1, t4.2, true)) (none)) (none))))
def impl_SignVote.f : Nat → Bool → (List T) → Int → Int → Bool → (List Int) → Int → Option (Int × Int × Bool × (List Int) × Int × Bool × (List Int) × Bool)
  | 0, _, _, _, _, _, _, _ => none
  | k + 1, a0_0z, a0_0, a1, a2, a3z, a3, a4 => impl_SignVote.b some k a0_0z a0_0 a1 a2 a3z a3 a4
def impl_SignVote.enc (r : Int × Int × Bool × (List Int) × Int × Bool × (List Int) × Bool) : Res := ⟨[.vals true [((.int .i64 r.1), true), ((.int .i64 r.2.1), true), ((.nums 5 .u8 r.2.2.1 r.2.2.2.1), true), ((.int .i64 r.2.2.2.2.1), true), ((.nums 5 .u8 r.2.2.2.2.2.1 r.2.2.2.2.2.2.1), true)], .vals false [((.bool r.2.2.2.2.2.2.2), true)]], []⟩
def impl_SignVote.ans (k : Nat) : List Arg → Ans
  | [.v (.agg [(.sl 85 a0_0z a0_0)]), .v (.int .i64 a1), .v (.int .i64 a2), .v (.nums 5 .u8 a3z a3), .v (.int .i64 a4)] => ⟨impl_SignVote.f k a0_0z a0_0 a1 a2 a3z a3 a4, impl_SignVote.enc⟩
  | _ => Ans.no
def impl_SignVote.Cs (k : Nat) : CallSem := tab [(61, impl_within.ans k), (58, impl_TableOk.ans k), (31, impl_copyBytes.ans k), (81, impl_VoteBytes.ans k), (82, impl_Mac.ans k)]
theorem impl_SignVote.eq (k : Nat) (a0_0z : Bool) (a0_0 : List T) (a1 a2 : Int) (a3z : Bool) (a3 : List Int) (a4 : Int) : answer Tryz.prog impl_SignVote.Cs 100000 [] [] Tryz.f59 (k + 1) [.v (.agg [(.sl 85 a0_0z a0_0)]), .v (.int .i64 a1), .v (.int .i64 a2), .v (.nums 5 .u8 a3z a3), .v (.int .i64 a4)] = (impl_SignVote.f (k + 1) a0_0z a0_0 a1 a2 a3z a3 a4).map impl_SignVote.enc := by
  refine Eq.trans (b := impl_SignVote.b (fun r => some (impl_SignVote.enc r)) k a0_0z a0_0 a1 a2 a3z a3 a4) (by kernel_rfl) ?_
  show _ = (impl_SignVote.b some k a0_0z a0_0 a1 a2 a3z a3 a4).map impl_SignVote.enc
  unfold impl_SignVote.b
  repeat' first | with_reducible refine nat_cond ?_ ?_ | with_reducible refine nat_bind fun _ => ?_ | rfl
theorem impl_SignVote.sound (k : Nat) : SoundF Tryz.prog 59 (fun a => (impl_SignVote.ans k a).val) := by
  refine sound_plain (fun args res h => ?_) (fun t n => rfl)
  unfold impl_SignVote.ans at h
  dsimp only at h
  split at h
  · cases k with
    | zero => cases h
    | succ k =>
      unfold Ans.val at h
      rw [← impl_SignVote.eq] at h
      exact answer_sound mixed Tryz.func59 _ _ _ (k + 1) (fun j _ => tab_sound (tab_cons (impl_within.sound j) (tab_cons (impl_TableOk.sound j) (tab_cons (impl_copyBytes.sound j) (tab_cons (impl_VoteBytes.sound j) (tab_cons (impl_Mac.sound j) (tab_nil))))))) _ _ h
  · exact (Ans.no_val h).elim

def impl_VoteSame.b {R : Type} (ret : Bool → Option R) (k : Nat) (a0_0 a0_1 : Int) (a0_2z : Bool) (a0_2 : List Int) (a0_3 : Int) (a0_4z : Bool) (a0_4 : List Int) (a1_0 a1_1 : Int) (a1_2z : Bool) (a1_2 : List Int) (a1_3 : Int) (a1_4z : Bool) (a1_4 : List Int) : Option R :=
  cond (decide (a0_0 = a1_0)) (cond (decide (a0_1 = a1_1)) (cond (decide (a0_3 = a1_3)) ((impl_SameBytes.f k a0_2z a0_2 a1_2z a1_2).bind fun t0 => cond t0 ((impl_SameBytes.f k a0_4z a0_4 a1_4z a1_4).bind fun t1 => ret t1) (ret false)) (ret false)) (ret false)) (ret false)
def impl_VoteSame.f : Nat → Int → Int → Bool → (List Int) → Int → Bool → (List Int) → Int → Int → Bool → (List Int) → Int → Bool → (List Int) → Option Bool
  | 0, _, _, _, _, _, _, _, _, _, _, _, _, _, _ => none
  | k + 1, a0_0, a0_1, a0_2z, a0_2, a0_3, a0_4z, a0_4, a1_0, a1_1, a1_2z, a1_2, a1_3, a1_4z, a1_4 => impl_VoteSame.b some k a0_0 a0_1 a0_2z a0_2 a0_3 a0_4z a0_4 a1_0 a1_1 a1_2z a1_2 a1_3 a1_4z a1_4
def impl_VoteSame.enc (r : Bool) : Res := ⟨[.vals false [((.bool r), true)]], []⟩
def impl_VoteSame.ans (k : Nat) : List Arg → Ans
  | [.v (.agg [(.int .i64 a0_0), (.int .i64 a0_1), (.nums 5 .u8 a0_2z a0_2), (.int .i64 a0_3), (.nums 5 .u8 a0_4z a0_4)]), .v (.agg [(.int .i64 a1_0), (.int .i64 a1_1), (.nums 5 .u8 a1_2z a1_2), (.int .i64 a1_3), (.nums 5 .u8 a1_4z a1_4)])] => ⟨impl_VoteSame.f k a0_0 a0_1 a0_2z a0_2 a0_3 a0_4z a0_4 a1_0 a1_1 a1_2z a1_2 a1_3 a1_4z a1_4, impl_VoteSame.enc⟩
  | _ => Ans.no
def impl_VoteSame.Cs (k : Nat) : CallSem := tab [(34, impl_SameBytes.ans k)]
theorem impl_VoteSame.eq (k : Nat) (a0_0 a0_1 : Int) (a0_2z : Bool) (a0_2 : List Int) (a0_3 : Int) (a0_4z : Bool) (a0_4 : List Int) (a1_0 a1_1 : Int) (a1_2z : Bool) (a1_2 : List Int) (a1_3 : Int) (a1_4z : Bool) (a1_4 : List Int) : answer Tryz.prog impl_VoteSame.Cs 100000 [] [] Tryz.f60 (k + 1) [.v (.agg [(.int .i64 a0_0), (.int .i64 a0_1), (.nums 5 .u8 a0_2z a0_2), (.int .i64 a0_3), (.nums 5 .u8 a0_4z a0_4)]), .v (.agg [(.int .i64 a1_0), (.int .i64 a1_1), (.nums 5 .u8 a1_2z a1_2), (.int .i64 a1_3), (.nums 5 .u8 a1_4z a1_4)])] = (impl_VoteSame.f (k + 1) a0_0 a0_1 a0_2z a0_2 a0_3 a0_4z a0_4 a1_0 a1_1 a1_2z a1_2 a1_3 a1_4z a1_4).map impl_VoteSame.enc := by
  refine Eq.trans (b := impl_VoteSame.b (fun r => some (impl_VoteSame.enc r)) k a0_0 a0_1 a0_2z a0_2 a0_3 a0_4z a0_4 a1_0 a1_1 a1_2z a1_2 a1_3 a1_4z a1_4) (by kernel_rfl) ?_
  show _ = (impl_VoteSame.b some k a0_0 a0_1 a0_2z a0_2 a0_3 a0_4z a0_4 a1_0 a1_1 a1_2z a1_2 a1_3 a1_4z a1_4).map impl_VoteSame.enc
  unfold impl_VoteSame.b
  repeat' first | with_reducible refine nat_cond ?_ ?_ | with_reducible refine nat_bind fun _ => ?_ | rfl
theorem impl_VoteSame.sound (k : Nat) : SoundF Tryz.prog 60 (fun a => (impl_VoteSame.ans k a).val) := by
  refine sound_plain (fun args res h => ?_) (fun t n => rfl)
  unfold impl_VoteSame.ans at h
  dsimp only at h
  split at h
  · cases k with
    | zero => cases h
    | succ k =>
      unfold Ans.val at h
      rw [← impl_VoteSame.eq] at h
      exact answer_sound mixed Tryz.func60 _ _ _ (k + 1) (fun j _ => tab_sound (tab_cons (impl_SameBytes.sound j) (tab_nil))) _ _ h
  · exact (Ans.no_val h).elim

def impl_VoteGood.b {R : Type} (ret : Bool → Option R) (k : Nat) (a0_0z : Bool) (a0_0 : List T) (a1_0 a1_1 : Int) (a1_2z : Bool) (a1_2 : List Int) (a1_3 : Int) (a1_4z : Bool) (a1_4 : List Int) : Option R :=
  (impl_SignVote.f k a0_0z a0_0 a1_0 a1_1 a1_2z a1_2 a1_3).bind fun t0 => cond t0.2.2.2.2.2.2.2 ((impl_VoteSame.f k t0.1 t0.2.1 t0.2.2.1 t0.2.2.2.1 t0.2.2.2.2.1 t0.2.2.2.2.2.1 t0.2.2.2.2.2.2.1 a1_0 a1_1 a1_2z a1_2 a1_3 a1_4z a1_4).bind fun t1 => ret t1) (ret false)
def impl_VoteGood.f : Nat → Bool → (List T) → Int → Int → Bool → (List Int) → Int → Bool → (List Int) → Option Bool
  | 0, _, _, _, _, _, _, _, _, _ => none
  | k + 1, a0_0z, a0_0, a1_0, a1_1, a1_2z, a1_2, a1_3, a1_4z, a1_4 => impl_VoteGood.b some k a0_0z a0_0 a1_0 a1_1 a1_2z a1_2 a1_3 a1_4z a1_4
def impl_VoteGood.enc (r : Bool) : Res := ⟨[.vals false [((.bool r), true)]], []⟩
def impl_VoteGood.ans (k : Nat) : List Arg → Ans
  | [.v (.agg [(.sl 85 a0_0z a0_0)]), .v (.agg [(.int .i64 a1_0), (.int .i64 a1_1), (.nums 5 .u8 a1_2z a1_2), (.int .i64 a1_3), (.nums 5 .u8 a1_4z a1_4)])] => ⟨impl_VoteGood.f k a0_0z a0_0 a1_0 a1_1 a1_2z a1_2 a1_3 a1_4z a1_4, impl_VoteGood.enc⟩
  | _ => Ans.no
def impl_VoteGood.Cs (k : Nat) : CallSem := tab [(59, impl_SignVote.ans k), (60, impl_VoteSame.ans k)]
theorem impl_VoteGood.eq (k : Nat) (a0_0z : Bool) (a0_0 : List T) (a1_0 a1_1 : Int) (a1_2z : Bool) (a1_2 : List Int) (a1_3 : Int) (a1_4z : Bool) (a1_4 : List Int) : answer Tryz.prog impl_VoteGood.Cs 100000 [] [] Tryz.f35 (k + 1) [.v (.agg [(.sl 85 a0_0z a0_0)]), .v (.agg [(.int .i64 a1_0), (.int .i64 a1_1), (.nums 5 .u8 a1_2z a1_2), (.int .i64 a1_3), (.nums 5 .u8 a1_4z a1_4)])] = (impl_VoteGood.f (k + 1) a0_0z a0_0 a1_0 a1_1 a1_2z a1_2 a1_3 a1_4z a1_4).map impl_VoteGood.enc := by
  refine Eq.trans (b := impl_VoteGood.b (fun r => some (impl_VoteGood.enc r)) k a0_0z a0_0 a1_0 a1_1 a1_2z a1_2 a1_3 a1_4z a1_4) (by kernel_rfl) ?_
  show _ = (impl_VoteGood.b some k a0_0z a0_0 a1_0 a1_1 a1_2z a1_2 a1_3 a1_4z a1_4).map impl_VoteGood.enc
  unfold impl_VoteGood.b
  repeat' first | with_reducible refine nat_cond ?_ ?_ | with_reducible refine nat_bind fun _ => ?_ | rfl
theorem impl_VoteGood.sound (k : Nat) : SoundF Tryz.prog 35 (fun a => (impl_VoteGood.ans k a).val) := by
  refine sound_plain (fun args res h => ?_) (fun t n => rfl)
  unfold impl_VoteGood.ans at h
  dsimp only at h
  split at h
  · cases k with
    | zero => cases h
    | succ k =>
      unfold Ans.val at h
      rw [← impl_VoteGood.eq] at h
      exact answer_sound mixed Tryz.func35 _ _ _ (k + 1) (fun j _ => tab_sound (tab_cons (impl_SignVote.sound j) (tab_cons (impl_VoteSame.sound j) (tab_nil)))) _ _ h
  · exact (Ans.no_val h).elim

def impl_Gather_1.b {R : Type} (ret : Bool → Option R) (k : Nat) (a0_0 a0_1 : Int) (a0_2z : Bool) (a0_2 : List Int) (a0_3 : Int) (a0_4z : Bool) (a0_4 : List Int) (a1_0 a2_0 a3_0 : Int) (a4_0z : Bool) (a4_0 : List Int) (a5_0z : Bool) (a5_0 : List T) : Option R :=
  cond (decide (a0_3 = a1_0)) (cond (decide (a0_0 = a2_0)) (cond (decide (a0_1 = a3_0)) ((impl_SameBytes.f k a0_2z a0_2 a4_0z a4_0).bind fun t0 => cond t0 ((impl_VoteGood.f k a5_0z a5_0 a0_0 a0_1 a0_2z a0_2 a0_3 a0_4z a0_4).bind fun t1 => ret t1) (ret false)) (ret false)) (ret false)) (ret false)
def impl_Gather_1.f : Nat → Int → Int → Bool → (List Int) → Int → Bool → (List Int) → Int → Int → Int → Bool → (List Int) → Bool → (List T) → Option Bool
  | 0, _, _, _, _, _, _, _, _, _, _, _, _, _, _ => none
  | k + 1, a0_0, a0_1, a0_2z, a0_2, a0_3, a0_4z, a0_4, a1_0, a2_0, a3_0, a4_0z, a4_0, a5_0z, a5_0 => impl_Gather_1.b some k a0_0 a0_1 a0_2z a0_2 a0_3 a0_4z a0_4 a1_0 a2_0 a3_0 a4_0z a4_0 a5_0z a5_0
def impl_Gather_1.enc (r : Bool) : Res := ⟨[.vals false [((.bool r), true)]], []⟩
def impl_Gather_1.ans (k : Nat) : List Arg → Ans
  | [.v (.agg [(.int .i64 a0_0), (.int .i64 a0_1), (.nums 5 .u8 a0_2z a0_2), (.int .i64 a0_3), (.nums 5 .u8 a0_4z a0_4)]), .v (.ptr [(.int .i64 a1_0)]), .v (.ptr [(.int .i64 a2_0)]), .v (.ptr [(.int .i64 a3_0)]), .v (.ptr [(.nums 5 .u8 a4_0z a4_0)]), .v (.ptr [(.sl 85 a5_0z a5_0)])] => ⟨impl_Gather_1.f k a0_0 a0_1 a0_2z a0_2 a0_3 a0_4z a0_4 a1_0 a2_0 a3_0 a4_0z a4_0 a5_0z a5_0, impl_Gather_1.enc⟩
  | _ => Ans.no
def impl_Gather_1.Cs (k : Nat) : CallSem := tab [(34, impl_SameBytes.ans k), (35, impl_VoteGood.ans k)]
theorem impl_Gather_1.eq (k : Nat) (a0_0 a0_1 : Int) (a0_2z : Bool) (a0_2 : List Int) (a0_3 : Int) (a0_4z : Bool) (a0_4 : List Int) (a1_0 a2_0 a3_0 : Int) (a4_0z : Bool) (a4_0 : List Int) (a5_0z : Bool) (a5_0 : List T) : answer Tryz.prog impl_Gather_1.Cs 100000 [] [] Tryz.f33 (k + 1) [.v (.agg [(.int .i64 a0_0), (.int .i64 a0_1), (.nums 5 .u8 a0_2z a0_2), (.int .i64 a0_3), (.nums 5 .u8 a0_4z a0_4)]), .v (.ptr [(.int .i64 a1_0)]), .v (.ptr [(.int .i64 a2_0)]), .v (.ptr [(.int .i64 a3_0)]), .v (.ptr [(.nums 5 .u8 a4_0z a4_0)]), .v (.ptr [(.sl 85 a5_0z a5_0)])] = (impl_Gather_1.f (k + 1) a0_0 a0_1 a0_2z a0_2 a0_3 a0_4z a0_4 a1_0 a2_0 a3_0 a4_0z a4_0 a5_0z a5_0).map impl_Gather_1.enc := by
  refine Eq.trans (b := impl_Gather_1.b (fun r => some (impl_Gather_1.enc r)) k a0_0 a0_1 a0_2z a0_2 a0_3 a0_4z a0_4 a1_0 a2_0 a3_0 a4_0z a4_0 a5_0z a5_0) (by kernel_rfl) ?_
  show _ = (impl_Gather_1.b some k a0_0 a0_1 a0_2z a0_2 a0_3 a0_4z a0_4 a1_0 a2_0 a3_0 a4_0z a4_0 a5_0z a5_0).map impl_Gather_1.enc
  unfold impl_Gather_1.b
  repeat' first | with_reducible refine nat_cond ?_ ?_ | with_reducible refine nat_bind fun _ => ?_ | rfl
theorem impl_Gather_1.sound (k : Nat) : SoundF Tryz.prog 33 (fun a => (impl_Gather_1.ans k a).val) := by
  refine sound_plain (fun args res h => ?_) (fun t n => rfl)
  unfold impl_Gather_1.ans at h
  dsimp only at h
  split at h
  · cases k with
    | zero => cases h
    | succ k =>
      unfold Ans.val at h
      rw [← impl_Gather_1.eq] at h
      exact answer_sound mixed Tryz.func33 _ _ _ (k + 1) (fun j _ => tab_sound (tab_cons (impl_SameBytes.sound j) (tab_cons (impl_VoteGood.sound j) (tab_nil)))) _ _ h
  · exact (Ans.no_val h).elim

def impl_Vote.b {R : Type} (ret : Int → Option R) (j0 : Bool → (List T) → Int → Int → Int → Bool → (List Int) → Bool → (List T) → Int → Int → Option R) (k : Nat) (a0z : Bool) (a0 : List T) (a1_0_0 a1_1_0 a1_2_0 : Int) (a1_3_0z : Bool) (a1_3_0 : List Int) (a1_4_0z : Bool) (a1_4_0 : List T) : Option R :=
  j0 a0z a0 a1_0_0 a1_1_0 a1_2_0 a1_3_0z a1_3_0 a1_4_0z a1_4_0 ((a0).length : Int) 0
def impl_Vote.l0b {R : Type} (ret : Int → Option R) (j0 : Bool → (List T) → Int → Int → Int → Bool → (List Int) → Bool → (List T) → Int → Int → Option R) (k : Nat) (x0z : Bool) (x0 : List T) (x1_0_0 x1_1_0 x1_2_0 : Int) (x1_3_0z : Bool) (x1_3_0 : List Int) (x1_4_0z : Bool) (x1_4_0 : List T) (x7 x8 : Int) : Option R :=
  cond (decide (x8 < x7)) (cond (decide (0 ≤ x8)) (cond (decide (x8 < ((x0).length : Int))) ((impl_Gather_1.f k (((((x0).getD (x8).toNat .bad).cells.getD 0 .bad)).toInt) (((((x0).getD (x8).toNat .bad).cells.getD 1 .bad)).toInt) (((((x0).getD (x8).toNat .bad).cells.getD 2 .bad)).isNil) (((((x0).getD (x8).toNat .bad).cells.getD 2 .bad)).toNums) (((((x0).getD (x8).toNat .bad).cells.getD 3 .bad)).toInt) (((((x0).getD (x8).toNat .bad).cells.getD 4 .bad)).isNil) (((((x0).getD (x8).toNat .bad).cells.getD 4 .bad)).toNums) x1_0_0 x1_1_0 x1_2_0 x1_3_0z x1_3_0 x1_4_0z x1_4_0).bind fun t0 => cond t0 (ret x8) (j0 x0z x0 x1_0_0 x1_1_0 x1_2_0 x1_3_0z x1_3_0 x1_4_0z x1_4_0 x7 (wrap64 (x8 + 1)))) (none)) (none)) (ret (-1))
def impl_Vote.l0 : Nat → Bool → (List T) → Int → Int → Int → Bool → (List Int) → Bool → (List T) → Int → Int → Option Int
  | 0, _, _, _, _, _, _, _, _, _, _, _ => none
  | k + 1, x0z, x0, x1_0_0, x1_1_0, x1_2_0, x1_3_0z, x1_3_0, x1_4_0z, x1_4_0, x7, x8 => impl_Vote.l0b some (impl_Vote.l0 k) k x0z x0 x1_0_0 x1_1_0 x1_2_0 x1_3_0z x1_3_0 x1_4_0z x1_4_0 x7 x8
def impl_Vote.f : Nat → Bool → (List T) → Int → Int → Int → Bool → (List Int) → Bool → (List T) → Option Int
  | 0, _, _, _, _, _, _, _, _, _ => none
  | k + 1, a0z, a0, a1_0_0, a1_1_0, a1_2_0, a1_3_0z, a1_3_0, a1_4_0z, a1_4_0 => impl_Vote.b some (impl_Vote.l0 k) k a0z a0 a1_0_0 a1_1_0 a1_2_0 a1_3_0z a1_3_0 a1_4_0z a1_4_0
def impl_Vote.enc (r : Int) : Res := ⟨[.vals false [((.int .i64 r), true)]], []⟩
def impl_Vote.ans (k : Nat) : List Arg → Ans
  | [.v (.sl 59 a0z a0), .v (.fn 33 [(.ptr [(.int .i64 a1_0_0)]), (.ptr [(.int .i64 a1_1_0)]), (.ptr [(.int .i64 a1_2_0)]), (.ptr [(.nums 5 .u8 a1_3_0z a1_3_0)]), (.ptr [(.sl 85 a1_4_0z a1_4_0)])])] => ⟨impl_Vote.f k a0z a0 a1_0_0 a1_1_0 a1_2_0 a1_3_0z a1_3_0 a1_4_0z a1_4_0, impl_Vote.enc⟩
  | _ => Ans.no
def impl_Vote.Cs (k : Nat) : CallSem := tab [(33, impl_Gather_1.ans k)]
def impl_Vote.cuts : List (Nat × Keep) := [(26, ⟨[(0, some []), (1, some []), (7, some []), (8, some [])], []⟩)]
noncomputable def impl_Vote.K0 : List Fr := framesAt [true, false, true, false] (bodyOf Tryz.f32 impl_Vote.cuts) []
def impl_Vote.N0 (x0z : Bool) (x0 : List T) (x1_0_0 x1_1_0 x1_2_0 : Int) (x1_3_0z : Bool) (x1_3_0 : List Int) (x1_4_0z : Bool) (x1_4_0 : List T) (x7 x8 : Int) : St := stOf 19 19 2 [(0, .val ⟨(.sl 59 x0z x0), [], false, none⟩), (1, .val ⟨(.fn 33 [(.ptr [(.int .i64 x1_0_0)]), (.ptr [(.int .i64 x1_1_0)]), (.ptr [(.int .i64 x1_2_0)]), (.ptr [(.nums 5 .u8 x1_3_0z x1_3_0)]), (.ptr [(.sl 85 x1_4_0z x1_4_0)])]), [], false, none⟩), (7, .val (V.s (.int .i64 x7))), (8, .val (V.s (.int .i64 x8)))] []
theorem impl_Vote.s0 (k : Nat) (G : List Fr → St → Option Res) (a0z : Bool) (a0 : List T) (a1_0_0 a1_1_0 a1_2_0 : Int) (a1_3_0z : Bool) (a1_3_0 : List Int) (a1_4_0z : Bool) (a1_4_0 : List T) (yx0z : Bool) (yx0 : List T) (yx1_0_0 yx1_1_0 yx1_2_0 : Int) (yx1_3_0z : Bool) (yx1_3_0 : List Int) (yx1_4_0z : Bool) (yx1_4_0 : List T) (yx7 yx8 : Int) : resume Tryz.prog (impl_Vote.Cs k) G (finish Tryz.prog [] Tryz.f32 [.v (.sl 59 a0z a0), .v (.fn 33 [(.ptr [(.int .i64 a1_0_0)]), (.ptr [(.int .i64 a1_1_0)]), (.ptr [(.int .i64 a1_2_0)]), (.ptr [(.nums 5 .u8 a1_3_0z a1_3_0)]), (.ptr [(.sl 85 a1_4_0z a1_4_0)])])]) 100000 impl_Vote.K0 (impl_Vote.N0 yx0z yx0 yx1_0_0 yx1_1_0 yx1_2_0 yx1_3_0z yx1_3_0 yx1_4_0z yx1_4_0 yx7 yx8) = impl_Vote.l0b (fun r => some (impl_Vote.enc r)) (fun x0z x0 x1_0_0 x1_1_0 x1_2_0 x1_3_0z x1_3_0 x1_4_0z x1_4_0 x7 x8 => G impl_Vote.K0 (impl_Vote.N0 x0z x0 x1_0_0 x1_1_0 x1_2_0 x1_3_0z x1_3_0 x1_4_0z x1_4_0 x7 x8)) k yx0z yx0 yx1_0_0 yx1_1_0 yx1_2_0 yx1_3_0z yx1_3_0 yx1_4_0z yx1_4_0 yx7 yx8 := by kernel_rfl
theorem impl_Vote.bn {R R' : Type} (e : R → R') (ret : Int → Option R) (j0 : Bool → (List T) → Int → Int → Int → Bool → (List Int) → Bool → (List T) → Int → Int → Option R) (k : Nat) (a0z : Bool) (a0 : List T) (a1_0_0 a1_1_0 a1_2_0 : Int) (a1_3_0z : Bool) (a1_3_0 : List Int) (a1_4_0z : Bool) (a1_4_0 : List T) : impl_Vote.b (fun r => (ret r).map e) (fun x0z x0 x1_0_0 x1_1_0 x1_2_0 x1_3_0z x1_3_0 x1_4_0z x1_4_0 x7 x8 => (j0 x0z x0 x1_0_0 x1_1_0 x1_2_0 x1_3_0z x1_3_0 x1_4_0z x1_4_0 x7 x8).map e) k a0z a0 a1_0_0 a1_1_0 a1_2_0 a1_3_0z a1_3_0 a1_4_0z a1_4_0 = (impl_Vote.b ret j0 k a0z a0 a1_0_0 a1_1_0 a1_2_0 a1_3_0z a1_3_0 a1_4_0z a1_4_0).map e := by
  unfold impl_Vote.b
  repeat' first | with_reducible refine nat_cond ?_ ?_ | with_reducible refine nat_bind fun _ => ?_ | rfl
theorem impl_Vote.l0n {R R' : Type} (e : R → R') (ret : Int → Option R) (j0 : Bool → (List T) → Int → Int → Int → Bool → (List Int) → Bool → (List T) → Int → Int → Option R) (k : Nat) (x0z : Bool) (x0 : List T) (x1_0_0 x1_1_0 x1_2_0 : Int) (x1_3_0z : Bool) (x1_3_0 : List Int) (x1_4_0z : Bool) (x1_4_0 : List T) (x7 x8 : Int) : impl_Vote.l0b (fun r => (ret r).map e) (fun x0z x0 x1_0_0 x1_1_0 x1_2_0 x1_3_0z x1_3_0 x1_4_0z x1_4_0 x7 x8 => (j0 x0z x0 x1_0_0 x1_1_0 x1_2_0 x1_3_0z x1_3_0 x1_4_0z x1_4_0 x7 x8).map e) k x0z x0 x1_0_0 x1_1_0 x1_2_0 x1_3_0z x1_3_0 x1_4_0z x1_4_0 x7 x8 = (impl_Vote.l0b ret j0 k x0z x0 x1_0_0 x1_1_0 x1_2_0 x1_3_0z x1_3_0 x1_4_0z x1_4_0 x7 x8).map e := by
  unfold impl_Vote.l0b
  repeat' first | with_reducible refine nat_cond ?_ ?_ | with_reducible refine nat_bind fun _ => ?_ | rfl
theorem impl_Vote.rq (a0z : Bool) (a0 : List T) (a1_0_0 a1_1_0 a1_2_0 : Int) (a1_3_0z : Bool) (a1_3_0 : List Int) (a1_4_0z : Bool) (a1_4_0 : List T) : ∀ k, (∀ (x0z : Bool) (x0 : List T) (x1_0_0 x1_1_0 x1_2_0 : Int) (x1_3_0z : Bool) (x1_3_0 : List Int) (x1_4_0z : Bool) (x1_4_0 : List T) (x7 x8 : Int), rounds Tryz.prog impl_Vote.Cs (finish Tryz.prog [] Tryz.f32 [.v (.sl 59 a0z a0), .v (.fn 33 [(.ptr [(.int .i64 a1_0_0)]), (.ptr [(.int .i64 a1_1_0)]), (.ptr [(.int .i64 a1_2_0)]), (.ptr [(.nums 5 .u8 a1_3_0z a1_3_0)]), (.ptr [(.sl 85 a1_4_0z a1_4_0)])])]) 100000 k impl_Vote.K0 (impl_Vote.N0 x0z x0 x1_0_0 x1_1_0 x1_2_0 x1_3_0z x1_3_0 x1_4_0z x1_4_0 x7 x8) = (impl_Vote.l0 k x0z x0 x1_0_0 x1_1_0 x1_2_0 x1_3_0z x1_3_0 x1_4_0z x1_4_0 x7 x8).map impl_Vote.enc)
  | 0 => fun _ _ _ _ _ _ _ _ _ _ _ => rfl
  | k + 1 => by
    have ih := impl_Vote.rq a0z a0 a1_0_0 a1_1_0 a1_2_0 a1_3_0z a1_3_0 a1_4_0z a1_4_0 k
    refine fun _ _ _ _ _ _ _ _ _ _ _ => ?_
    · refine (impl_Vote.s0 k _ a0z a0 a1_0_0 a1_1_0 a1_2_0 a1_3_0z a1_3_0 a1_4_0z a1_4_0 _ _ _ _ _ _ _ _ _ _ _).trans (Eq.trans ?_ (impl_Vote.l0n impl_Vote.enc some (impl_Vote.l0 k) k _ _ _ _ _ _ _ _ _ _ _))
      simp only [ih, Option.map_some]
theorem impl_Vote.eq (k : Nat) (a0z : Bool) (a0 : List T) (a1_0_0 a1_1_0 a1_2_0 : Int) (a1_3_0z : Bool) (a1_3_0 : List Int) (a1_4_0z : Bool) (a1_4_0 : List T) : answer Tryz.prog impl_Vote.Cs 100000 impl_Vote.cuts [] Tryz.f32 (k + 1) [.v (.sl 59 a0z a0), .v (.fn 33 [(.ptr [(.int .i64 a1_0_0)]), (.ptr [(.int .i64 a1_1_0)]), (.ptr [(.int .i64 a1_2_0)]), (.ptr [(.nums 5 .u8 a1_3_0z a1_3_0)]), (.ptr [(.sl 85 a1_4_0z a1_4_0)])])] = (impl_Vote.f (k + 1) a0z a0 a1_0_0 a1_1_0 a1_2_0 a1_3_0z a1_3_0 a1_4_0z a1_4_0).map impl_Vote.enc := by
  have ih := impl_Vote.rq a0z a0 a1_0_0 a1_1_0 a1_2_0 a1_3_0z a1_3_0 a1_4_0z a1_4_0 k
  refine Eq.trans (b := impl_Vote.b (fun r => some (impl_Vote.enc r)) (fun x0z x0 x1_0_0 x1_1_0 x1_2_0 x1_3_0z x1_3_0 x1_4_0z x1_4_0 x7 x8 => rounds Tryz.prog impl_Vote.Cs (finish Tryz.prog [] Tryz.f32 [.v (.sl 59 a0z a0), .v (.fn 33 [(.ptr [(.int .i64 a1_0_0)]), (.ptr [(.int .i64 a1_1_0)]), (.ptr [(.int .i64 a1_2_0)]), (.ptr [(.nums 5 .u8 a1_3_0z a1_3_0)]), (.ptr [(.sl 85 a1_4_0z a1_4_0)])])]) 100000 k impl_Vote.K0 (impl_Vote.N0 x0z x0 x1_0_0 x1_1_0 x1_2_0 x1_3_0z x1_3_0 x1_4_0z x1_4_0 x7 x8)) k a0z a0 a1_0_0 a1_1_0 a1_2_0 a1_3_0z a1_3_0 a1_4_0z a1_4_0) (by kernel_rfl) (Eq.trans ?_ (impl_Vote.bn impl_Vote.enc some (impl_Vote.l0 k) k a0z a0 a1_0_0 a1_1_0 a1_2_0 a1_3_0z a1_3_0 a1_4_0z a1_4_0))
  simp only [ih, Option.map_some]
theorem impl_Vote.sound (k : Nat) : SoundF Tryz.prog 32 (fun a => (impl_Vote.ans k a).val) := by
  refine sound_plain (fun args res h => ?_) (fun t n => rfl)
  unfold impl_Vote.ans at h
  dsimp only at h
  split at h
  · cases k with
    | zero => cases h
    | succ k =>
      unfold Ans.val at h
      rw [← impl_Vote.eq] at h
      exact answer_sound mixed Tryz.func32 _ _ _ (k + 1) (fun j _ => tab_sound (tab_cons (impl_Gather_1.sound j) (tab_nil))) _ _ h
  · exact (Ans.no_val h).elim

def impl_BitsSize.b {R : Type} (ret : Int → Option R) (k : Nat) (a0 : Int) : Option R :=
  cond (decide (a0 < 1)) (ret 0) (ret (wrap64 ((wrap64 (Int.tdiv (wrap64 (a0 - 1)) 8)) + 1)))
def impl_BitsSize.f : Nat → Int → Option Int
  | 0, _ => none
  | k + 1, a0 => impl_BitsSize.b some k a0
def impl_BitsSize.enc (r : Int) : Res := ⟨[.vals false [((.int .i64 r), true)]], []⟩
def impl_BitsSize.ans (k : Nat) : List Arg → Ans
  | [.v (.int .i64 a0)] => ⟨impl_BitsSize.f k a0, impl_BitsSize.enc⟩
  | _ => Ans.no
def impl_BitsSize.Cs (k : Nat) : CallSem := tab []
theorem impl_BitsSize.eq (k : Nat) (a0 : Int) : answer Tryz.prog impl_BitsSize.Cs 100000 [] [] Tryz.f83 (k + 1) [.v (.int .i64 a0)] = (impl_BitsSize.f (k + 1) a0).map impl_BitsSize.enc := by
  refine Eq.trans (b := impl_BitsSize.b (fun r => some (impl_BitsSize.enc r)) k a0) (by kernel_rfl) ?_
  show _ = (impl_BitsSize.b some k a0).map impl_BitsSize.enc
  unfold impl_BitsSize.b
  repeat' first | with_reducible refine nat_cond ?_ ?_ | with_reducible refine nat_bind fun _ => ?_ | rfl
theorem impl_BitsSize.sound (k : Nat) : SoundF Tryz.prog 83 (fun a => (impl_BitsSize.ans k a).val) := by
  refine sound_plain (fun args res h => ?_) (fun t n => rfl)
  unfold impl_BitsSize.ans at h
  dsimp only at h
  split at h
  · cases k with
    | zero => cases h
    | succ k =>
      unfold Ans.val at h
      rw [← impl_BitsSize.eq] at h
      exact answer_sound mixed Tryz.func83 _ _ _ (k + 1) (fun j _ => tab_sound (tab_nil)) _ _ h
  · exact (Ans.no_val h).elim

def impl_BitsNew.b {R : Type} (ret : Bool × List Int → Option R) (k : Nat) (a0 : Int) : Option R :=
  (impl_within.f k a0 1 10).bind fun t0 => cond (!t0) (ret (true, ([] : List Int))) ((impl_BitsSize.f k a0).bind fun t1 => cond (decide (t1 = t1)) (cond (decide (0 ≤ t1)) (cond (decide ((t1).toNat < 140737488355328)) (ret (false, (List.replicate (t1).toNat (0 : Int)))) (none)) (none)) (none))
def impl_BitsNew.f : Nat → Int → Option (Bool × List Int)
  | 0, _ => none
  | k + 1, a0 => impl_BitsNew.b some k a0
def impl_BitsNew.enc (r : Bool × List Int) : Res := ⟨[.vals false [((.nums 5 .u8 r.1 r.2), true)]], []⟩
def impl_BitsNew.ans (k : Nat) : List Arg → Ans
  | [.v (.int .i64 a0)] => ⟨impl_BitsNew.f k a0, impl_BitsNew.enc⟩
  | _ => Ans.no
def impl_BitsNew.Cs (k : Nat) : CallSem := tab [(61, impl_within.ans k), (83, impl_BitsSize.ans k)]
theorem impl_BitsNew.eq (k : Nat) (a0 : Int) : answer Tryz.prog impl_BitsNew.Cs 100000 [] [] Tryz.f62 (k + 1) [.v (.int .i64 a0)] = (impl_BitsNew.f (k + 1) a0).map impl_BitsNew.enc := by
  refine Eq.trans (b := impl_BitsNew.b (fun r => some (impl_BitsNew.enc r)) k a0) (by kernel_rfl) ?_
  show _ = (impl_BitsNew.b some k a0).map impl_BitsNew.enc
  unfold impl_BitsNew.b
  repeat' first | with_reducible refine nat_cond ?_ ?_ | with_reducible refine nat_bind fun _ => ?_ | rfl
theorem impl_BitsNew.sound (k : Nat) : SoundF Tryz.prog 62 (fun a => (impl_BitsNew.ans k a).val) := by
  refine sound_plain (fun args res h => ?_) (fun t n => rfl)
  unfold impl_BitsNew.ans at h
  dsimp only at h
  split at h
  · cases k with
    | zero => cases h
    | succ k =>
      unfold Ans.val at h
      rw [← impl_BitsNew.eq] at h
      exact answer_sound mixed Tryz.func62 _ _ _ (k + 1) (fun j _ => tab_sound (tab_cons (impl_within.sound j) (tab_cons (impl_BitsSize.sound j) (tab_nil)))) _ _ h
  · exact (Ans.no_val h).elim

def impl_BitsOf.b {R : Type} (ret : Bool × (List Int) × Bool → Option R) (j0 : Int → Bool → (List Int) → Bool → (List Int) → Int → Int → Option R) (k : Nat) (a0z : Bool) (a0 : List Int) (a1 : Int) : Option R :=
  (impl_within.f k a1 1 10).bind fun t0 => cond (!t0) (ret (true, ([] : List Int), false)) ((impl_BitsNew.f k a1).bind fun t1 => j0 a1 t1.1 t1.2 a0z a0 ((a0).length : Int) 0)
def impl_BitsOf.l0b {R : Type} (ret : Bool × (List Int) × Bool → Option R) (j0 : Int → Bool → (List Int) → Bool → (List Int) → Int → Int → Option R) (k : Nat) (x1 : Int) (x6z : Bool) (x6 : List Int) (x14z : Bool) (x14 : List Int) (x15 x16 : Int) : Option R :=
  cond (decide (x16 < x15)) (cond (decide (0 ≤ x16)) (cond (decide (x16 < ((x14).length : Int))) ((impl_within.f k (rdI x14 x16) 0 (wrap64 (x1 - 1))).bind fun t0 => cond (!t0) (ret (true, ([] : List Int), false)) (cond (decide (0 ≤ (wrap64 (Int.tdiv (rdI x14 x16) 8)))) (cond (decide ((wrap64 (Int.tdiv (rdI x14 x16) 8)) < ((x6).length : Int))) (cond (decide (0 ≤ (Int.tmod (rdI x14 x16) 8))) (cond (decide (0 ≤ (wrap64 (Int.tdiv (rdI x14 x16) 8)))) (cond (decide ((wrap64 (Int.tdiv (rdI x14 x16) 8)) < ((x6).length : Int))) (j0 x1 x6z ((x6).set ((wrap64 (Int.tdiv (rdI x14 x16) 8))).toNat (Go.bits .or .u8 (rdI x6 (wrap64 (Int.tdiv (rdI x14 x16) 8))) (shlI .u8 1 (Int.tmod (rdI x14 x16) 8)))) x14z x14 x15 (wrap64 (x16 + 1))) (none)) (none)) (none)) (none)) (none))) (none)) (none)) (ret (x6z, x6, true))
def impl_BitsOf.l0 : Nat → Int → Bool → (List Int) → Bool → (List Int) → Int → Int → Option (Bool × (List Int) × Bool)
  | 0, _, _, _, _, _, _, _ => none
  | k + 1, x1, x6z, x6, x14z, x14, x15, x16 => impl_BitsOf.l0b some (impl_BitsOf.l0 k) k x1 x6z x6 x14z x14 x15 x16
def impl_BitsOf.f : Nat → Bool → (List Int) → Int → Option (Bool × (List Int) × Bool)
  | 0, _, _, _ => none
  | k + 1, a0z, a0, a1 => impl_BitsOf.b some (impl_BitsOf.l0 k) k a0z a0 a1
def impl_BitsOf.enc (r : Bool × (List Int) × Bool) : Res := ⟨[.vals false [((.nums 5 .u8 r.1 r.2.1), true)], .vals false [((.bool r.2.2), true)]], []⟩
def impl_BitsOf.ans (k : Nat) : List Arg → Ans
  | [.v (.nums 3 .i64 a0z a0), .v (.int .i64 a1)] => ⟨impl_BitsOf.f k a0z a0 a1, impl_BitsOf.enc⟩
  | _ => Ans.no
def impl_BitsOf.Cs (k : Nat) : CallSem := tab [(61, impl_within.ans k), (62, impl_BitsNew.ans k)]
def impl_BitsOf.cuts : List (Nat × Keep) := [(122, ⟨[(1, some []), (6, none), (14, some []), (15, some []), (16, some [])], []⟩)]
noncomputable def impl_BitsOf.K0 : List Fr := framesAt [true, true, true, false, true, false] (bodyOf Tryz.f36 impl_BitsOf.cuts) []
def impl_BitsOf.N0 (x1 : Int) (x6z : Bool) (x6 : List Int) (x14z : Bool) (x14 : List Int) (x15 x16 : Int) : St := stOf 37 37 2 [(1, .val (V.s (.int .i64 x1))), (6, .val ⟨(.nums 5 .u8 x6z x6), [.l 6 0], true, some (.l 6 0)⟩), (14, .val ⟨(.nums 3 .i64 x14z x14), [], false, none⟩), (15, .val (V.s (.int .i64 x15))), (16, .val (V.s (.int .i64 x16)))] []
theorem impl_BitsOf.s0 (k : Nat) (G : List Fr → St → Option Res) (a0z : Bool) (a0 : List Int) (a1 yx1 : Int) (yx6z : Bool) (yx6 : List Int) (yx14z : Bool) (yx14 : List Int) (yx15 yx16 : Int) : resume Tryz.prog (impl_BitsOf.Cs k) G (finish Tryz.prog [] Tryz.f36 [.v (.nums 3 .i64 a0z a0), .v (.int .i64 a1)]) 100000 impl_BitsOf.K0 (impl_BitsOf.N0 yx1 yx6z yx6 yx14z yx14 yx15 yx16) = impl_BitsOf.l0b (fun r => some (impl_BitsOf.enc r)) (fun x1 x6z x6 x14z x14 x15 x16 => G impl_BitsOf.K0 (impl_BitsOf.N0 x1 x6z x6 x14z x14 x15 x16)) k yx1 yx6z yx6 yx14z yx14 yx15 yx16 := by kernel_rfl
theorem impl_BitsOf.bn {R R' : Type} (e : R → R') (ret : Bool × (List Int) × Bool → Option R) (j0 : Int → Bool → (List Int) → Bool → (List Int) → Int → Int → Option R) (k : Nat) (a0z : Bool) (a0 : List Int) (a1 : Int) : impl_BitsOf.b (fun r => (ret r).map e) (fun x1 x6z x6 x14z x14 x15 x16 => (j0 x1 x6z x6 x14z x14 x15 x16).map e) k a0z a0 a1 = (impl_BitsOf.b ret j0 k a0z a0 a1).map e := by
  unfold impl_BitsOf.b
  repeat' first | with_reducible refine nat_cond ?_ ?_ | with_reducible refine nat_bind fun _ => ?_ | rfl
theorem impl_BitsOf.l0n {R R' : Type} (e : R → R') (ret : Bool × (List Int) × Bool → Option R) (j0 : Int → Bool → (List Int) → Bool → (List Int) → Int → Int → Option R) (k : Nat) (x1 : Int) (x6z : Bool) (x6 : List Int) (x14z : Bool) (x14 : List Int) (x15 x16 : Int) : impl_BitsOf.l0b (fun r => (ret r).map e) (fun x1 x6z x6 x14z x14 x15 x16 => (j0 x1 x6z x6 x14z x14 x15 x16).map e) k x1 x6z x6 x14z x14 x15 x16 = (impl_BitsOf.l0b ret j0 k x1 x6z x6 x14z x14 x15 x16).map e := by
  unfold impl_BitsOf.l0b
  repeat' first | with_reducible refine nat_cond ?_ ?_ | with_reducible refine nat_bind fun _ => ?_ | rfl
theorem impl_BitsOf.rq (a0z : Bool) (a0 : List Int) (a1 : Int) : ∀ k, (∀ (x1 : Int) (x6z : Bool) (x6 : List Int) (x14z : Bool) (x14 : List Int) (x15 x16 : Int), rounds Tryz.prog impl_BitsOf.Cs (finish Tryz.prog [] Tryz.f36 [.v (.nums 3 .i64 a0z a0), .v (.int .i64 a1)]) 100000 k impl_BitsOf.K0 (impl_BitsOf.N0 x1 x6z x6 x14z x14 x15 x16) = (impl_BitsOf.l0 k x1 x6z x6 x14z x14 x15 x16).map impl_BitsOf.enc)
  | 0 => fun _ _ _ _ _ _ _ => rfl
  | k + 1 => by
    have ih := impl_BitsOf.rq a0z a0 a1 k
    refine fun _ _ _ _ _ _ _ => ?_
    · refine (impl_BitsOf.s0 k _ a0z a0 a1 _ _ _ _ _ _ _).trans (Eq.trans ?_ (impl_BitsOf.l0n impl_BitsOf.enc some (impl_BitsOf.l0 k) k _ _ _ _ _ _ _))
      simp only [ih, Option.map_some]
theorem impl_BitsOf.eq (k : Nat) (a0z : Bool) (a0 : List Int) (a1 : Int) : answer Tryz.prog impl_BitsOf.Cs 100000 impl_BitsOf.cuts [] Tryz.f36 (k + 1) [.v (.nums 3 .i64 a0z a0), .v (.int .i64 a1)] = (impl_BitsOf.f (k + 1) a0z a0 a1).map impl_BitsOf.enc := by
  have ih := impl_BitsOf.rq a0z a0 a1 k
  refine Eq.trans (b := impl_BitsOf.b (fun r => some (impl_BitsOf.enc r)) (fun x1 x6z x6 x14z x14 x15 x16 => rounds Tryz.prog impl_BitsOf.Cs (finish Tryz.prog [] Tryz.f36 [.v (.nums 3 .i64 a0z a0), .v (.int .i64 a1)]) 100000 k impl_BitsOf.K0 (impl_BitsOf.N0 x1 x6z x6 x14z x14 x15 x16)) k a0z a0 a1) (by kernel_rfl) (Eq.trans ?_ (impl_BitsOf.bn impl_BitsOf.enc some (impl_BitsOf.l0 k) k a0z a0 a1))
  simp only [ih, Option.map_some]
theorem impl_BitsOf.sound (k : Nat) : SoundF Tryz.prog 36 (fun a => (impl_BitsOf.ans k a).val) := by
  refine sound_plain (fun args res h => ?_) (fun t n => rfl)
  unfold impl_BitsOf.ans at h
  dsimp only at h
  split at h
  · cases k with
    | zero => cases h
    | succ k =>
      unfold Ans.val at h
      rw [← impl_BitsOf.eq] at h
      exact answer_sound mixed Tryz.func36 _ _ _ (k + 1) (fun j _ => tab_sound (tab_cons (impl_within.sound j) (tab_cons (impl_BitsNew.sound j) (tab_nil)))) _ _ h
  · exact (Ans.no_val h).elim

def impl_BitsHas.b {R : Type} (ret : Bool → Option R) (k : Nat) (a0z : Bool) (a0 : List Int) (a1 : Int) : Option R :=
  (impl_within.f k a1 0 (wrap64 ((wrap64 ((8 : Int) * ((a0).length : Int))) - 1))).bind fun t0 => cond t0 (cond (decide (0 ≤ (wrap64 (Int.tdiv a1 8)))) (cond (decide ((wrap64 (Int.tdiv a1 8)) < ((a0).length : Int))) (cond (decide (0 ≤ (Int.tmod a1 8))) (ret (decide ((Go.bits .and .u8 (shrI .u8 (rdI a0 (wrap64 (Int.tdiv a1 8))) (Int.tmod a1 8)) 1) = 1))) (none)) (none)) (none)) (ret false)
def impl_BitsHas.f : Nat → Bool → (List Int) → Int → Option Bool
  | 0, _, _, _ => none
  | k + 1, a0z, a0, a1 => impl_BitsHas.b some k a0z a0 a1
def impl_BitsHas.enc (r : Bool) : Res := ⟨[.vals false [((.bool r), true)]], []⟩
def impl_BitsHas.ans (k : Nat) : List Arg → Ans
  | [.v (.nums 5 .u8 a0z a0), .v (.int .i64 a1)] => ⟨impl_BitsHas.f k a0z a0 a1, impl_BitsHas.enc⟩
  | _ => Ans.no
def impl_BitsHas.Cs (k : Nat) : CallSem := tab [(61, impl_within.ans k)]
theorem impl_BitsHas.eq (k : Nat) (a0z : Bool) (a0 : List Int) (a1 : Int) : answer Tryz.prog impl_BitsHas.Cs 100000 [] [] Tryz.f101 (k + 1) [.v (.nums 5 .u8 a0z a0), .v (.int .i64 a1)] = (impl_BitsHas.f (k + 1) a0z a0 a1).map impl_BitsHas.enc := by
  refine Eq.trans (b := impl_BitsHas.b (fun r => some (impl_BitsHas.enc r)) k a0z a0 a1) (by kernel_rfl) ?_
  show _ = (impl_BitsHas.b some k a0z a0 a1).map impl_BitsHas.enc
  unfold impl_BitsHas.b
  repeat' first | with_reducible refine nat_cond ?_ ?_ | with_reducible refine nat_bind fun _ => ?_ | rfl
theorem impl_BitsHas.sound (k : Nat) : SoundF Tryz.prog 101 (fun a => (impl_BitsHas.ans k a).val) := by
  refine sound_plain (fun args res h => ?_) (fun t n => rfl)
  unfold impl_BitsHas.ans at h
  dsimp only at h
  split at h
  · cases k with
    | zero => cases h
    | succ k =>
      unfold Ans.val at h
      rw [← impl_BitsHas.eq] at h
      exact answer_sound mixed Tryz.func101 _ _ _ (k + 1) (fun j _ => tab_sound (tab_cons (impl_within.sound j) (tab_nil))) _ _ h
  · exact (Ans.no_val h).elim

def impl_BitsList.b {R : Type} (ret : Bool × List Int → Option R) (j0 : Bool → (List Int) → (List Int) → Int → Int → Option R) (k : Nat) (a0z : Bool) (a0 : List Int) : Option R :=
  j0 a0z a0 ([] : List Int) (wrap64 ((8 : Int) * ((a0).length : Int))) 0
def impl_BitsList.l0b {R : Type} (ret : Bool × List Int → Option R) (j0 : Bool → (List Int) → (List Int) → Int → Int → Option R) (k : Nat) (x0z : Bool) (x0 x3 : List Int) (x8 x9 : Int) : Option R :=
  cond (decide (x9 < x8)) ((impl_BitsHas.f k x0z x0 x9).bind fun t0 => cond t0 (cond (decide ((x3).length + 1 < 17592186044416)) (j0 x0z x0 (x3 ++ ([x9] : List Int)) x8 (wrap64 (x9 + 1))) (none)) (j0 x0z x0 x3 x8 (wrap64 (x9 + 1)))) (ret (false, x3))
def impl_BitsList.l0 : Nat → Bool → (List Int) → (List Int) → Int → Int → Option (Bool × List Int)
  | 0, _, _, _, _, _ => none
  | k + 1, x0z, x0, x3, x8, x9 => impl_BitsList.l0b some (impl_BitsList.l0 k) k x0z x0 x3 x8 x9
def impl_BitsList.f : Nat → Bool → (List Int) → Option (Bool × List Int)
  | 0, _, _ => none
  | k + 1, a0z, a0 => impl_BitsList.b some (impl_BitsList.l0 k) k a0z a0
def impl_BitsList.enc (r : Bool × List Int) : Res := ⟨[.vals false [((.nums 3 .i64 r.1 r.2), true)]], []⟩
def impl_BitsList.ans (k : Nat) : List Arg → Ans
  | [.v (.nums 5 .u8 a0z a0)] => ⟨impl_BitsList.f k a0z a0, impl_BitsList.enc⟩
  | _ => Ans.no
def impl_BitsList.Cs (k : Nat) : CallSem := tab [(101, impl_BitsHas.ans k)]
def impl_BitsList.cuts : List (Nat × Keep) := [(58, ⟨[(0, some []), (3, none), (8, some []), (9, some [])], []⟩)]
noncomputable def impl_BitsList.K0 : List Fr := framesAt [true, true, false, true, false] (bodyOf Tryz.f88 impl_BitsList.cuts) []
def impl_BitsList.N0 (x0z : Bool) (x0 x3 : List Int) (x8 x9 : Int) : St := stOf 21 21 1 [(0, .val ⟨(.nums 5 .u8 x0z x0), [], false, none⟩), (3, .val ⟨(.nums 3 .i64 false x3), [.l 3 0], true, some (.l 3 0)⟩), (8, .val (V.s (.int .i64 x8))), (9, .val (V.s (.int .i64 x9)))] []
theorem impl_BitsList.s0 (k : Nat) (G : List Fr → St → Option Res) (a0z : Bool) (a0 : List Int) (yx0z : Bool) (yx0 yx3 : List Int) (yx8 yx9 : Int) : resume Tryz.prog (impl_BitsList.Cs k) G (finish Tryz.prog [] Tryz.f88 [.v (.nums 5 .u8 a0z a0)]) 100000 impl_BitsList.K0 (impl_BitsList.N0 yx0z yx0 yx3 yx8 yx9) = impl_BitsList.l0b (fun r => some (impl_BitsList.enc r)) (fun x0z x0 x3 x8 x9 => G impl_BitsList.K0 (impl_BitsList.N0 x0z x0 x3 x8 x9)) k yx0z yx0 yx3 yx8 yx9 := by kernel_rfl
theorem impl_BitsList.bn {R R' : Type} (e : R → R') (ret : Bool × List Int → Option R) (j0 : Bool → (List Int) → (List Int) → Int → Int → Option R) (k : Nat) (a0z : Bool) (a0 : List Int) : impl_BitsList.b (fun r => (ret r).map e) (fun x0z x0 x3 x8 x9 => (j0 x0z x0 x3 x8 x9).map e) k a0z a0 = (impl_BitsList.b ret j0 k a0z a0).map e := by
  unfold impl_BitsList.b
  repeat' first | with_reducible refine nat_cond ?_ ?_ | with_reducible refine nat_bind fun _ => ?_ | rfl
theorem impl_BitsList.l0n {R R' : Type} (e : R → R') (ret : Bool × List Int → Option R) (j0 : Bool → (List Int) → (List Int) → Int → Int → Option R) (k : Nat) (x0z : Bool) (x0 x3 : List Int) (x8 x9 : Int) : impl_BitsList.l0b (fun r => (ret r).map e) (fun x0z x0 x3 x8 x9 => (j0 x0z x0 x3 x8 x9).map e) k x0z x0 x3 x8 x9 = (impl_BitsList.l0b ret j0 k x0z x0 x3 x8 x9).map e := by
  unfold impl_BitsList.l0b
  repeat' first | with_reducible refine nat_cond ?_ ?_ | with_reducible refine nat_bind fun _ => ?_ | rfl
theorem impl_BitsList.rq (a0z : Bool) (a0 : List Int) : ∀ k, (∀ (x0z : Bool) (x0 x3 : List Int) (x8 x9 : Int), rounds Tryz.prog impl_BitsList.Cs (finish Tryz.prog [] Tryz.f88 [.v (.nums 5 .u8 a0z a0)]) 100000 k impl_BitsList.K0 (impl_BitsList.N0 x0z x0 x3 x8 x9) = (impl_BitsList.l0 k x0z x0 x3 x8 x9).map impl_BitsList.enc)
  | 0 => fun _ _ _ _ _ => rfl
  | k + 1 => by
    have ih := impl_BitsList.rq a0z a0 k
    refine fun _ _ _ _ _ => ?_
    · refine (impl_BitsList.s0 k _ a0z a0 _ _ _ _ _).trans (Eq.trans ?_ (impl_BitsList.l0n impl_BitsList.enc some (impl_BitsList.l0 k) k _ _ _ _ _))
      simp only [ih, Option.map_some]
theorem impl_BitsList.eq (k : Nat) (a0z : Bool) (a0 : List Int) : answer Tryz.prog impl_BitsList.Cs 100000 impl_BitsList.cuts [] Tryz.f88 (k + 1) [.v (.nums 5 .u8 a0z a0)] = (impl_BitsList.f (k + 1) a0z a0).map impl_BitsList.enc := by
  have ih := impl_BitsList.rq a0z a0 k
  refine Eq.trans (b := impl_BitsList.b (fun r => some (impl_BitsList.enc r)) (fun x0z x0 x3 x8 x9 => rounds Tryz.prog impl_BitsList.Cs (finish Tryz.prog [] Tryz.f88 [.v (.nums 5 .u8 a0z a0)]) 100000 k impl_BitsList.K0 (impl_BitsList.N0 x0z x0 x3 x8 x9)) k a0z a0) (by kernel_rfl) (Eq.trans ?_ (impl_BitsList.bn impl_BitsList.enc some (impl_BitsList.l0 k) k a0z a0))
  simp only [ih, Option.map_some]
theorem impl_BitsList.sound (k : Nat) : SoundF Tryz.prog 88 (fun a => (impl_BitsList.ans k a).val) := by
  refine sound_plain (fun args res h => ?_) (fun t n => rfl)
  unfold impl_BitsList.ans at h
  dsimp only at h
  split at h
  · cases k with
    | zero => cases h
    | succ k =>
      unfold Ans.val at h
      rw [← impl_BitsList.eq] at h
      exact answer_sound mixed Tryz.func88 _ _ _ (k + 1) (fun j _ => tab_sound (tab_cons (impl_BitsHas.sound j) (tab_nil))) _ _ h
  · exact (Ans.no_val h).elim

def impl_BitsOk.b {R : Type} (ret : Bool → Option R) (j0 : Int → Bool → (List Int) → Int → Int → Option R) (k : Nat) (a0z : Bool) (a0 : List Int) (a1 : Int) : Option R :=
  (impl_within.f k a1 1 10).bind fun t0 => cond (!t0) (ret false) ((impl_BitsSize.f k a1).bind fun t1 => cond (!(decide (((a0).length : Int) = t1))) (ret false) ((impl_BitsList.f k a0z a0).bind fun t2 => j0 a1 t2.1 t2.2 ((t2.2).length : Int) 0))
def impl_BitsOk.l0b {R : Type} (ret : Bool → Option R) (j0 : Int → Bool → (List Int) → Int → Int → Option R) (k : Nat) (x1 : Int) (x18z : Bool) (x18 : List Int) (x19 x20 : Int) : Option R :=
  cond (decide (x20 < x19)) (cond (decide (0 ≤ x20)) (cond (decide (x20 < ((x18).length : Int))) (cond (decide ((rdI x18 x20) ≥ x1)) (ret false) (j0 x1 x18z x18 x19 (wrap64 (x20 + 1)))) (none)) (none)) (ret true)
def impl_BitsOk.l0 : Nat → Int → Bool → (List Int) → Int → Int → Option Bool
  | 0, _, _, _, _, _ => none
  | k + 1, x1, x18z, x18, x19, x20 => impl_BitsOk.l0b some (impl_BitsOk.l0 k) k x1 x18z x18 x19 x20
def impl_BitsOk.f : Nat → Bool → (List Int) → Int → Option Bool
  | 0, _, _, _ => none
  | k + 1, a0z, a0, a1 => impl_BitsOk.b some (impl_BitsOk.l0 k) k a0z a0 a1
def impl_BitsOk.enc (r : Bool) : Res := ⟨[.vals false [((.bool r), true)]], []⟩
def impl_BitsOk.ans (k : Nat) : List Arg → Ans
  | [.v (.nums 5 .u8 a0z a0), .v (.int .i64 a1)] => ⟨impl_BitsOk.f k a0z a0 a1, impl_BitsOk.enc⟩
  | _ => Ans.no
def impl_BitsOk.Cs (k : Nat) : CallSem := tab [(61, impl_within.ans k), (83, impl_BitsSize.ans k), (88, impl_BitsList.ans k)]
def impl_BitsOk.cuts : List (Nat × Keep) := [(58, ⟨[(1, some []), (18, none), (19, some []), (20, some [])], []⟩)]
noncomputable def impl_BitsOk.K0 : List Fr := framesAt [true, true, false, true, false] (bodyOf Tryz.f86 impl_BitsOk.cuts) []
def impl_BitsOk.N0 (x1 : Int) (x18z : Bool) (x18 : List Int) (x19 x20 : Int) : St := stOf 28 28 2 [(1, .val (V.s (.int .i64 x1))), (18, .val ⟨(.nums 3 .i64 x18z x18), [.l 18 0], true, some (.l 18 0)⟩), (19, .val (V.s (.int .i64 x19))), (20, .val (V.s (.int .i64 x20)))] []
theorem impl_BitsOk.s0 (k : Nat) (G : List Fr → St → Option Res) (a0z : Bool) (a0 : List Int) (a1 yx1 : Int) (yx18z : Bool) (yx18 : List Int) (yx19 yx20 : Int) : resume Tryz.prog (impl_BitsOk.Cs k) G (finish Tryz.prog [] Tryz.f86 [.v (.nums 5 .u8 a0z a0), .v (.int .i64 a1)]) 100000 impl_BitsOk.K0 (impl_BitsOk.N0 yx1 yx18z yx18 yx19 yx20) = impl_BitsOk.l0b (fun r => some (impl_BitsOk.enc r)) (fun x1 x18z x18 x19 x20 => G impl_BitsOk.K0 (impl_BitsOk.N0 x1 x18z x18 x19 x20)) k yx1 yx18z yx18 yx19 yx20 := by kernel_rfl
theorem impl_BitsOk.bn {R R' : Type} (e : R → R') (ret : Bool → Option R) (j0 : Int → Bool → (List Int) → Int → Int → Option R) (k : Nat) (a0z : Bool) (a0 : List Int) (a1 : Int) : impl_BitsOk.b (fun r => (ret r).map e) (fun x1 x18z x18 x19 x20 => (j0 x1 x18z x18 x19 x20).map e) k a0z a0 a1 = (impl_BitsOk.b ret j0 k a0z a0 a1).map e := by
  unfold impl_BitsOk.b
  repeat' first | with_reducible refine nat_cond ?_ ?_ | with_reducible refine nat_bind fun _ => ?_ | rfl
theorem impl_BitsOk.l0n {R R' : Type} (e : R → R') (ret : Bool → Option R) (j0 : Int → Bool → (List Int) → Int → Int → Option R) (k : Nat) (x1 : Int) (x18z : Bool) (x18 : List Int) (x19 x20 : Int) : impl_BitsOk.l0b (fun r => (ret r).map e) (fun x1 x18z x18 x19 x20 => (j0 x1 x18z x18 x19 x20).map e) k x1 x18z x18 x19 x20 = (impl_BitsOk.l0b ret j0 k x1 x18z x18 x19 x20).map e := by
  unfold impl_BitsOk.l0b
  repeat' first | with_reducible refine nat_cond ?_ ?_ | with_reducible refine nat_bind fun _ => ?_ | rfl
theorem impl_BitsOk.rq (a0z : Bool) (a0 : List Int) (a1 : Int) : ∀ k, (∀ (x1 : Int) (x18z : Bool) (x18 : List Int) (x19 x20 : Int), rounds Tryz.prog impl_BitsOk.Cs (finish Tryz.prog [] Tryz.f86 [.v (.nums 5 .u8 a0z a0), .v (.int .i64 a1)]) 100000 k impl_BitsOk.K0 (impl_BitsOk.N0 x1 x18z x18 x19 x20) = (impl_BitsOk.l0 k x1 x18z x18 x19 x20).map impl_BitsOk.enc)
  | 0 => fun _ _ _ _ _ => rfl
  | k + 1 => by
    have ih := impl_BitsOk.rq a0z a0 a1 k
    refine fun _ _ _ _ _ => ?_
    · refine (impl_BitsOk.s0 k _ a0z a0 a1 _ _ _ _ _).trans (Eq.trans ?_ (impl_BitsOk.l0n impl_BitsOk.enc some (impl_BitsOk.l0 k) k _ _ _ _ _))
      simp only [ih, Option.map_some]
theorem impl_BitsOk.eq (k : Nat) (a0z : Bool) (a0 : List Int) (a1 : Int) : answer Tryz.prog impl_BitsOk.Cs 100000 impl_BitsOk.cuts [] Tryz.f86 (k + 1) [.v (.nums 5 .u8 a0z a0), .v (.int .i64 a1)] = (impl_BitsOk.f (k + 1) a0z a0 a1).map impl_BitsOk.enc := by
  have ih := impl_BitsOk.rq a0z a0 a1 k
  refine Eq.trans (b := impl_BitsOk.b (fun r => some (impl_BitsOk.enc r)) (fun x1 x18z x18 x19 x20 => rounds Tryz.prog impl_BitsOk.Cs (finish Tryz.prog [] Tryz.f86 [.v (.nums 5 .u8 a0z a0), .v (.int .i64 a1)]) 100000 k impl_BitsOk.K0 (impl_BitsOk.N0 x1 x18z x18 x19 x20)) k a0z a0 a1) (by kernel_rfl) (Eq.trans ?_ (impl_BitsOk.bn impl_BitsOk.enc some (impl_BitsOk.l0 k) k a0z a0 a1))
  simp only [ih, Option.map_some]
theorem impl_BitsOk.sound (k : Nat) : SoundF Tryz.prog 86 (fun a => (impl_BitsOk.ans k a).val) := by
  refine sound_plain (fun args res h => ?_) (fun t n => rfl)
  unfold impl_BitsOk.ans at h
  dsimp only at h
  split at h
  · cases k with
    | zero => cases h
    | succ k =>
      unfold Ans.val at h
      rw [← impl_BitsOk.eq] at h
      exact answer_sound mixed Tryz.func86 _ _ _ (k + 1) (fun j _ => tab_sound (tab_cons (impl_within.sound j) (tab_cons (impl_BitsSize.sound j) (tab_cons (impl_BitsList.sound j) (tab_nil))))) _ _ h
  · exact (Ans.no_val h).elim

def bits_OnesCount8.b {R : Type} (ret : Int → Option R) (k : Nat) (a0 : Int) : Option R :=
  cond (decide (0 ≤ a0)) (cond (decide (a0 < (((⟨#[0, 1, 1, 2, 1, 2, 2, 3, 1, 2, 2, 3, 2, 3, 3, 4, 1, 2, 2, 3, 2, 3, 3, 4, 2, 3, 3, 4, 3, 4, 4, 5, 1, 2, 2, 3, 2, 3, 3, 4, 2, 3, 3, 4, 3, 4, 4, 5, 2, 3, 3, 4, 3, 4, 4, 5, 3, 4, 4, 5, 4, 5, 5, 6, 1, 2, 2, 3, 2, 3, 3, 4, 2, 3, 3, 4, 3, 4, 4, 5, 2, 3, 3, 4, 3, 4, 4, 5, 3, 4, 4, 5, 4, 5, 5, 6, 2, 3, 3, 4, 3, 4, 4, 5, 3, 4, 4, 5, 4, 5, 5, 6, 3, 4, 4, 5, 4, 5, 5, 6, 4, 5, 5, 6, 5, 6, 6, 7, 1, 2, 2, 3, 2, 3, 3, 4, 2, 3, 3, 4, 3, 4, 4, 5, 2, 3, 3, 4, 3, 4, 4, 5, 3, 4, 4, 5, 4, 5, 5, 6, 2, 3, 3, 4, 3, 4, 4, 5, 3, 4, 4, 5, 4, 5, 5, 6, 3, 4, 4, 5, 4, 5, 5, 6, 4, 5, 5, 6, 5, 6, 6, 7, 2, 3, 3, 4, 3, 4, 4, 5, 3, 4, 4, 5, 4, 5, 5, 6, 3, 4, 4, 5, 4, 5, 5, 6, 4, 5, 5, 6, 5, 6, 6, 7, 3, 4, 4, 5, 4, 5, 5, 6, 4, 5, 5, 6, 5, 6, 6, 7, 4, 5, 5, 6, 5, 6, 6, 7, 5, 6, 6, 7, 6, 7, 7, 8]⟩ : ByteArray)).size : Int))) (ret (wrap64 ((btI (⟨#[0, 1, 1, 2, 1, 2, 2, 3, 1, 2, 2, 3, 2, 3, 3, 4, 1, 2, 2, 3, 2, 3, 3, 4, 2, 3, 3, 4, 3, 4, 4, 5, 1, 2, 2, 3, 2, 3, 3, 4, 2, 3, 3, 4, 3, 4, 4, 5, 2, 3, 3, 4, 3, 4, 4, 5, 3, 4, 4, 5, 4, 5, 5, 6, 1, 2, 2, 3, 2, 3, 3, 4, 2, 3, 3, 4, 3, 4, 4, 5, 2, 3, 3, 4, 3, 4, 4, 5, 3, 4, 4, 5, 4, 5, 5, 6, 2, 3, 3, 4, 3, 4, 4, 5, 3, 4, 4, 5, 4, 5, 5, 6, 3, 4, 4, 5, 4, 5, 5, 6, 4, 5, 5, 6, 5, 6, 6, 7, 1, 2, 2, 3, 2, 3, 3, 4, 2, 3, 3, 4, 3, 4, 4, 5, 2, 3, 3, 4, 3, 4, 4, 5, 3, 4, 4, 5, 4, 5, 5, 6, 2, 3, 3, 4, 3, 4, 4, 5, 3, 4, 4, 5, 4, 5, 5, 6, 3, 4, 4, 5, 4, 5, 5, 6, 4, 5, 5, 6, 5, 6, 6, 7, 2, 3, 3, 4, 3, 4, 4, 5, 3, 4, 4, 5, 4, 5, 5, 6, 3, 4, 4, 5, 4, 5, 5, 6, 4, 5, 5, 6, 5, 6, 6, 7, 3, 4, 4, 5, 4, 5, 5, 6, 4, 5, 5, 6, 5, 6, 6, 7, 4, 5, 5, 6, 5, 6, 6, 7, 5, 6, 6, 7, 6, 7, 7, 8]⟩ : ByteArray) a0)))) (none)) (none)
def bits_OnesCount8.f : Nat → Int → Option Int
  | 0, _ => none
  | k + 1, a0 => bits_OnesCount8.b some k a0
def bits_OnesCount8.enc (r : Int) : Res := ⟨[.vals false [((.int .i64 r), true)]], []⟩
def bits_OnesCount8.ans (k : Nat) : List Arg → Ans
  | [.v (.int .u8 a0)] => ⟨bits_OnesCount8.f k a0, bits_OnesCount8.enc⟩
  | _ => Ans.no
def bits_OnesCount8.Cs (k : Nat) : CallSem := tab []
theorem bits_OnesCount8.eq (k : Nat) (a0 : Int) : answer Tryz.prog bits_OnesCount8.Cs 100000 [] [] Tryz.f100 (k + 1) [.v (.int .u8 a0)] = (bits_OnesCount8.f (k + 1) a0).map bits_OnesCount8.enc := by
  refine Eq.trans (b := bits_OnesCount8.b (fun r => some (bits_OnesCount8.enc r)) k a0) (by kernel_rfl) ?_
  show _ = (bits_OnesCount8.b some k a0).map bits_OnesCount8.enc
  unfold bits_OnesCount8.b
  repeat' first | with_reducible refine nat_cond ?_ ?_ | with_reducible refine nat_bind fun _ => ?_ | rfl
theorem bits_OnesCount8.sound (k : Nat) : SoundF Tryz.prog 100 (fun a => (bits_OnesCount8.ans k a).val) := by
  refine sound_plain (fun args res h => ?_) (fun t n => rfl)
  unfold bits_OnesCount8.ans at h
  dsimp only at h
  split at h
  · cases k with
    | zero => cases h
    | succ k =>
      unfold Ans.val at h
      rw [← bits_OnesCount8.eq] at h
      exact answer_sound mixed Tryz.func100 _ _ _ (k + 1) (fun j _ => tab_sound (tab_nil)) _ _ h
  · exact (Ans.no_val h).elim

end Go.Proofs.YtbpcnodmgphinaaGreatG
