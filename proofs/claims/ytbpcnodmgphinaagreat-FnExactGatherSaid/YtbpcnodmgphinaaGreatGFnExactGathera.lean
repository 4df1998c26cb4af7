/- What the functions compute, printed by a program of this repo; each is shown to be what the machine of values answers. No condition. -/
import Derived.Test.YtbpcnodmgphinaaGreatProg
import Derived.KernelRfl
import Derived.Test.YtbpcnodmgphinaaGreatRvD
namespace Go.Proofs.YtbpcnodmgphinaaGreatG
open Go Go.Proofs.YtbpcnodmgphinaaGreatRv Go.Proofs Go.RowKit
set_option linter.unusedVariables false
set_option linter.unusedSimpArgs false
theorem mixed : Tryz.prog.follows .mixedOrders = true := by kernel_rfl
def laws_szByteS.b {R : Type} (ret : Int → Option R) (k : Nat) (a0z : Bool) (a0 : List Int) (a1 : Int) : Option R :=
  cond (decide ((wrap64 (a1 - ((a0).length : Int))) < 0)) (ret (-1)) (ret (wrap64 (a1 - ((a0).length : Int))))
def laws_szByteS.f : Nat → Bool → (List Int) → Int → Option Int
  | 0, _, _, _ => none
  | k + 1, a0z, a0, a1 => laws_szByteS.b some k a0z a0 a1
def laws_szByteS.enc (r : Int) : Res := ⟨[.vals false [((.int .i64 r), true)]], []⟩
def laws_szByteS.ans (k : Nat) : List Arg → Ans
  | [.v (.nums 5 .u8 a0z a0), .v (.int .i64 a1)] => ⟨laws_szByteS.f k a0z a0 a1, laws_szByteS.enc⟩
  | _ => Ans.no
def laws_szByteS.Cs (k : Nat) : CallSem := tab []
theorem laws_szByteS.eq (k : Nat) (a0z : Bool) (a0 : List Int) (a1 : Int) : answer Tryz.prog laws_szByteS.Cs 100000 [] [] Tryz.f46 (k + 1) [.v (.nums 5 .u8 a0z a0), .v (.int .i64 a1)] = (laws_szByteS.f (k + 1) a0z a0 a1).map laws_szByteS.enc := by
  refine Eq.trans (b := laws_szByteS.b (fun r => some (laws_szByteS.enc r)) k a0z a0 a1) (by kernel_rfl) ?_
  show _ = (laws_szByteS.b some k a0z a0 a1).map laws_szByteS.enc
  unfold laws_szByteS.b
  repeat' first | with_reducible refine nat_cond ?_ ?_ | with_reducible refine nat_bind fun _ => ?_ | rfl
theorem laws_szByteS.sound (k : Nat) : SoundF Tryz.prog 46 (fun a => (laws_szByteS.ans k a).val) := by
  refine sound_plain (fun args res h => ?_) (fun t n => rfl)
  unfold laws_szByteS.ans at h
  dsimp only at h
  split at h
  · cases k with
    | zero => cases h
    | succ k =>
      unfold Ans.val at h
      rw [← laws_szByteS.eq] at h
      exact answer_sound mixed Tryz.func46 _ _ _ (k + 1) (fun j _ => tab_sound (tab_nil)) _ _ h
  · exact (Ans.no_val h).elim

def laws_szRow.b {R : Type} (ret : Int → Option R) (k : Nat) (a0_0 : Int) (a0_1z : Bool) (a0_1 : List Int) (a1 : Int) : Option R :=
  (laws_szByteS.f k a0_1z a0_1 a1).bind fun t0 => cond (decide (t0 < 0)) (ret (-1)) (ret t0)
def laws_szRow.f : Nat → Int → Bool → (List Int) → Int → Option Int
  | 0, _, _, _, _ => none
  | k + 1, a0_0, a0_1z, a0_1, a1 => laws_szRow.b some k a0_0 a0_1z a0_1 a1
def laws_szRow.enc (r : Int) : Res := ⟨[.vals false [((.int .i64 r), true)]], []⟩
def laws_szRow.ans (k : Nat) : List Arg → Ans
  | [.v (.agg [(.int .i64 a0_0), (.nums 5 .u8 a0_1z a0_1)]), .v (.int .i64 a1)] => ⟨laws_szRow.f k a0_0 a0_1z a0_1 a1, laws_szRow.enc⟩
  | _ => Ans.no
def laws_szRow.Cs (k : Nat) : CallSem := tab [(46, laws_szByteS.ans k)]
theorem laws_szRow.eq (k : Nat) (a0_0 : Int) (a0_1z : Bool) (a0_1 : List Int) (a1 : Int) : answer Tryz.prog laws_szRow.Cs 100000 [] [] Tryz.f45 (k + 1) [.v (.agg [(.int .i64 a0_0), (.nums 5 .u8 a0_1z a0_1)]), .v (.int .i64 a1)] = (laws_szRow.f (k + 1) a0_0 a0_1z a0_1 a1).map laws_szRow.enc := by
  refine Eq.trans (b := laws_szRow.b (fun r => some (laws_szRow.enc r)) k a0_0 a0_1z a0_1 a1) (by kernel_rfl) ?_
  show _ = (laws_szRow.b some k a0_0 a0_1z a0_1 a1).map laws_szRow.enc
  unfold laws_szRow.b
  repeat' first | with_reducible refine nat_cond ?_ ?_ | with_reducible refine nat_bind fun _ => ?_ | rfl
theorem laws_szRow.sound (k : Nat) : SoundF Tryz.prog 45 (fun a => (laws_szRow.ans k a).val) := by
  refine sound_plain (fun args res h => ?_) (fun t n => rfl)
  unfold laws_szRow.ans at h
  dsimp only at h
  split at h
  · cases k with
    | zero => cases h
    | succ k =>
      unfold Ans.val at h
      rw [← laws_szRow.eq] at h
      exact answer_sound mixed Tryz.func45 _ _ _ (k + 1) (fun j _ => tab_sound (tab_cons (laws_szByteS.sound j) (tab_nil))) _ _ h
  · exact (Ans.no_val h).elim

def laws_szRowS.b {R : Type} (ret : Int → Option R) (j0 : Bool → (List T) → Int → Int → Option R) (k : Nat) (a0z : Bool) (a0 : List T) (a1 : Int) : Option R :=
  cond (decide ((wrap64 (a1 - ((a0).length : Int))) < 0)) (ret (-1)) (j0 a0z a0 (wrap64 (a1 - ((a0).length : Int))) 0)
def laws_szRowS.l0b {R : Type} (ret : Int → Option R) (j0 : Bool → (List T) → Int → Int → Option R) (k : Nat) (x0z : Bool) (x0 : List T) (x1 x5 : Int) : Option R :=
  cond (decide (x5 < ((x0).length : Int))) (cond (decide (0 ≤ x5)) (cond (decide (x5 < ((x0).length : Int))) ((laws_szRow.f k (((((x0).getD (x5).toNat .bad).cells.getD 0 .bad)).toInt) (((((x0).getD (x5).toNat .bad).cells.getD 1 .bad)).isNil) (((((x0).getD (x5).toNat .bad).cells.getD 1 .bad)).toNums) x1).bind fun t0 => cond (decide (t0 < 0)) (ret (-1)) (j0 x0z x0 t0 (wrap64 (x5 + 1)))) (none)) (none)) (ret x1)
def laws_szRowS.l0 : Nat → Bool → (List T) → Int → Int → Option Int
  | 0, _, _, _, _ => none
  | k + 1, x0z, x0, x1, x5 => laws_szRowS.l0b some (laws_szRowS.l0 k) k x0z x0 x1 x5
def laws_szRowS.f : Nat → Bool → (List T) → Int → Option Int
  | 0, _, _, _ => none
  | k + 1, a0z, a0, a1 => laws_szRowS.b some (laws_szRowS.l0 k) k a0z a0 a1
def laws_szRowS.enc (r : Int) : Res := ⟨[.vals false [((.int .i64 r), true)]], []⟩
def laws_szRowS.ans (k : Nat) : List Arg → Ans
  | [.v (.sl 77 a0z a0), .v (.int .i64 a1)] => ⟨laws_szRowS.f k a0z a0 a1, laws_szRowS.enc⟩
  | _ => Ans.no
def laws_szRowS.Cs (k : Nat) : CallSem := tab [(45, laws_szRow.ans k)]
def laws_szRowS.cuts : List (Nat × Keep) := [(122, ⟨[(0, some []), (1, some []), (5, some [])], []⟩)]
noncomputable def laws_szRowS.K0 : List Fr := framesAt [true, true, true, false, true, false] (bodyOf Tryz.f21 laws_szRowS.cuts) []
def laws_szRowS.N0 (x0z : Bool) (x0 : List T) (x1 x5 : Int) : St := stOf 27 27 2 [(0, .val ⟨(.sl 77 x0z x0), [], false, none⟩), (1, .val (V.s (.int .i64 x1))), (5, .val (V.s (.int .i64 x5)))] []
theorem laws_szRowS.s0 (k : Nat) (G : List Fr → St → Option Res) (a0z : Bool) (a0 : List T) (a1 : Int) (yx0z : Bool) (yx0 : List T) (yx1 yx5 : Int) : resume Tryz.prog (laws_szRowS.Cs k) G (finish Tryz.prog [] Tryz.f21 [.v (.sl 77 a0z a0), .v (.int .i64 a1)]) 100000 laws_szRowS.K0 (laws_szRowS.N0 yx0z yx0 yx1 yx5) = laws_szRowS.l0b (fun r => some (laws_szRowS.enc r)) (fun x0z x0 x1 x5 => G laws_szRowS.K0 (laws_szRowS.N0 x0z x0 x1 x5)) k yx0z yx0 yx1 yx5 := by kernel_rfl
theorem laws_szRowS.bn {R R' : Type} (e : R → R') (ret : Int → Option R) (j0 : Bool → (List T) → Int → Int → Option R) (k : Nat) (a0z : Bool) (a0 : List T) (a1 : Int) : laws_szRowS.b (fun r => (ret r).map e) (fun x0z x0 x1 x5 => (j0 x0z x0 x1 x5).map e) k a0z a0 a1 = (laws_szRowS.b ret j0 k a0z a0 a1).map e := by
  unfold laws_szRowS.b
  repeat' first | with_reducible refine nat_cond ?_ ?_ | with_reducible refine nat_bind fun _ => ?_ | rfl
theorem laws_szRowS.l0n {R R' : Type} (e : R → R') (ret : Int → Option R) (j0 : Bool → (List T) → Int → Int → Option R) (k : Nat) (x0z : Bool) (x0 : List T) (x1 x5 : Int) : laws_szRowS.l0b (fun r => (ret r).map e) (fun x0z x0 x1 x5 => (j0 x0z x0 x1 x5).map e) k x0z x0 x1 x5 = (laws_szRowS.l0b ret j0 k x0z x0 x1 x5).map e := by
  unfold laws_szRowS.l0b
  repeat' first | with_reducible refine nat_cond ?_ ?_ | with_reducible refine nat_bind fun _ => ?_ | rfl
theorem laws_szRowS.rq (a0z : Bool) (a0 : List T) (a1 : Int) : ∀ k, (∀ (x0z : Bool) (x0 : List T) (x1 x5 : Int), rounds Tryz.prog laws_szRowS.Cs (finish Tryz.prog [] Tryz.f21 [.v (.sl 77 a0z a0), .v (.int .i64 a1)]) 100000 k laws_szRowS.K0 (laws_szRowS.N0 x0z x0 x1 x5) = (laws_szRowS.l0 k x0z x0 x1 x5).map laws_szRowS.enc)
  | 0 => fun _ _ _ _ => rfl
  | k + 1 => by
    have ih := laws_szRowS.rq a0z a0 a1 k
    refine fun _ _ _ _ => ?_
    · refine (laws_szRowS.s0 k _ a0z a0 a1 _ _ _ _).trans (Eq.trans ?_ (laws_szRowS.l0n laws_szRowS.enc some (laws_szRowS.l0 k) k _ _ _ _))
      simp only [ih, Option.map_some]
theorem laws_szRowS.eq (k : Nat) (a0z : Bool) (a0 : List T) (a1 : Int) : answer Tryz.prog laws_szRowS.Cs 100000 laws_szRowS.cuts [] Tryz.f21 (k + 1) [.v (.sl 77 a0z a0), .v (.int .i64 a1)] = (laws_szRowS.f (k + 1) a0z a0 a1).map laws_szRowS.enc := by
  have ih := laws_szRowS.rq a0z a0 a1 k
  refine Eq.trans (b := laws_szRowS.b (fun r => some (laws_szRowS.enc r)) (fun x0z x0 x1 x5 => rounds Tryz.prog laws_szRowS.Cs (finish Tryz.prog [] Tryz.f21 [.v (.sl 77 a0z a0), .v (.int .i64 a1)]) 100000 k laws_szRowS.K0 (laws_szRowS.N0 x0z x0 x1 x5)) k a0z a0 a1) (by kernel_rfl) (Eq.trans ?_ (laws_szRowS.bn laws_szRowS.enc some (laws_szRowS.l0 k) k a0z a0 a1))
  simp only [ih, Option.map_some]
theorem laws_szRowS.sound (k : Nat) : SoundF Tryz.prog 21 (fun a => (laws_szRowS.ans k a).val) := by
  refine sound_plain (fun args res h => ?_) (fun t n => rfl)
  unfold laws_szRowS.ans at h
  dsimp only at h
  split at h
  · cases k with
    | zero => cases h
    | succ k =>
      unfold Ans.val at h
      rw [← laws_szRowS.eq] at h
      exact answer_sound mixed Tryz.func21 _ _ _ (k + 1) (fun j _ => tab_sound (tab_cons (laws_szRow.sound j) (tab_nil))) _ _ h
  · exact (Ans.no_val h).elim

def laws_szTable.b {R : Type} (ret : Int → Option R) (k : Nat) (a0_0z : Bool) (a0_0 : List T) (a1 : Int) : Option R :=
  (laws_szRowS.f k a0_0z a0_0 a1).bind fun t0 => cond (decide (t0 < 0)) (ret (-1)) (ret t0)
def laws_szTable.f : Nat → Bool → (List T) → Int → Option Int
  | 0, _, _, _ => none
  | k + 1, a0_0z, a0_0, a1 => laws_szTable.b some k a0_0z a0_0 a1
def laws_szTable.enc (r : Int) : Res := ⟨[.vals false [((.int .i64 r), true)]], []⟩
def laws_szTable.ans (k : Nat) : List Arg → Ans
  | [.v (.agg [(.sl 77 a0_0z a0_0)]), .v (.int .i64 a1)] => ⟨laws_szTable.f k a0_0z a0_0 a1, laws_szTable.enc⟩
  | _ => Ans.no
def laws_szTable.Cs (k : Nat) : CallSem := tab [(21, laws_szRowS.ans k)]
theorem laws_szTable.eq (k : Nat) (a0_0z : Bool) (a0_0 : List T) (a1 : Int) : answer Tryz.prog laws_szTable.Cs 100000 [] [] Tryz.f4 (k + 1) [.v (.agg [(.sl 77 a0_0z a0_0)]), .v (.int .i64 a1)] = (laws_szTable.f (k + 1) a0_0z a0_0 a1).map laws_szTable.enc := by
  refine Eq.trans (b := laws_szTable.b (fun r => some (laws_szTable.enc r)) k a0_0z a0_0 a1) (by kernel_rfl) ?_
  show _ = (laws_szTable.b some k a0_0z a0_0 a1).map laws_szTable.enc
  unfold laws_szTable.b
  repeat' first | with_reducible refine nat_cond ?_ ?_ | with_reducible refine nat_bind fun _ => ?_ | rfl
theorem laws_szTable.sound (k : Nat) : SoundF Tryz.prog 4 (fun a => (laws_szTable.ans k a).val) := by
  refine sound_plain (fun args res h => ?_) (fun t n => rfl)
  unfold laws_szTable.ans at h
  dsimp only at h
  split at h
  · cases k with
    | zero => cases h
    | succ k =>
      unfold Ans.val at h
      rw [← laws_szTable.eq] at h
      exact answer_sound mixed Tryz.func4 _ _ _ (k + 1) (fun j _ => tab_sound (tab_cons (laws_szRowS.sound j) (tab_nil))) _ _ h
  · exact (Ans.no_val h).elim

def laws_szVote.b {R : Type} (ret : Int → Option R) (k : Nat) (a0_0 a0_1 : Int) (a0_2z : Bool) (a0_2 : List Int) (a0_3 : Int) (a0_4z : Bool) (a0_4 : List Int) (a1 : Int) : Option R :=
  (laws_szByteS.f k a0_2z a0_2 a1).bind fun t0 => cond (decide (t0 < 0)) (ret (-1)) ((laws_szByteS.f k a0_4z a0_4 t0).bind fun t1 => cond (decide (t1 < 0)) (ret (-1)) (ret t1))
def laws_szVote.f : Nat → Int → Int → Bool → (List Int) → Int → Bool → (List Int) → Int → Option Int
  | 0, _, _, _, _, _, _, _, _ => none
  | k + 1, a0_0, a0_1, a0_2z, a0_2, a0_3, a0_4z, a0_4, a1 => laws_szVote.b some k a0_0 a0_1 a0_2z a0_2 a0_3 a0_4z a0_4 a1
def laws_szVote.enc (r : Int) : Res := ⟨[.vals false [((.int .i64 r), true)]], []⟩
def laws_szVote.ans (k : Nat) : List Arg → Ans
  | [.v (.agg [(.int .i64 a0_0), (.int .i64 a0_1), (.nums 5 .u8 a0_2z a0_2), (.int .i64 a0_3), (.nums 5 .u8 a0_4z a0_4)]), .v (.int .i64 a1)] => ⟨laws_szVote.f k a0_0 a0_1 a0_2z a0_2 a0_3 a0_4z a0_4 a1, laws_szVote.enc⟩
  | _ => Ans.no
def laws_szVote.Cs (k : Nat) : CallSem := tab [(46, laws_szByteS.ans k)]
theorem laws_szVote.eq (k : Nat) (a0_0 a0_1 : Int) (a0_2z : Bool) (a0_2 : List Int) (a0_3 : Int) (a0_4z : Bool) (a0_4 : List Int) (a1 : Int) : answer Tryz.prog laws_szVote.Cs 100000 [] [] Tryz.f22 (k + 1) [.v (.agg [(.int .i64 a0_0), (.int .i64 a0_1), (.nums 5 .u8 a0_2z a0_2), (.int .i64 a0_3), (.nums 5 .u8 a0_4z a0_4)]), .v (.int .i64 a1)] = (laws_szVote.f (k + 1) a0_0 a0_1 a0_2z a0_2 a0_3 a0_4z a0_4 a1).map laws_szVote.enc := by
  refine Eq.trans (b := laws_szVote.b (fun r => some (laws_szVote.enc r)) k a0_0 a0_1 a0_2z a0_2 a0_3 a0_4z a0_4 a1) (by kernel_rfl) ?_
  show _ = (laws_szVote.b some k a0_0 a0_1 a0_2z a0_2 a0_3 a0_4z a0_4 a1).map laws_szVote.enc
  unfold laws_szVote.b
  repeat' first | with_reducible refine nat_cond ?_ ?_ | with_reducible refine nat_bind fun _ => ?_ | rfl
theorem laws_szVote.sound (k : Nat) : SoundF Tryz.prog 22 (fun a => (laws_szVote.ans k a).val) := by
  refine sound_plain (fun args res h => ?_) (fun t n => rfl)
  unfold laws_szVote.ans at h
  dsimp only at h
  split at h
  · cases k with
    | zero => cases h
    | succ k =>
      unfold Ans.val at h
      rw [← laws_szVote.eq] at h
      exact answer_sound mixed Tryz.func22 _ _ _ (k + 1) (fun j _ => tab_sound (tab_cons (laws_szByteS.sound j) (tab_nil))) _ _ h
  · exact (Ans.no_val h).elim

def laws_szVoteS.b {R : Type} (ret : Int → Option R) (j0 : Bool → (List T) → Int → Int → Option R) (k : Nat) (a0z : Bool) (a0 : List T) (a1 : Int) : Option R :=
  cond (decide ((wrap64 (a1 - ((a0).length : Int))) < 0)) (ret (-1)) (j0 a0z a0 (wrap64 (a1 - ((a0).length : Int))) 0)
def laws_szVoteS.l0b {R : Type} (ret : Int → Option R) (j0 : Bool → (List T) → Int → Int → Option R) (k : Nat) (x0z : Bool) (x0 : List T) (x1 x5 : Int) : Option R :=
  cond (decide (x5 < ((x0).length : Int))) (cond (decide (0 ≤ x5)) (cond (decide (x5 < ((x0).length : Int))) ((laws_szVote.f k (((((x0).getD (x5).toNat .bad).cells.getD 0 .bad)).toInt) (((((x0).getD (x5).toNat .bad).cells.getD 1 .bad)).toInt) (((((x0).getD (x5).toNat .bad).cells.getD 2 .bad)).isNil) (((((x0).getD (x5).toNat .bad).cells.getD 2 .bad)).toNums) (((((x0).getD (x5).toNat .bad).cells.getD 3 .bad)).toInt) (((((x0).getD (x5).toNat .bad).cells.getD 4 .bad)).isNil) (((((x0).getD (x5).toNat .bad).cells.getD 4 .bad)).toNums) x1).bind fun t0 => cond (decide (t0 < 0)) (ret (-1)) (j0 x0z x0 t0 (wrap64 (x5 + 1)))) (none)) (none)) (ret x1)
def laws_szVoteS.l0 : Nat → Bool → (List T) → Int → Int → Option Int
  | 0, _, _, _, _ => none
  | k + 1, x0z, x0, x1, x5 => laws_szVoteS.l0b some (laws_szVoteS.l0 k) k x0z x0 x1 x5
def laws_szVoteS.f : Nat → Bool → (List T) → Int → Option Int
  | 0, _, _, _ => none
  | k + 1, a0z, a0, a1 => laws_szVoteS.b some (laws_szVoteS.l0 k) k a0z a0 a1
def laws_szVoteS.enc (r : Int) : Res := ⟨[.vals false [((.int .i64 r), true)]], []⟩
def laws_szVoteS.ans (k : Nat) : List Arg → Ans
  | [.v (.sl 57 a0z a0), .v (.int .i64 a1)] => ⟨laws_szVoteS.f k a0z a0 a1, laws_szVoteS.enc⟩
  | _ => Ans.no
def laws_szVoteS.Cs (k : Nat) : CallSem := tab [(22, laws_szVote.ans k)]
def laws_szVoteS.cuts : List (Nat × Keep) := [(122, ⟨[(0, some []), (1, some []), (5, some [])], []⟩)]
noncomputable def laws_szVoteS.K0 : List Fr := framesAt [true, true, true, false, true, false] (bodyOf Tryz.f5 laws_szVoteS.cuts) []
def laws_szVoteS.N0 (x0z : Bool) (x0 : List T) (x1 x5 : Int) : St := stOf 27 27 2 [(0, .val ⟨(.sl 57 x0z x0), [], false, none⟩), (1, .val (V.s (.int .i64 x1))), (5, .val (V.s (.int .i64 x5)))] []
theorem laws_szVoteS.s0 (k : Nat) (G : List Fr → St → Option Res) (a0z : Bool) (a0 : List T) (a1 : Int) (yx0z : Bool) (yx0 : List T) (yx1 yx5 : Int) : resume Tryz.prog (laws_szVoteS.Cs k) G (finish Tryz.prog [] Tryz.f5 [.v (.sl 57 a0z a0), .v (.int .i64 a1)]) 100000 laws_szVoteS.K0 (laws_szVoteS.N0 yx0z yx0 yx1 yx5) = laws_szVoteS.l0b (fun r => some (laws_szVoteS.enc r)) (fun x0z x0 x1 x5 => G laws_szVoteS.K0 (laws_szVoteS.N0 x0z x0 x1 x5)) k yx0z yx0 yx1 yx5 := by kernel_rfl
theorem laws_szVoteS.bn {R R' : Type} (e : R → R') (ret : Int → Option R) (j0 : Bool → (List T) → Int → Int → Option R) (k : Nat) (a0z : Bool) (a0 : List T) (a1 : Int) : laws_szVoteS.b (fun r => (ret r).map e) (fun x0z x0 x1 x5 => (j0 x0z x0 x1 x5).map e) k a0z a0 a1 = (laws_szVoteS.b ret j0 k a0z a0 a1).map e := by
  unfold laws_szVoteS.b
  repeat' first | with_reducible refine nat_cond ?_ ?_ | with_reducible refine nat_bind fun _ => ?_ | rfl
theorem laws_szVoteS.l0n {R R' : Type} (e : R → R') (ret : Int → Option R) (j0 : Bool → (List T) → Int → Int → Option R) (k : Nat) (x0z : Bool) (x0 : List T) (x1 x5 : Int) : laws_szVoteS.l0b (fun r => (ret r).map e) (fun x0z x0 x1 x5 => (j0 x0z x0 x1 x5).map e) k x0z x0 x1 x5 = (laws_szVoteS.l0b ret j0 k x0z x0 x1 x5).map e := by
  unfold laws_szVoteS.l0b
  repeat' first | with_reducible refine nat_cond ?_ ?_ | with_reducible refine nat_bind fun _ => ?_ | rfl
theorem laws_szVoteS.rq (a0z : Bool) (a0 : List T) (a1 : Int) : ∀ k, (∀ (x0z : Bool) (x0 : List T) (x1 x5 : Int), rounds Tryz.prog laws_szVoteS.Cs (finish Tryz.prog [] Tryz.f5 [.v (.sl 57 a0z a0), .v (.int .i64 a1)]) 100000 k laws_szVoteS.K0 (laws_szVoteS.N0 x0z x0 x1 x5) = (laws_szVoteS.l0 k x0z x0 x1 x5).map laws_szVoteS.enc)
  | 0 => fun _ _ _ _ => rfl
  | k + 1 => by
    have ih := laws_szVoteS.rq a0z a0 a1 k
    refine fun _ _ _ _ => ?_
    · refine (laws_szVoteS.s0 k _ a0z a0 a1 _ _ _ _).trans (Eq.trans ?_ (laws_szVoteS.l0n laws_szVoteS.enc some (laws_szVoteS.l0 k) k _ _ _ _))
      simp only [ih, Option.map_some]
theorem laws_szVoteS.eq (k : Nat) (a0z : Bool) (a0 : List T) (a1 : Int) : answer Tryz.prog laws_szVoteS.Cs 100000 laws_szVoteS.cuts [] Tryz.f5 (k + 1) [.v (.sl 57 a0z a0), .v (.int .i64 a1)] = (laws_szVoteS.f (k + 1) a0z a0 a1).map laws_szVoteS.enc := by
  have ih := laws_szVoteS.rq a0z a0 a1 k
  refine Eq.trans (b := laws_szVoteS.b (fun r => some (laws_szVoteS.enc r)) (fun x0z x0 x1 x5 => rounds Tryz.prog laws_szVoteS.Cs (finish Tryz.prog [] Tryz.f5 [.v (.sl 57 a0z a0), .v (.int .i64 a1)]) 100000 k laws_szVoteS.K0 (laws_szVoteS.N0 x0z x0 x1 x5)) k a0z a0 a1) (by kernel_rfl) (Eq.trans ?_ (laws_szVoteS.bn laws_szVoteS.enc some (laws_szVoteS.l0 k) k a0z a0 a1))
  simp only [ih, Option.map_some]
theorem laws_szVoteS.sound (k : Nat) : SoundF Tryz.prog 5 (fun a => (laws_szVoteS.ans k a).val) := by
  refine sound_plain (fun args res h => ?_) (fun t n => rfl)
  unfold laws_szVoteS.ans at h
  dsimp only at h
  split at h
  · cases k with
    | zero => cases h
    | succ k =>
      unfold Ans.val at h
      rw [← laws_szVoteS.eq] at h
      exact answer_sound mixed Tryz.func5 _ _ _ (k + 1) (fun j _ => tab_sound (tab_cons (laws_szVote.sound j) (tab_nil))) _ _ h
  · exact (Ans.no_val h).elim

def laws_toLimits.b {R : Type} (ret : Int × Int × Int × Int × Int → Option R) (k : Nat) (a0_0 a0_1 : Int) (a0_2 a0_3 a0_4 : Int) : Option R :=
  ret (a0_0, a0_1, a0_2, a0_3, a0_4)
def laws_toLimits.f : Nat → Int → Int → Int → Int → Int → Option (Int × Int × Int × Int × Int)
  | 0, _, _, _, _, _ => none
  | k + 1, a0_0, a0_1, a0_2, a0_3, a0_4 => laws_toLimits.b some k a0_0 a0_1 a0_2 a0_3 a0_4
def laws_toLimits.enc (r : Int × Int × Int × Int × Int) : Res := ⟨[.vals true [((.int .i64 r.1), true), ((.int .i64 r.2.1), true), ((.int .i64 r.2.2.1), true), ((.int .i64 r.2.2.2.1), true), ((.int .i64 r.2.2.2.2), true)]], []⟩
def laws_toLimits.ans (k : Nat) : List Arg → Ans
  | [.v (.agg [(.int .i64 a0_0), (.int .i64 a0_1), (.int .i64 a0_2), (.int .i64 a0_3), (.int .i64 a0_4)])] => ⟨laws_toLimits.f k a0_0 a0_1 a0_2 a0_3 a0_4, laws_toLimits.enc⟩
  | _ => Ans.no
def laws_toLimits.Cs (k : Nat) : CallSem := tab []
theorem laws_toLimits.eq (k : Nat) (a0_0 a0_1 : Int) (a0_2 a0_3 a0_4 : Int) : answer Tryz.prog laws_toLimits.Cs 100000 [] [] Tryz.f7 (k + 1) [.v (.agg [(.int .i64 a0_0), (.int .i64 a0_1), (.int .i64 a0_2), (.int .i64 a0_3), (.int .i64 a0_4)])] = (laws_toLimits.f (k + 1) a0_0 a0_1 a0_2 a0_3 a0_4).map laws_toLimits.enc := by
  refine Eq.trans (b := laws_toLimits.b (fun r => some (laws_toLimits.enc r)) k a0_0 a0_1 a0_2 a0_3 a0_4) (by kernel_rfl) ?_
  show _ = (laws_toLimits.b some k a0_0 a0_1 a0_2 a0_3 a0_4).map laws_toLimits.enc
  unfold laws_toLimits.b
  repeat' first | with_reducible refine nat_cond ?_ ?_ | with_reducible refine nat_bind fun _ => ?_ | rfl
theorem laws_toLimits.sound (k : Nat) : SoundF Tryz.prog 7 (fun a => (laws_toLimits.ans k a).val) := by
  refine sound_plain (fun args res h => ?_) (fun t n => rfl)
  unfold laws_toLimits.ans at h
  dsimp only at h
  split at h
  · cases k with
    | zero => cases h
    | succ k =>
      unfold Ans.val at h
      rw [← laws_toLimits.eq] at h
      exact answer_sound mixed Tryz.func7 _ _ _ (k + 1) (fun j _ => tab_sound (tab_nil)) _ _ h
  · exact (Ans.no_val h).elim

def laws_toByteS.b {R : Type} (ret : Bool × List Int → Option R) (j0 : Bool → (List Int) → (List Int) → Int → Option R) (k : Nat) (a0z : Bool) (a0 : List Int) : Option R :=
  cond (decide (((a0).length : Int) = ((a0).length : Int))) (cond (decide (0 ≤ ((a0).length : Int))) (cond (decide ((a0).length < 140737488355328)) (j0 a0z a0 (List.replicate (a0).length (0 : Int)) 0) (none)) (none)) (none)
def laws_toByteS.l0b {R : Type} (ret : Bool × List Int → Option R) (j0 : Bool → (List Int) → (List Int) → Int → Option R) (k : Nat) (x0z : Bool) (x0 x3 : List Int) (x4 : Int) : Option R :=
  cond (decide (x4 < ((x0).length : Int))) (cond (decide (0 ≤ x4)) (cond (decide (x4 < ((x0).length : Int))) (cond (decide (0 ≤ x4)) (cond (decide (x4 < ((x3).length : Int))) (j0 x0z x0 ((x3).set (x4).toNat (rdI x0 x4)) (wrap64 (x4 + 1))) (none)) (none)) (none)) (none)) (ret (false, x3))
def laws_toByteS.l0 : Nat → Bool → (List Int) → (List Int) → Int → Option (Bool × List Int)
  | 0, _, _, _, _ => none
  | k + 1, x0z, x0, x3, x4 => laws_toByteS.l0b some (laws_toByteS.l0 k) k x0z x0 x3 x4
def laws_toByteS.f : Nat → Bool → (List Int) → Option (Bool × List Int)
  | 0, _, _ => none
  | k + 1, a0z, a0 => laws_toByteS.b some (laws_toByteS.l0 k) k a0z a0
def laws_toByteS.enc (r : Bool × List Int) : Res := ⟨[.vals false [((.nums 5 .u8 r.1 r.2), true)]], []⟩
def laws_toByteS.ans (k : Nat) : List Arg → Ans
  | [.v (.nums 5 .u8 a0z a0)] => ⟨laws_toByteS.f k a0z a0, laws_toByteS.enc⟩
  | _ => Ans.no
def laws_toByteS.Cs (k : Nat) : CallSem := tab []
def laws_toByteS.cuts : List (Nat × Keep) := [(58, ⟨[(0, some []), (3, none), (4, some [])], []⟩)]
noncomputable def laws_toByteS.K0 : List Fr := framesAt [true, true, false, true, false] (bodyOf Tryz.f10 laws_toByteS.cuts) []
def laws_toByteS.N0 (x0z : Bool) (x0 x3 : List Int) (x4 : Int) : St := stOf 22 22 1 [(0, .val ⟨(.nums 5 .u8 x0z x0), [], false, none⟩), (3, .val ⟨(.nums 5 .u8 false x3), [.l 3 0], true, some (.l 3 0)⟩), (4, .val (V.s (.int .i64 x4)))] []
theorem laws_toByteS.s0 (k : Nat) (G : List Fr → St → Option Res) (a0z : Bool) (a0 : List Int) (yx0z : Bool) (yx0 yx3 : List Int) (yx4 : Int) : resume Tryz.prog (laws_toByteS.Cs k) G (finish Tryz.prog [] Tryz.f10 [.v (.nums 5 .u8 a0z a0)]) 100000 laws_toByteS.K0 (laws_toByteS.N0 yx0z yx0 yx3 yx4) = laws_toByteS.l0b (fun r => some (laws_toByteS.enc r)) (fun x0z x0 x3 x4 => G laws_toByteS.K0 (laws_toByteS.N0 x0z x0 x3 x4)) k yx0z yx0 yx3 yx4 := by kernel_rfl
theorem laws_toByteS.bn {R R' : Type} (e : R → R') (ret : Bool × List Int → Option R) (j0 : Bool → (List Int) → (List Int) → Int → Option R) (k : Nat) (a0z : Bool) (a0 : List Int) : laws_toByteS.b (fun r => (ret r).map e) (fun x0z x0 x3 x4 => (j0 x0z x0 x3 x4).map e) k a0z a0 = (laws_toByteS.b ret j0 k a0z a0).map e := by
  unfold laws_toByteS.b
  repeat' first | with_reducible refine nat_cond ?_ ?_ | with_reducible refine nat_bind fun _ => ?_ | rfl
theorem laws_toByteS.l0n {R R' : Type} (e : R → R') (ret : Bool × List Int → Option R) (j0 : Bool → (List Int) → (List Int) → Int → Option R) (k : Nat) (x0z : Bool) (x0 x3 : List Int) (x4 : Int) : laws_toByteS.l0b (fun r => (ret r).map e) (fun x0z x0 x3 x4 => (j0 x0z x0 x3 x4).map e) k x0z x0 x3 x4 = (laws_toByteS.l0b ret j0 k x0z x0 x3 x4).map e := by
  unfold laws_toByteS.l0b
  repeat' first | with_reducible refine nat_cond ?_ ?_ | with_reducible refine nat_bind fun _ => ?_ | rfl
theorem laws_toByteS.rq (a0z : Bool) (a0 : List Int) : ∀ k, (∀ (x0z : Bool) (x0 x3 : List Int) (x4 : Int), rounds Tryz.prog laws_toByteS.Cs (finish Tryz.prog [] Tryz.f10 [.v (.nums 5 .u8 a0z a0)]) 100000 k laws_toByteS.K0 (laws_toByteS.N0 x0z x0 x3 x4) = (laws_toByteS.l0 k x0z x0 x3 x4).map laws_toByteS.enc)
  | 0 => fun _ _ _ _ => rfl
  | k + 1 => by
    have ih := laws_toByteS.rq a0z a0 k
    refine fun _ _ _ _ => ?_
    · refine (laws_toByteS.s0 k _ a0z a0 _ _ _ _).trans (Eq.trans ?_ (laws_toByteS.l0n laws_toByteS.enc some (laws_toByteS.l0 k) k _ _ _ _))
      simp only [ih, Option.map_some]
theorem laws_toByteS.eq (k : Nat) (a0z : Bool) (a0 : List Int) : answer Tryz.prog laws_toByteS.Cs 100000 laws_toByteS.cuts [] Tryz.f10 (k + 1) [.v (.nums 5 .u8 a0z a0)] = (laws_toByteS.f (k + 1) a0z a0).map laws_toByteS.enc := by
  have ih := laws_toByteS.rq a0z a0 k
  refine Eq.trans (b := laws_toByteS.b (fun r => some (laws_toByteS.enc r)) (fun x0z x0 x3 x4 => rounds Tryz.prog laws_toByteS.Cs (finish Tryz.prog [] Tryz.f10 [.v (.nums 5 .u8 a0z a0)]) 100000 k laws_toByteS.K0 (laws_toByteS.N0 x0z x0 x3 x4)) k a0z a0) (by kernel_rfl) (Eq.trans ?_ (laws_toByteS.bn laws_toByteS.enc some (laws_toByteS.l0 k) k a0z a0))
  simp only [ih, Option.map_some]
theorem laws_toByteS.sound (k : Nat) : SoundF Tryz.prog 10 (fun a => (laws_toByteS.ans k a).val) := by
  refine sound_plain (fun args res h => ?_) (fun t n => rfl)
  unfold laws_toByteS.ans at h
  dsimp only at h
  split at h
  · cases k with
    | zero => cases h
    | succ k =>
      unfold Ans.val at h
      rw [← laws_toByteS.eq] at h
      exact answer_sound mixed Tryz.func10 _ _ _ (k + 1) (fun j _ => tab_sound (tab_nil)) _ _ h
  · exact (Ans.no_val h).elim

def laws_toRow.b {R : Type} (ret : Int × Bool × List Int → Option R) (k : Nat) (a0_0 : Int) (a0_1z : Bool) (a0_1 : List Int) : Option R :=
  (laws_toByteS.f k a0_1z a0_1).bind fun t0 => ret (a0_0, t0.1, t0.2)
def laws_toRow.f : Nat → Int → Bool → (List Int) → Option (Int × Bool × List Int)
  | 0, _, _, _ => none
  | k + 1, a0_0, a0_1z, a0_1 => laws_toRow.b some k a0_0 a0_1z a0_1
def laws_toRow.enc (r : Int × Bool × List Int) : Res := ⟨[.vals true [((.int .i64 r.1), true), ((.nums 5 .u8 r.2.1 r.2.2), true)]], []⟩
def laws_toRow.ans (k : Nat) : List Arg → Ans
  | [.v (.agg [(.int .i64 a0_0), (.nums 5 .u8 a0_1z a0_1)])] => ⟨laws_toRow.f k a0_0 a0_1z a0_1, laws_toRow.enc⟩
  | _ => Ans.no
def laws_toRow.Cs (k : Nat) : CallSem := tab [(10, laws_toByteS.ans k)]
theorem laws_toRow.eq (k : Nat) (a0_0 : Int) (a0_1z : Bool) (a0_1 : List Int) : answer Tryz.prog laws_toRow.Cs 100000 [] [] Tryz.f56 (k + 1) [.v (.agg [(.int .i64 a0_0), (.nums 5 .u8 a0_1z a0_1)])] = (laws_toRow.f (k + 1) a0_0 a0_1z a0_1).map laws_toRow.enc := by
  refine Eq.trans (b := laws_toRow.b (fun r => some (laws_toRow.enc r)) k a0_0 a0_1z a0_1) (by kernel_rfl) ?_
  show _ = (laws_toRow.b some k a0_0 a0_1z a0_1).map laws_toRow.enc
  unfold laws_toRow.b
  repeat' first | with_reducible refine nat_cond ?_ ?_ | with_reducible refine nat_bind fun _ => ?_ | rfl
theorem laws_toRow.sound (k : Nat) : SoundF Tryz.prog 56 (fun a => (laws_toRow.ans k a).val) := by
  refine sound_plain (fun args res h => ?_) (fun t n => rfl)
  unfold laws_toRow.ans at h
  dsimp only at h
  split at h
  · cases k with
    | zero => cases h
    | succ k =>
      unfold Ans.val at h
      rw [← laws_toRow.eq] at h
      exact answer_sound mixed Tryz.func56 _ _ _ (k + 1) (fun j _ => tab_sound (tab_cons (laws_toByteS.sound j) (tab_nil))) _ _ h
  · exact (Ans.no_val h).elim

def laws_toRowS.b {R : Type} (ret : Bool × List T → Option R) (j0 : Bool → (List T) → (List T) → Int → Option R) (k : Nat) (a0z : Bool) (a0 : List T) : Option R :=
  cond (decide (((a0).length : Int) = ((a0).length : Int))) (cond (decide (0 ≤ ((a0).length : Int))) (cond (decide ((a0).length < 4398046511104)) (j0 a0z a0 (List.replicate (a0).length (.agg [(.int .i64 0), (.nums 5 .u8 true ([] : List Int))])) 0) (none)) (none)) (none)
def laws_toRowS.l0b {R : Type} (ret : Bool × List T → Option R) (j0 : Bool → (List T) → (List T) → Int → Option R) (k : Nat) (x0z : Bool) (x0 x3 : List T) (x4 : Int) : Option R :=
  cond (decide (x4 < ((x0).length : Int))) (cond (decide (0 ≤ x4)) (cond (decide (x4 < ((x0).length : Int))) ((laws_toRow.f k (((((x0).getD (x4).toNat .bad).cells.getD 0 .bad)).toInt) (((((x0).getD (x4).toNat .bad).cells.getD 1 .bad)).isNil) (((((x0).getD (x4).toNat .bad).cells.getD 1 .bad)).toNums)).bind fun t0 => cond (decide (0 ≤ x4)) (cond (decide (x4 < ((x3).length : Int))) (j0 x0z x0 ((x3).set (x4).toNat (.agg [(.int .i64 t0.1), (.nums 5 .u8 t0.2.1 t0.2.2)])) (wrap64 (x4 + 1))) (none)) (none)) (none)) (none)) (ret (false, x3))
def laws_toRowS.l0 : Nat → Bool → (List T) → (List T) → Int → Option (Bool × List T)
  | 0, _, _, _, _ => none
  | k + 1, x0z, x0, x3, x4 => laws_toRowS.l0b some (laws_toRowS.l0 k) k x0z x0 x3 x4
def laws_toRowS.f : Nat → Bool → (List T) → Option (Bool × List T)
  | 0, _, _ => none
  | k + 1, a0z, a0 => laws_toRowS.b some (laws_toRowS.l0 k) k a0z a0
def laws_toRowS.enc (r : Bool × List T) : Res := ⟨[.vals false [((.sl 85 r.1 r.2), true)]], []⟩
def laws_toRowS.ans (k : Nat) : List Arg → Ans
  | [.v (.sl 77 a0z a0)] => ⟨laws_toRowS.f k a0z a0, laws_toRowS.enc⟩
  | _ => Ans.no
def laws_toRowS.Cs (k : Nat) : CallSem := tab [(56, laws_toRow.ans k)]
def laws_toRowS.cuts : List (Nat × Keep) := [(58, ⟨[(0, some []), (3, none), (4, some [])], []⟩)]
noncomputable def laws_toRowS.K0 : List Fr := framesAt [true, true, false, true, false] (bodyOf Tryz.f28 laws_toRowS.cuts) []
def laws_toRowS.N0 (x0z : Bool) (x0 x3 : List T) (x4 : Int) : St := stOf 23 23 1 [(0, .val ⟨(.sl 77 x0z x0), [], false, none⟩), (3, .val ⟨(.sl 85 false x3), [.l 3 0], true, some (.l 3 0)⟩), (4, .val (V.s (.int .i64 x4)))] []
theorem laws_toRowS.s0 (k : Nat) (G : List Fr → St → Option Res) (a0z : Bool) (a0 : List T) (yx0z : Bool) (yx0 yx3 : List T) (yx4 : Int) : resume Tryz.prog (laws_toRowS.Cs k) G (finish Tryz.prog [] Tryz.f28 [.v (.sl 77 a0z a0)]) 100000 laws_toRowS.K0 (laws_toRowS.N0 yx0z yx0 yx3 yx4) = laws_toRowS.l0b (fun r => some (laws_toRowS.enc r)) (fun x0z x0 x3 x4 => G laws_toRowS.K0 (laws_toRowS.N0 x0z x0 x3 x4)) k yx0z yx0 yx3 yx4 := by kernel_rfl
theorem laws_toRowS.bn {R R' : Type} (e : R → R') (ret : Bool × List T → Option R) (j0 : Bool → (List T) → (List T) → Int → Option R) (k : Nat) (a0z : Bool) (a0 : List T) : laws_toRowS.b (fun r => (ret r).map e) (fun x0z x0 x3 x4 => (j0 x0z x0 x3 x4).map e) k a0z a0 = (laws_toRowS.b ret j0 k a0z a0).map e := by
  unfold laws_toRowS.b
  repeat' first | with_reducible refine nat_cond ?_ ?_ | with_reducible refine nat_bind fun _ => ?_ | rfl
theorem laws_toRowS.l0n {R R' : Type} (e : R → R') (ret : Bool × List T → Option R) (j0 : Bool → (List T) → (List T) → Int → Option R) (k : Nat) (x0z : Bool) (x0 x3 : List T) (x4 : Int) : laws_toRowS.l0b (fun r => (ret r).map e) (fun x0z x0 x3 x4 => (j0 x0z x0 x3 x4).map e) k x0z x0 x3 x4 = (laws_toRowS.l0b ret j0 k x0z x0 x3 x4).map e := by
  unfold laws_toRowS.l0b
  repeat' first | with_reducible refine nat_cond ?_ ?_ | with_reducible refine nat_bind fun _ => ?_ | rfl
theorem laws_toRowS.rq (a0z : Bool) (a0 : List T) : ∀ k, (∀ (x0z : Bool) (x0 x3 : List T) (x4 : Int), rounds Tryz.prog laws_toRowS.Cs (finish Tryz.prog [] Tryz.f28 [.v (.sl 77 a0z a0)]) 100000 k laws_toRowS.K0 (laws_toRowS.N0 x0z x0 x3 x4) = (laws_toRowS.l0 k x0z x0 x3 x4).map laws_toRowS.enc)
  | 0 => fun _ _ _ _ => rfl
  | k + 1 => by
    have ih := laws_toRowS.rq a0z a0 k
    refine fun _ _ _ _ => ?_
    · refine (laws_toRowS.s0 k _ a0z a0 _ _ _ _).trans (Eq.trans ?_ (laws_toRowS.l0n laws_toRowS.enc some (laws_toRowS.l0 k) k _ _ _ _))
      simp only [ih, Option.map_some]
theorem laws_toRowS.eq (k : Nat) (a0z : Bool) (a0 : List T) : answer Tryz.prog laws_toRowS.Cs 100000 laws_toRowS.cuts [] Tryz.f28 (k + 1) [.v (.sl 77 a0z a0)] = (laws_toRowS.f (k + 1) a0z a0).map laws_toRowS.enc := by
  have ih := laws_toRowS.rq a0z a0 k
  refine Eq.trans (b := laws_toRowS.b (fun r => some (laws_toRowS.enc r)) (fun x0z x0 x3 x4 => rounds Tryz.prog laws_toRowS.Cs (finish Tryz.prog [] Tryz.f28 [.v (.sl 77 a0z a0)]) 100000 k laws_toRowS.K0 (laws_toRowS.N0 x0z x0 x3 x4)) k a0z a0) (by kernel_rfl) (Eq.trans ?_ (laws_toRowS.bn laws_toRowS.enc some (laws_toRowS.l0 k) k a0z a0))
  simp only [ih, Option.map_some]
theorem laws_toRowS.sound (k : Nat) : SoundF Tryz.prog 28 (fun a => (laws_toRowS.ans k a).val) := by
  refine sound_plain (fun args res h => ?_) (fun t n => rfl)
  unfold laws_toRowS.ans at h
  dsimp only at h
  split at h
  · cases k with
    | zero => cases h
    | succ k =>
      unfold Ans.val at h
      rw [← laws_toRowS.eq] at h
      exact answer_sound mixed Tryz.func28 _ _ _ (k + 1) (fun j _ => tab_sound (tab_cons (laws_toRow.sound j) (tab_nil))) _ _ h
  · exact (Ans.no_val h).elim

def laws_toTable.b {R : Type} (ret : Bool × List T → Option R) (k : Nat) (a0_0z : Bool) (a0_0 : List T) : Option R :=
  (laws_toRowS.f k a0_0z a0_0).bind fun t0 => ret (t0.1, t0.2)
def laws_toTable.f : Nat → Bool → (List T) → Option (Bool × List T)
  | 0, _, _ => none
  | k + 1, a0_0z, a0_0 => laws_toTable.b some k a0_0z a0_0
def laws_toTable.enc (r : Bool × List T) : Res := ⟨[.vals true [((.sl 85 r.1 r.2), true)]], []⟩
def laws_toTable.ans (k : Nat) : List Arg → Ans
  | [.v (.agg [(.sl 77 a0_0z a0_0)])] => ⟨laws_toTable.f k a0_0z a0_0, laws_toTable.enc⟩
  | _ => Ans.no
def laws_toTable.Cs (k : Nat) : CallSem := tab [(28, laws_toRowS.ans k)]
theorem laws_toTable.eq (k : Nat) (a0_0z : Bool) (a0_0 : List T) : answer Tryz.prog laws_toTable.Cs 100000 [] [] Tryz.f8 (k + 1) [.v (.agg [(.sl 77 a0_0z a0_0)])] = (laws_toTable.f (k + 1) a0_0z a0_0).map laws_toTable.enc := by
  refine Eq.trans (b := laws_toTable.b (fun r => some (laws_toTable.enc r)) k a0_0z a0_0) (by kernel_rfl) ?_
  show _ = (laws_toTable.b some k a0_0z a0_0).map laws_toTable.enc
  unfold laws_toTable.b
  repeat' first | with_reducible refine nat_cond ?_ ?_ | with_reducible refine nat_bind fun _ => ?_ | rfl
theorem laws_toTable.sound (k : Nat) : SoundF Tryz.prog 8 (fun a => (laws_toTable.ans k a).val) := by
  refine sound_plain (fun args res h => ?_) (fun t n => rfl)
  unfold laws_toTable.ans at h
  dsimp only at h
  split at h
  · cases k with
    | zero => cases h
    | succ k =>
      unfold Ans.val at h
      rw [← laws_toTable.eq] at h
      exact answer_sound mixed Tryz.func8 _ _ _ (k + 1) (fun j _ => tab_sound (tab_cons (laws_toRowS.sound j) (tab_nil))) _ _ h
  · exact (Ans.no_val h).elim

def laws_toVote.b {R : Type} (ret : Int × Int × Bool × (List Int) × Int × Bool × List Int → Option R) (k : Nat) (a0_0 a0_1 : Int) (a0_2z : Bool) (a0_2 : List Int) (a0_3 : Int) (a0_4z : Bool) (a0_4 : List Int) : Option R :=
  (laws_toByteS.f k a0_2z a0_2).bind fun t0 => (laws_toByteS.f k a0_4z a0_4).bind fun t1 => ret (a0_0, a0_1, t0.1, t0.2, a0_3, t1.1, t1.2)
def laws_toVote.f : Nat → Int → Int → Bool → (List Int) → Int → Bool → (List Int) → Option (Int × Int × Bool × (List Int) × Int × Bool × List Int)
  | 0, _, _, _, _, _, _, _ => none
  | k + 1, a0_0, a0_1, a0_2z, a0_2, a0_3, a0_4z, a0_4 => laws_toVote.b some k a0_0 a0_1 a0_2z a0_2 a0_3 a0_4z a0_4
def laws_toVote.enc (r : Int × Int × Bool × (List Int) × Int × Bool × List Int) : Res := ⟨[.vals true [((.int .i64 r.1), true), ((.int .i64 r.2.1), true), ((.nums 5 .u8 r.2.2.1 r.2.2.2.1), true), ((.int .i64 r.2.2.2.2.1), true), ((.nums 5 .u8 r.2.2.2.2.2.1 r.2.2.2.2.2.2), true)]], []⟩
def laws_toVote.ans (k : Nat) : List Arg → Ans
  | [.v (.agg [(.int .i64 a0_0), (.int .i64 a0_1), (.nums 5 .u8 a0_2z a0_2), (.int .i64 a0_3), (.nums 5 .u8 a0_4z a0_4)])] => ⟨laws_toVote.f k a0_0 a0_1 a0_2z a0_2 a0_3 a0_4z a0_4, laws_toVote.enc⟩
  | _ => Ans.no
def laws_toVote.Cs (k : Nat) : CallSem := tab [(10, laws_toByteS.ans k)]
theorem laws_toVote.eq (k : Nat) (a0_0 a0_1 : Int) (a0_2z : Bool) (a0_2 : List Int) (a0_3 : Int) (a0_4z : Bool) (a0_4 : List Int) : answer Tryz.prog laws_toVote.Cs 100000 [] [] Tryz.f29 (k + 1) [.v (.agg [(.int .i64 a0_0), (.int .i64 a0_1), (.nums 5 .u8 a0_2z a0_2), (.int .i64 a0_3), (.nums 5 .u8 a0_4z a0_4)])] = (laws_toVote.f (k + 1) a0_0 a0_1 a0_2z a0_2 a0_3 a0_4z a0_4).map laws_toVote.enc := by
  refine Eq.trans (b := laws_toVote.b (fun r => some (laws_toVote.enc r)) k a0_0 a0_1 a0_2z a0_2 a0_3 a0_4z a0_4) (by kernel_rfl) ?_
  show _ = (laws_toVote.b some k a0_0 a0_1 a0_2z a0_2 a0_3 a0_4z a0_4).map laws_toVote.enc
  unfold laws_toVote.b
  repeat' first | with_reducible refine nat_cond ?_ ?_ | with_reducible refine nat_bind fun _ => ?_ | rfl
theorem laws_toVote.sound (k : Nat) : SoundF Tryz.prog 29 (fun a => (laws_toVote.ans k a).val) := by
  refine sound_plain (fun args res h => ?_) (fun t n => rfl)
  unfold laws_toVote.ans at h
  dsimp only at h
  split at h
  · cases k with
    | zero => cases h
    | succ k =>
      unfold Ans.val at h
      rw [← laws_toVote.eq] at h
      exact answer_sound mixed Tryz.func29 _ _ _ (k + 1) (fun j _ => tab_sound (tab_cons (laws_toByteS.sound j) (tab_nil))) _ _ h
  · exact (Ans.no_val h).elim

def laws_toVoteS.b {R : Type} (ret : Bool × List T → Option R) (j0 : Bool → (List T) → (List T) → Int → Option R) (k : Nat) (a0z : Bool) (a0 : List T) : Option R :=
  cond (decide (((a0).length : Int) = ((a0).length : Int))) (cond (decide (0 ≤ ((a0).length : Int))) (cond (decide ((a0).length < 1954687338268)) (j0 a0z a0 (List.replicate (a0).length (.agg [(.int .i64 0), (.int .i64 0), (.nums 5 .u8 true ([] : List Int)), (.int .i64 0), (.nums 5 .u8 true ([] : List Int))])) 0) (none)) (none)) (none)
def laws_toVoteS.l0b {R : Type} (ret : Bool × List T → Option R) (j0 : Bool → (List T) → (List T) → Int → Option R) (k : Nat) (x0z : Bool) (x0 x3 : List T) (x4 : Int) : Option R :=
  cond (decide (x4 < ((x0).length : Int))) (cond (decide (0 ≤ x4)) (cond (decide (x4 < ((x0).length : Int))) ((laws_toVote.f k (((((x0).getD (x4).toNat .bad).cells.getD 0 .bad)).toInt) (((((x0).getD (x4).toNat .bad).cells.getD 1 .bad)).toInt) (((((x0).getD (x4).toNat .bad).cells.getD 2 .bad)).isNil) (((((x0).getD (x4).toNat .bad).cells.getD 2 .bad)).toNums) (((((x0).getD (x4).toNat .bad).cells.getD 3 .bad)).toInt) (((((x0).getD (x4).toNat .bad).cells.getD 4 .bad)).isNil) (((((x0).getD (x4).toNat .bad).cells.getD 4 .bad)).toNums)).bind fun t0 => cond (decide (0 ≤ x4)) (cond (decide (x4 < ((x3).length : Int))) (j0 x0z x0 ((x3).set (x4).toNat (.agg [(.int .i64 t0.1), (.int .i64 t0.2.1), (.nums 5 .u8 t0.2.2.1 t0.2.2.2.1), (.int .i64 t0.2.2.2.2.1), (.nums 5 .u8 t0.2.2.2.2.2.1 t0.2.2.2.2.2.2)])) (wrap64 (x4 + 1))) (none)) (none)) (none)) (none)) (ret (false, x3))
def laws_toVoteS.l0 : Nat → Bool → (List T) → (List T) → Int → Option (Bool × List T)
  | 0, _, _, _, _ => none
  | k + 1, x0z, x0, x3, x4 => laws_toVoteS.l0b some (laws_toVoteS.l0 k) k x0z x0 x3 x4
def laws_toVoteS.f : Nat → Bool → (List T) → Option (Bool × List T)
  | 0, _, _ => none
  | k + 1, a0z, a0 => laws_toVoteS.b some (laws_toVoteS.l0 k) k a0z a0
def laws_toVoteS.enc (r : Bool × List T) : Res := ⟨[.vals false [((.sl 59 r.1 r.2), true)]], []⟩
def laws_toVoteS.ans (k : Nat) : List Arg → Ans
  | [.v (.sl 57 a0z a0)] => ⟨laws_toVoteS.f k a0z a0, laws_toVoteS.enc⟩
  | _ => Ans.no
def laws_toVoteS.Cs (k : Nat) : CallSem := tab [(29, laws_toVote.ans k)]
def laws_toVoteS.cuts : List (Nat × Keep) := [(58, ⟨[(0, some []), (3, none), (4, some [])], []⟩)]
noncomputable def laws_toVoteS.K0 : List Fr := framesAt [true, true, false, true, false] (bodyOf Tryz.f9 laws_toVoteS.cuts) []
def laws_toVoteS.N0 (x0z : Bool) (x0 x3 : List T) (x4 : Int) : St := stOf 23 23 1 [(0, .val ⟨(.sl 57 x0z x0), [], false, none⟩), (3, .val ⟨(.sl 59 false x3), [.l 3 0], true, some (.l 3 0)⟩), (4, .val (V.s (.int .i64 x4)))] []
theorem laws_toVoteS.s0 (k : Nat) (G : List Fr → St → Option Res) (a0z : Bool) (a0 : List T) (yx0z : Bool) (yx0 yx3 : List T) (yx4 : Int) : resume Tryz.prog (laws_toVoteS.Cs k) G (finish Tryz.prog [] Tryz.f9 [.v (.sl 57 a0z a0)]) 100000 laws_toVoteS.K0 (laws_toVoteS.N0 yx0z yx0 yx3 yx4) = laws_toVoteS.l0b (fun r => some (laws_toVoteS.enc r)) (fun x0z x0 x3 x4 => G laws_toVoteS.K0 (laws_toVoteS.N0 x0z x0 x3 x4)) k yx0z yx0 yx3 yx4 := by kernel_rfl
theorem laws_toVoteS.bn {R R' : Type} (e : R → R') (ret : Bool × List T → Option R) (j0 : Bool → (List T) → (List T) → Int → Option R) (k : Nat) (a0z : Bool) (a0 : List T) : laws_toVoteS.b (fun r => (ret r).map e) (fun x0z x0 x3 x4 => (j0 x0z x0 x3 x4).map e) k a0z a0 = (laws_toVoteS.b ret j0 k a0z a0).map e := by
  unfold laws_toVoteS.b
  repeat' first | with_reducible refine nat_cond ?_ ?_ | with_reducible refine nat_bind fun _ => ?_ | rfl
theorem laws_toVoteS.l0n {R R' : Type} (e : R → R') (ret : Bool × List T → Option R) (j0 : Bool → (List T) → (List T) → Int → Option R) (k : Nat) (x0z : Bool) (x0 x3 : List T) (x4 : Int) : laws_toVoteS.l0b (fun r => (ret r).map e) (fun x0z x0 x3 x4 => (j0 x0z x0 x3 x4).map e) k x0z x0 x3 x4 = (laws_toVoteS.l0b ret j0 k x0z x0 x3 x4).map e := by
  unfold laws_toVoteS.l0b
  repeat' first | with_reducible refine nat_cond ?_ ?_ | with_reducible refine nat_bind fun _ => ?_ | rfl
theorem laws_toVoteS.rq (a0z : Bool) (a0 : List T) : ∀ k, (∀ (x0z : Bool) (x0 x3 : List T) (x4 : Int), rounds Tryz.prog laws_toVoteS.Cs (finish Tryz.prog [] Tryz.f9 [.v (.sl 57 a0z a0)]) 100000 k laws_toVoteS.K0 (laws_toVoteS.N0 x0z x0 x3 x4) = (laws_toVoteS.l0 k x0z x0 x3 x4).map laws_toVoteS.enc)
  | 0 => fun _ _ _ _ => rfl
  | k + 1 => by
    have ih := laws_toVoteS.rq a0z a0 k
    refine fun _ _ _ _ => ?_
    · refine (laws_toVoteS.s0 k _ a0z a0 _ _ _ _).trans (Eq.trans ?_ (laws_toVoteS.l0n laws_toVoteS.enc some (laws_toVoteS.l0 k) k _ _ _ _))
      simp only [ih, Option.map_some]
theorem laws_toVoteS.eq (k : Nat) (a0z : Bool) (a0 : List T) : answer Tryz.prog laws_toVoteS.Cs 100000 laws_toVoteS.cuts [] Tryz.f9 (k + 1) [.v (.sl 57 a0z a0)] = (laws_toVoteS.f (k + 1) a0z a0).map laws_toVoteS.enc := by
  have ih := laws_toVoteS.rq a0z a0 k
  refine Eq.trans (b := laws_toVoteS.b (fun r => some (laws_toVoteS.enc r)) (fun x0z x0 x3 x4 => rounds Tryz.prog laws_toVoteS.Cs (finish Tryz.prog [] Tryz.f9 [.v (.sl 57 a0z a0)]) 100000 k laws_toVoteS.K0 (laws_toVoteS.N0 x0z x0 x3 x4)) k a0z a0) (by kernel_rfl) (Eq.trans ?_ (laws_toVoteS.bn laws_toVoteS.enc some (laws_toVoteS.l0 k) k a0z a0))
  simp only [ih, Option.map_some]
theorem laws_toVoteS.sound (k : Nat) : SoundF Tryz.prog 9 (fun a => (laws_toVoteS.ans k a).val) := by
  refine sound_plain (fun args res h => ?_) (fun t n => rfl)
  unfold laws_toVoteS.ans at h
  dsimp only at h
  split at h
  · cases k with
    | zero => cases h
    | succ k =>
      unfold Ans.val at h
      rw [← laws_toVoteS.eq] at h
      exact answer_sound mixed Tryz.func9 _ _ _ (k + 1) (fun j _ => tab_sound (tab_cons (laws_toVote.sound j) (tab_nil))) _ _ h
  · exact (Ans.no_val h).elim

def spec_l01In.b {R : Type} (ret : Bool → Option R) (k : Nat) (a0 a1 a2 : Int) : Option R :=
  cond (decide (a0 ≥ a1)) (ret (decide (a0 ≤ a2))) (ret false)
def spec_l01In.f : Nat → Int → Int → Int → Option Bool
  | 0, _, _, _ => none
  | k + 1, a0, a1, a2 => spec_l01In.b some k a0 a1 a2
def spec_l01In.enc (r : Bool) : Res := ⟨[.vals false [((.bool r), true)]], []⟩
def spec_l01In.ans (k : Nat) : List Arg → Ans
  | [.v (.int .i64 a0), .v (.int .i64 a1), .v (.int .i64 a2)] => ⟨spec_l01In.f k a0 a1 a2, spec_l01In.enc⟩
  | _ => Ans.no
def spec_l01In.Cs (k : Nat) : CallSem := tab []
theorem spec_l01In.eq (k : Nat) (a0 a1 a2 : Int) : answer Tryz.prog spec_l01In.Cs 100000 [] [] Tryz.f68 (k + 1) [.v (.int .i64 a0), .v (.int .i64 a1), .v (.int .i64 a2)] = (spec_l01In.f (k + 1) a0 a1 a2).map spec_l01In.enc := by
  refine Eq.trans (b := spec_l01In.b (fun r => some (spec_l01In.enc r)) k a0 a1 a2) (by kernel_rfl) ?_
  show _ = (spec_l01In.b some k a0 a1 a2).map spec_l01In.enc
  unfold spec_l01In.b
  repeat' first | with_reducible refine nat_cond ?_ ?_ | with_reducible refine nat_bind fun _ => ?_ | rfl
theorem spec_l01In.sound (k : Nat) : SoundF Tryz.prog 68 (fun a => (spec_l01In.ans k a).val) := by
  refine sound_plain (fun args res h => ?_) (fun t n => rfl)
  unfold spec_l01In.ans at h
  dsimp only at h
  split at h
  · cases k with
    | zero => cases h
    | succ k =>
      unfold Ans.val at h
      rw [← spec_l01In.eq] at h
      exact answer_sound mixed Tryz.func68 _ _ _ (k + 1) (fun j _ => tab_sound (tab_nil)) _ _ h
  · exact (Ans.no_val h).elim

def spec_l02Signers.b {R : Type} (ret : Bool → Option R) (k : Nat) (a0 : Int) : Option R :=
  (spec_l01In.f k a0 1 10).bind fun t0 => ret t0
def spec_l02Signers.f : Nat → Int → Option Bool
  | 0, _ => none
  | k + 1, a0 => spec_l02Signers.b some k a0
def spec_l02Signers.enc (r : Bool) : Res := ⟨[.vals false [((.bool r), true)]], []⟩
def spec_l02Signers.ans (k : Nat) : List Arg → Ans
  | [.v (.int .i64 a0)] => ⟨spec_l02Signers.f k a0, spec_l02Signers.enc⟩
  | _ => Ans.no
def spec_l02Signers.Cs (k : Nat) : CallSem := tab [(68, spec_l01In.ans k)]
theorem spec_l02Signers.eq (k : Nat) (a0 : Int) : answer Tryz.prog spec_l02Signers.Cs 100000 [] [] Tryz.f67 (k + 1) [.v (.int .i64 a0)] = (spec_l02Signers.f (k + 1) a0).map spec_l02Signers.enc := by
  refine Eq.trans (b := spec_l02Signers.b (fun r => some (spec_l02Signers.enc r)) k a0) (by kernel_rfl) ?_
  show _ = (spec_l02Signers.b some k a0).map spec_l02Signers.enc
  unfold spec_l02Signers.b
  repeat' first | with_reducible refine nat_cond ?_ ?_ | with_reducible refine nat_bind fun _ => ?_ | rfl
theorem spec_l02Signers.sound (k : Nat) : SoundF Tryz.prog 67 (fun a => (spec_l02Signers.ans k a).val) := by
  refine sound_plain (fun args res h => ?_) (fun t n => rfl)
  unfold spec_l02Signers.ans at h
  dsimp only at h
  split at h
  · cases k with
    | zero => cases h
    | succ k =>
      unfold Ans.val at h
      rw [← spec_l02Signers.eq] at h
      exact answer_sound mixed Tryz.func67 _ _ _ (k + 1) (fun j _ => tab_sound (tab_cons (spec_l01In.sound j) (tab_nil))) _ _ h
  · exact (Ans.no_val h).elim

def spec_LimitsOk.b {R : Type} (ret : Bool → Option R) (k : Nat) (a0_0 a0_1 : Int) (a0_2 a0_3 a0_4 : Int) : Option R :=
  (spec_l02Signers.f k a0_0).bind fun t0 => cond t0 ((spec_l01In.f k a0_1 0 40).bind fun t1 => cond t1 ((spec_l01In.f k a0_2 0 8).bind fun t2 => cond t2 ((spec_l01In.f k a0_3 1 4000).bind fun t3 => cond t3 ((spec_l01In.f k a0_4 3 5).bind fun t4 => ret t4) (ret false)) (ret false)) (ret false)) (ret false)
def spec_LimitsOk.f : Nat → Int → Int → Int → Int → Int → Option Bool
  | 0, _, _, _, _, _ => none
  | k + 1, a0_0, a0_1, a0_2, a0_3, a0_4 => spec_LimitsOk.b some k a0_0 a0_1 a0_2 a0_3 a0_4
def spec_LimitsOk.enc (r : Bool) : Res := ⟨[.vals false [((.bool r), true)]], []⟩
def spec_LimitsOk.ans (k : Nat) : List Arg → Ans
  | [.v (.agg [(.int .i64 a0_0), (.int .i64 a0_1), (.int .i64 a0_2), (.int .i64 a0_3), (.int .i64 a0_4)])] => ⟨spec_LimitsOk.f k a0_0 a0_1 a0_2 a0_3 a0_4, spec_LimitsOk.enc⟩
  | _ => Ans.no
def spec_LimitsOk.Cs (k : Nat) : CallSem := tab [(67, spec_l02Signers.ans k), (68, spec_l01In.ans k)]
theorem spec_LimitsOk.eq (k : Nat) (a0_0 a0_1 : Int) (a0_2 a0_3 a0_4 : Int) : answer Tryz.prog spec_LimitsOk.Cs 100000 [] [] Tryz.f47 (k + 1) [.v (.agg [(.int .i64 a0_0), (.int .i64 a0_1), (.int .i64 a0_2), (.int .i64 a0_3), (.int .i64 a0_4)])] = (spec_LimitsOk.f (k + 1) a0_0 a0_1 a0_2 a0_3 a0_4).map spec_LimitsOk.enc := by
  refine Eq.trans (b := spec_LimitsOk.b (fun r => some (spec_LimitsOk.enc r)) k a0_0 a0_1 a0_2 a0_3 a0_4) (by kernel_rfl) ?_
  show _ = (spec_LimitsOk.b some k a0_0 a0_1 a0_2 a0_3 a0_4).map spec_LimitsOk.enc
  unfold spec_LimitsOk.b
  repeat' first | with_reducible refine nat_cond ?_ ?_ | with_reducible refine nat_bind fun _ => ?_ | rfl
theorem spec_LimitsOk.sound (k : Nat) : SoundF Tryz.prog 47 (fun a => (spec_LimitsOk.ans k a).val) := by
  refine sound_plain (fun args res h => ?_) (fun t n => rfl)
  unfold spec_LimitsOk.ans at h
  dsimp only at h
  split at h
  · cases k with
    | zero => cases h
    | succ k =>
      unfold Ans.val at h
      rw [← spec_LimitsOk.eq] at h
      exact answer_sound mixed Tryz.func47 _ _ _ (k + 1) (fun j _ => tab_sound (tab_cons (spec_l02Signers.sound j) (tab_cons (spec_l01In.sound j) (tab_nil)))) _ _ h
  · exact (Ans.no_val h).elim

def spec_TableOk.b {R : Type} (ret : Bool → Option R) (j0 : Bool → (List T) → Int → Int → Bool → (List T) → Option R) (k : Nat) (a0_0z : Bool) (a0_0 : List T) : Option R :=
  j0 a0_0z a0_0 ((a0_0).length : Int) 0 a0_0z a0_0
def spec_TableOk.l0b {R : Type} (ret : Bool → Option R) (j0 : Bool → (List T) → Int → Int → Bool → (List T) → Option R) (k : Nat) (x6z : Bool) (x6 : List T) (x7 x8 : Int) (c1_0z : Bool) (c1_0 : List T) : Option R :=
  cond (decide (x8 < x7)) (cond (decide (0 ≤ x8)) (cond (decide (x8 < ((x6).length : Int))) ((spec_l01In.f k (((((x6).getD (x8).toNat .bad).cells.getD 0 .bad)).toInt) 1 1099511627776).bind fun t0 => cond (!t0) (ret false) ((spec_l01In.f k ((((((x6).getD (x8).toNat .bad).cells.getD 1 .bad)).toNums).length : Int) 1 64).bind fun t1 => cond (!t1) (ret false) (j0 x6z x6 x7 (wrap64 (x8 + 1)) c1_0z c1_0))) (none)) (none)) ((spec_l02Signers.f k ((c1_0).length : Int)).bind fun t0 => ret t0)
def spec_TableOk.l0 : Nat → Bool → (List T) → Int → Int → Bool → (List T) → Option Bool
  | 0, _, _, _, _, _, _ => none
  | k + 1, x6z, x6, x7, x8, c1_0z, c1_0 => spec_TableOk.l0b some (spec_TableOk.l0 k) k x6z x6 x7 x8 c1_0z c1_0
def spec_TableOk.f : Nat → Bool → (List T) → Option Bool
  | 0, _, _ => none
  | k + 1, a0_0z, a0_0 => spec_TableOk.b some (spec_TableOk.l0 k) k a0_0z a0_0
def spec_TableOk.enc (r : Bool) : Res := ⟨[.vals false [((.bool r), true)]], []⟩
def spec_TableOk.ans (k : Nat) : List Arg → Ans
  | [.v (.agg [(.sl 85 a0_0z a0_0)])] => ⟨spec_TableOk.f k a0_0z a0_0, spec_TableOk.enc⟩
  | _ => Ans.no
def spec_TableOk.Cs (k : Nat) : CallSem := tab [(67, spec_l02Signers.ans k), (68, spec_l01In.ans k)]
def spec_TableOk.cuts : List (Nat × Keep) := [(26, ⟨[(1, some []), (6, some []), (7, some []), (8, some [])], [(1, [some []])]⟩)]
noncomputable def spec_TableOk.K0 : List Fr := framesAt [true, false, true, false] (bodyOf Tryz.f48 spec_TableOk.cuts) []
def spec_TableOk.N0 (x6z : Bool) (x6 : List T) (x7 x8 : Int) (c1_0z : Bool) (c1_0 : List T) : St := stOf 28 28 1 [(1, .bp 1 0), (6, .val ⟨(.sl 85 x6z x6), [], false, none⟩), (7, .val (V.s (.int .i64 x7))), (8, .val (V.s (.int .i64 x8)))] [(1, .cells [⟨(.sl 85 c1_0z c1_0), [], false, none⟩])]
theorem spec_TableOk.s0 (k : Nat) (G : List Fr → St → Option Res) (a0_0z : Bool) (a0_0 : List T) (yx6z : Bool) (yx6 : List T) (yx7 yx8 : Int) (yc1_0z : Bool) (yc1_0 : List T) : resume Tryz.prog (spec_TableOk.Cs k) G (finish Tryz.prog [] Tryz.f48 [.v (.agg [(.sl 85 a0_0z a0_0)])]) 100000 spec_TableOk.K0 (spec_TableOk.N0 yx6z yx6 yx7 yx8 yc1_0z yc1_0) = spec_TableOk.l0b (fun r => some (spec_TableOk.enc r)) (fun x6z x6 x7 x8 c1_0z c1_0 => G spec_TableOk.K0 (spec_TableOk.N0 x6z x6 x7 x8 c1_0z c1_0)) k yx6z yx6 yx7 yx8 yc1_0z yc1_0 := by kernel_rfl
theorem spec_TableOk.bn {R R' : Type} (e : R → R') (ret : Bool → Option R) (j0 : Bool → (List T) → Int → Int → Bool → (List T) → Option R) (k : Nat) (a0_0z : Bool) (a0_0 : List T) : spec_TableOk.b (fun r => (ret r).map e) (fun x6z x6 x7 x8 c1_0z c1_0 => (j0 x6z x6 x7 x8 c1_0z c1_0).map e) k a0_0z a0_0 = (spec_TableOk.b ret j0 k a0_0z a0_0).map e := by
  unfold spec_TableOk.b
  repeat' first | with_reducible refine nat_cond ?_ ?_ | with_reducible refine nat_bind fun _ => ?_ | rfl
theorem spec_TableOk.l0n {R R' : Type} (e : R → R') (ret : Bool → Option R) (j0 : Bool → (List T) → Int → Int → Bool → (List T) → Option R) (k : Nat) (x6z : Bool) (x6 : List T) (x7 x8 : Int) (c1_0z : Bool) (c1_0 : List T) : spec_TableOk.l0b (fun r => (ret r).map e) (fun x6z x6 x7 x8 c1_0z c1_0 => (j0 x6z x6 x7 x8 c1_0z c1_0).map e) k x6z x6 x7 x8 c1_0z c1_0 = (spec_TableOk.l0b ret j0 k x6z x6 x7 x8 c1_0z c1_0).map e := by
  unfold spec_TableOk.l0b
  repeat' first | with_reducible refine nat_cond ?_ ?_ | with_reducible refine nat_bind fun _ => ?_ | rfl
theorem spec_TableOk.rq (a0_0z : Bool) (a0_0 : List T) : ∀ k, (∀ (x6z : Bool) (x6 : List T) (x7 x8 : Int) (c1_0z : Bool) (c1_0 : List T), rounds Tryz.prog spec_TableOk.Cs (finish Tryz.prog [] Tryz.f48 [.v (.agg [(.sl 85 a0_0z a0_0)])]) 100000 k spec_TableOk.K0 (spec_TableOk.N0 x6z x6 x7 x8 c1_0z c1_0) = (spec_TableOk.l0 k x6z x6 x7 x8 c1_0z c1_0).map spec_TableOk.enc)
  | 0 => fun _ _ _ _ _ _ => rfl
  | k + 1 => by
    have ih := spec_TableOk.rq a0_0z a0_0 k
    refine fun _ _ _ _ _ _ => ?_
    · refine (spec_TableOk.s0 k _ a0_0z a0_0 _ _ _ _ _ _).trans (Eq.trans ?_ (spec_TableOk.l0n spec_TableOk.enc some (spec_TableOk.l0 k) k _ _ _ _ _ _))
      simp only [ih, Option.map_some]
theorem spec_TableOk.eq (k : Nat) (a0_0z : Bool) (a0_0 : List T) : answer Tryz.prog spec_TableOk.Cs 100000 spec_TableOk.cuts [] Tryz.f48 (k + 1) [.v (.agg [(.sl 85 a0_0z a0_0)])] = (spec_TableOk.f (k + 1) a0_0z a0_0).map spec_TableOk.enc := by
  have ih := spec_TableOk.rq a0_0z a0_0 k
  refine Eq.trans (b := spec_TableOk.b (fun r => some (spec_TableOk.enc r)) (fun x6z x6 x7 x8 c1_0z c1_0 => rounds Tryz.prog spec_TableOk.Cs (finish Tryz.prog [] Tryz.f48 [.v (.agg [(.sl 85 a0_0z a0_0)])]) 100000 k spec_TableOk.K0 (spec_TableOk.N0 x6z x6 x7 x8 c1_0z c1_0)) k a0_0z a0_0) (by kernel_rfl) (Eq.trans ?_ (spec_TableOk.bn spec_TableOk.enc some (spec_TableOk.l0 k) k a0_0z a0_0))
  simp only [ih, Option.map_some]
theorem spec_TableOk.sound (k : Nat) : SoundF Tryz.prog 48 (fun a => (spec_TableOk.ans k a).val) := by
  refine sound_plain (fun args res h => ?_) (fun t n => rfl)
  unfold spec_TableOk.ans at h
  dsimp only at h
  split at h
  · cases k with
    | zero => cases h
    | succ k =>
      unfold Ans.val at h
      rw [← spec_TableOk.eq] at h
      exact answer_sound mixed Tryz.func48 _ _ _ (k + 1) (fun j _ => tab_sound (tab_cons (spec_l02Signers.sound j) (tab_cons (spec_l01In.sound j) (tab_nil)))) _ _ h
  · exact (Ans.no_val h).elim

def spec_l23Goes.b {R : Type} (ret : Bool → Option R) (k : Nat) (a0_0 a0_1 : Int) (a0_2 a0_3 a0_4 : Int) (a1_0z : Bool) (a1_0 : List T) : Option R :=
  (spec_LimitsOk.f k a0_0 a0_1 a0_2 a0_3 a0_4).bind fun t0 => cond t0 ((spec_TableOk.f k a1_0z a1_0).bind fun t1 => cond t1 (ret (decide (a0_0 = ((a1_0).length : Int)))) (ret false)) (ret false)
def spec_l23Goes.f : Nat → Int → Int → Int → Int → Int → Bool → (List T) → Option Bool
  | 0, _, _, _, _, _, _, _ => none
  | k + 1, a0_0, a0_1, a0_2, a0_3, a0_4, a1_0z, a1_0 => spec_l23Goes.b some k a0_0 a0_1 a0_2 a0_3 a0_4 a1_0z a1_0
def spec_l23Goes.enc (r : Bool) : Res := ⟨[.vals false [((.bool r), true)]], []⟩
def spec_l23Goes.ans (k : Nat) : List Arg → Ans
  | [.v (.agg [(.int .i64 a0_0), (.int .i64 a0_1), (.int .i64 a0_2), (.int .i64 a0_3), (.int .i64 a0_4)]), .v (.agg [(.sl 85 a1_0z a1_0)])] => ⟨spec_l23Goes.f k a0_0 a0_1 a0_2 a0_3 a0_4 a1_0z a1_0, spec_l23Goes.enc⟩
  | _ => Ans.no
def spec_l23Goes.Cs (k : Nat) : CallSem := tab [(47, spec_LimitsOk.ans k), (48, spec_TableOk.ans k)]
theorem spec_l23Goes.eq (k : Nat) (a0_0 a0_1 : Int) (a0_2 a0_3 a0_4 : Int) (a1_0z : Bool) (a1_0 : List T) : answer Tryz.prog spec_l23Goes.Cs 100000 [] [] Tryz.f23 (k + 1) [.v (.agg [(.int .i64 a0_0), (.int .i64 a0_1), (.int .i64 a0_2), (.int .i64 a0_3), (.int .i64 a0_4)]), .v (.agg [(.sl 85 a1_0z a1_0)])] = (spec_l23Goes.f (k + 1) a0_0 a0_1 a0_2 a0_3 a0_4 a1_0z a1_0).map spec_l23Goes.enc := by
  refine Eq.trans (b := spec_l23Goes.b (fun r => some (spec_l23Goes.enc r)) k a0_0 a0_1 a0_2 a0_3 a0_4 a1_0z a1_0) (by kernel_rfl) ?_
  show _ = (spec_l23Goes.b some k a0_0 a0_1 a0_2 a0_3 a0_4 a1_0z a1_0).map spec_l23Goes.enc
  unfold spec_l23Goes.b
  repeat' first | with_reducible refine nat_cond ?_ ?_ | with_reducible refine nat_bind fun _ => ?_ | rfl
theorem spec_l23Goes.sound (k : Nat) : SoundF Tryz.prog 23 (fun a => (spec_l23Goes.ans k a).val) := by
  refine sound_plain (fun args res h => ?_) (fun t n => rfl)
  unfold spec_l23Goes.ans at h
  dsimp only at h
  split at h
  · cases k with
    | zero => cases h
    | succ k =>
      unfold Ans.val at h
      rw [← spec_l23Goes.eq] at h
      exact answer_sound mixed Tryz.func23 _ _ _ (k + 1) (fun j _ => tab_sound (tab_cons (spec_LimitsOk.sound j) (tab_cons (spec_TableOk.sound j) (tab_nil)))) _ _ h
  · exact (Ans.no_val h).elim

def spec_l01Copy.b {R : Type} (ret : Bool × List Int → Option R) (k : Nat) (a0z : Bool) (a0 : List Int) : Option R :=
  cond (decide (0 + (a0).length < 140737488355328)) (ret (((a0).isEmpty && false), a0)) (none)
def spec_l01Copy.f : Nat → Bool → (List Int) → Option (Bool × List Int)
  | 0, _, _ => none
  | k + 1, a0z, a0 => spec_l01Copy.b some k a0z a0
def spec_l01Copy.enc (r : Bool × List Int) : Res := ⟨[.vals false [((.nums 5 .u8 r.1 r.2), true)]], []⟩
def spec_l01Copy.ans (k : Nat) : List Arg → Ans
  | [.v (.nums 5 .u8 a0z a0)] => ⟨spec_l01Copy.f k a0z a0, spec_l01Copy.enc⟩
  | _ => Ans.no
def spec_l01Copy.Cs (k : Nat) : CallSem := tab []
theorem spec_l01Copy.eq (k : Nat) (a0z : Bool) (a0 : List Int) : answer Tryz.prog spec_l01Copy.Cs 100000 [] [] Tryz.f51 (k + 1) [.v (.nums 5 .u8 a0z a0)] = (spec_l01Copy.f (k + 1) a0z a0).map spec_l01Copy.enc := by
  refine Eq.trans (b := spec_l01Copy.b (fun r => some (spec_l01Copy.enc r)) k a0z a0) (by kernel_rfl) ?_
  show _ = (spec_l01Copy.b some k a0z a0).map spec_l01Copy.enc
  unfold spec_l01Copy.b
  repeat' first | with_reducible refine nat_cond ?_ ?_ | with_reducible refine nat_bind fun _ => ?_ | rfl
theorem spec_l01Copy.sound (k : Nat) : SoundF Tryz.prog 51 (fun a => (spec_l01Copy.ans k a).val) := by
  refine sound_plain (fun args res h => ?_) (fun t n => rfl)
  unfold spec_l01Copy.ans at h
  dsimp only at h
  split at h
  · cases k with
    | zero => cases h
    | succ k =>
      unfold Ans.val at h
      rw [← spec_l01Copy.eq] at h
      exact answer_sound mixed Tryz.func51 _ _ _ (k + 1) (fun j _ => tab_sound (tab_nil)) _ _ h
  · exact (Ans.no_val h).elim

def spec_BitsSize.b {R : Type} (ret : Int → Option R) (k : Nat) (a0 : Int) : Option R :=
  cond (decide (a0 < 1)) (ret 0) (ret (wrap64 ((wrap64 (Int.tdiv (wrap64 (a0 - 1)) 8)) + 1)))
def spec_BitsSize.f : Nat → Int → Option Int
  | 0, _ => none
  | k + 1, a0 => spec_BitsSize.b some k a0
def spec_BitsSize.enc (r : Int) : Res := ⟨[.vals false [((.int .i64 r), true)]], []⟩
def spec_BitsSize.ans (k : Nat) : List Arg → Ans
  | [.v (.int .i64 a0)] => ⟨spec_BitsSize.f k a0, spec_BitsSize.enc⟩
  | _ => Ans.no
def spec_BitsSize.Cs (k : Nat) : CallSem := tab []
theorem spec_BitsSize.eq (k : Nat) (a0 : Int) : answer Tryz.prog spec_BitsSize.Cs 100000 [] [] Tryz.f94 (k + 1) [.v (.int .i64 a0)] = (spec_BitsSize.f (k + 1) a0).map spec_BitsSize.enc := by
  refine Eq.trans (b := spec_BitsSize.b (fun r => some (spec_BitsSize.enc r)) k a0) (by kernel_rfl) ?_
  show _ = (spec_BitsSize.b some k a0).map spec_BitsSize.enc
  unfold spec_BitsSize.b
  repeat' first | with_reducible refine nat_cond ?_ ?_ | with_reducible refine nat_bind fun _ => ?_ | rfl
theorem spec_BitsSize.sound (k : Nat) : SoundF Tryz.prog 94 (fun a => (spec_BitsSize.ans k a).val) := by
  refine sound_plain (fun args res h => ?_) (fun t n => rfl)
  unfold spec_BitsSize.ans at h
  dsimp only at h
  split at h
  · cases k with
    | zero => cases h
    | succ k =>
      unfold Ans.val at h
      rw [← spec_BitsSize.eq] at h
      exact answer_sound mixed Tryz.func94 _ _ _ (k + 1) (fun j _ => tab_sound (tab_nil)) _ _ h
  · exact (Ans.no_val h).elim

def spec_BitsNew.b {R : Type} (ret : Bool × List Int → Option R) (k : Nat) (a0 : Int) : Option R :=
  (spec_l02Signers.f k a0).bind fun t0 => cond (!t0) (ret (true, ([] : List Int))) ((spec_BitsSize.f k a0).bind fun t1 => cond (decide (t1 = t1)) (cond (decide (0 ≤ t1)) (cond (decide ((t1).toNat < 140737488355328)) (ret (false, (List.replicate (t1).toNat (0 : Int)))) (none)) (none)) (none))
def spec_BitsNew.f : Nat → Int → Option (Bool × List Int)
  | 0, _ => none
  | k + 1, a0 => spec_BitsNew.b some k a0
def spec_BitsNew.enc (r : Bool × List Int) : Res := ⟨[.vals false [((.nums 5 .u8 r.1 r.2), true)]], []⟩
def spec_BitsNew.ans (k : Nat) : List Arg → Ans
  | [.v (.int .i64 a0)] => ⟨spec_BitsNew.f k a0, spec_BitsNew.enc⟩
  | _ => Ans.no
def spec_BitsNew.Cs (k : Nat) : CallSem := tab [(67, spec_l02Signers.ans k), (94, spec_BitsSize.ans k)]
theorem spec_BitsNew.eq (k : Nat) (a0 : Int) : answer Tryz.prog spec_BitsNew.Cs 100000 [] [] Tryz.f71 (k + 1) [.v (.int .i64 a0)] = (spec_BitsNew.f (k + 1) a0).map spec_BitsNew.enc := by
  refine Eq.trans (b := spec_BitsNew.b (fun r => some (spec_BitsNew.enc r)) k a0) (by kernel_rfl) ?_
  show _ = (spec_BitsNew.b some k a0).map spec_BitsNew.enc
  unfold spec_BitsNew.b
  repeat' first | with_reducible refine nat_cond ?_ ?_ | with_reducible refine nat_bind fun _ => ?_ | rfl
theorem spec_BitsNew.sound (k : Nat) : SoundF Tryz.prog 71 (fun a => (spec_BitsNew.ans k a).val) := by
  refine sound_plain (fun args res h => ?_) (fun t n => rfl)
  unfold spec_BitsNew.ans at h
  dsimp only at h
  split at h
  · cases k with
    | zero => cases h
    | succ k =>
      unfold Ans.val at h
      rw [← spec_BitsNew.eq] at h
      exact answer_sound mixed Tryz.func71 _ _ _ (k + 1) (fun j _ => tab_sound (tab_cons (spec_l02Signers.sound j) (tab_cons (spec_BitsSize.sound j) (tab_nil)))) _ _ h
  · exact (Ans.no_val h).elim

def spec_BitsHas.b {R : Type} (ret : Bool → Option R) (k : Nat) (a0z : Bool) (a0 : List Int) (a1 : Int) : Option R :=
  cond (decide (a1 ≥ 0)) (cond (decide ((wrap64 (Int.tdiv a1 8)) < ((a0).length : Int))) (cond (decide (0 ≤ (wrap64 (Int.tdiv a1 8)))) (cond (decide ((wrap64 (Int.tdiv a1 8)) < ((a0).length : Int))) (cond (decide (0 ≤ (Int.tmod a1 8))) (ret (decide ((Int.tmod (shrI .i64 (wrap64 ((rdI a0 (wrap64 (Int.tdiv a1 8))))) (Int.tmod a1 8)) 2) = 1))) (none)) (none)) (none)) (ret false)) (ret false)
def spec_BitsHas.f : Nat → Bool → (List Int) → Int → Option Bool
  | 0, _, _, _ => none
  | k + 1, a0z, a0, a1 => spec_BitsHas.b some k a0z a0 a1
def spec_BitsHas.enc (r : Bool) : Res := ⟨[.vals false [((.bool r), true)]], []⟩
def spec_BitsHas.ans (k : Nat) : List Arg → Ans
  | [.v (.nums 5 .u8 a0z a0), .v (.int .i64 a1)] => ⟨spec_BitsHas.f k a0z a0 a1, spec_BitsHas.enc⟩
  | _ => Ans.no
def spec_BitsHas.Cs (k : Nat) : CallSem := tab []
theorem spec_BitsHas.eq (k : Nat) (a0z : Bool) (a0 : List Int) (a1 : Int) : answer Tryz.prog spec_BitsHas.Cs 100000 [] [] Tryz.f95 (k + 1) [.v (.nums 5 .u8 a0z a0), .v (.int .i64 a1)] = (spec_BitsHas.f (k + 1) a0z a0 a1).map spec_BitsHas.enc := by
  refine Eq.trans (b := spec_BitsHas.b (fun r => some (spec_BitsHas.enc r)) k a0z a0 a1) (by kernel_rfl) ?_
  show _ = (spec_BitsHas.b some k a0z a0 a1).map spec_BitsHas.enc
  unfold spec_BitsHas.b
  repeat' first | with_reducible refine nat_cond ?_ ?_ | with_reducible refine nat_bind fun _ => ?_ | rfl
theorem spec_BitsHas.sound (k : Nat) : SoundF Tryz.prog 95 (fun a => (spec_BitsHas.ans k a).val) := by
  refine sound_plain (fun args res h => ?_) (fun t n => rfl)
  unfold spec_BitsHas.ans at h
  dsimp only at h
  split at h
  · cases k with
    | zero => cases h
    | succ k =>
      unfold Ans.val at h
      rw [← spec_BitsHas.eq] at h
      exact answer_sound mixed Tryz.func95 _ _ _ (k + 1) (fun j _ => tab_sound (tab_nil)) _ _ h
  · exact (Ans.no_val h).elim

def spec_BitsList.b {R : Type} (ret : Bool × List Int → Option R) (j0 : Bool → (List Int) → (List Int) → Int → Option R) (k : Nat) (a0z : Bool) (a0 : List Int) : Option R :=
  j0 a0z a0 ([] : List Int) 0
def spec_BitsList.l0b {R : Type} (ret : Bool × List Int → Option R) (j0 : Bool → (List Int) → (List Int) → Int → Option R) (k : Nat) (x0z : Bool) (x0 x3 : List Int) (x4 : Int) : Option R :=
  cond (decide (x4 < (wrap64 ((8 : Int) * ((x0).length : Int))))) ((spec_BitsHas.f k x0z x0 x4).bind fun t0 => cond t0 (cond (decide ((x3).length + 1 < 17592186044416)) (j0 x0z x0 (x3 ++ ([x4] : List Int)) (wrap64 (x4 + 1))) (none)) (j0 x0z x0 x3 (wrap64 (x4 + 1)))) (ret (false, x3))
def spec_BitsList.l0 : Nat → Bool → (List Int) → (List Int) → Int → Option (Bool × List Int)
  | 0, _, _, _, _ => none
  | k + 1, x0z, x0, x3, x4 => spec_BitsList.l0b some (spec_BitsList.l0 k) k x0z x0 x3 x4
def spec_BitsList.f : Nat → Bool → (List Int) → Option (Bool × List Int)
  | 0, _, _ => none
  | k + 1, a0z, a0 => spec_BitsList.b some (spec_BitsList.l0 k) k a0z a0
def spec_BitsList.enc (r : Bool × List Int) : Res := ⟨[.vals false [((.nums 3 .i64 r.1 r.2), true)]], []⟩
def spec_BitsList.ans (k : Nat) : List Arg → Ans
  | [.v (.nums 5 .u8 a0z a0)] => ⟨spec_BitsList.f k a0z a0, spec_BitsList.enc⟩
  | _ => Ans.no
def spec_BitsList.Cs (k : Nat) : CallSem := tab [(95, spec_BitsHas.ans k)]
def spec_BitsList.cuts : List (Nat × Keep) := [(58, ⟨[(0, some []), (3, none), (4, some [])], []⟩)]
noncomputable def spec_BitsList.K0 : List Fr := framesAt [true, true, false, true, false] (bodyOf Tryz.f73 spec_BitsList.cuts) []
def spec_BitsList.N0 (x0z : Bool) (x0 x3 : List Int) (x4 : Int) : St := stOf 21 21 1 [(0, .val ⟨(.nums 5 .u8 x0z x0), [], false, none⟩), (3, .val ⟨(.nums 3 .i64 false x3), [.l 3 0], true, some (.l 3 0)⟩), (4, .val (V.s (.int .i64 x4)))] []
theorem spec_BitsList.s0 (k : Nat) (G : List Fr → St → Option Res) (a0z : Bool) (a0 : List Int) (yx0z : Bool) (yx0 yx3 : List Int) (yx4 : Int) : resume Tryz.prog (spec_BitsList.Cs k) G (finish Tryz.prog [] Tryz.f73 [.v (.nums 5 .u8 a0z a0)]) 100000 spec_BitsList.K0 (spec_BitsList.N0 yx0z yx0 yx3 yx4) = spec_BitsList.l0b (fun r => some (spec_BitsList.enc r)) (fun x0z x0 x3 x4 => G spec_BitsList.K0 (spec_BitsList.N0 x0z x0 x3 x4)) k yx0z yx0 yx3 yx4 := by kernel_rfl
theorem spec_BitsList.bn {R R' : Type} (e : R → R') (ret : Bool × List Int → Option R) (j0 : Bool → (List Int) → (List Int) → Int → Option R) (k : Nat) (a0z : Bool) (a0 : List Int) : spec_BitsList.b (fun r => (ret r).map e) (fun x0z x0 x3 x4 => (j0 x0z x0 x3 x4).map e) k a0z a0 = (spec_BitsList.b ret j0 k a0z a0).map e := by
  unfold spec_BitsList.b
  repeat' first | with_reducible refine nat_cond ?_ ?_ | with_reducible refine nat_bind fun _ => ?_ | rfl
theorem spec_BitsList.l0n {R R' : Type} (e : R → R') (ret : Bool × List Int → Option R) (j0 : Bool → (List Int) → (List Int) → Int → Option R) (k : Nat) (x0z : Bool) (x0 x3 : List Int) (x4 : Int) : spec_BitsList.l0b (fun r => (ret r).map e) (fun x0z x0 x3 x4 => (j0 x0z x0 x3 x4).map e) k x0z x0 x3 x4 = (spec_BitsList.l0b ret j0 k x0z x0 x3 x4).map e := by
  unfold spec_BitsList.l0b
  repeat' first | with_reducible refine nat_cond ?_ ?_ | with_reducible refine nat_bind fun _ => ?_ | rfl
theorem spec_BitsList.rq (a0z : Bool) (a0 : List Int) : ∀ k, (∀ (x0z : Bool) (x0 x3 : List Int) (x4 : Int), rounds Tryz.prog spec_BitsList.Cs (finish Tryz.prog [] Tryz.f73 [.v (.nums 5 .u8 a0z a0)]) 100000 k spec_BitsList.K0 (spec_BitsList.N0 x0z x0 x3 x4) = (spec_BitsList.l0 k x0z x0 x3 x4).map spec_BitsList.enc)
  | 0 => fun _ _ _ _ => rfl
  | k + 1 => by
    have ih := spec_BitsList.rq a0z a0 k
    refine fun _ _ _ _ => ?_
    · refine (spec_BitsList.s0 k _ a0z a0 _ _ _ _).trans (Eq.trans ?_ (spec_BitsList.l0n spec_BitsList.enc some (spec_BitsList.l0 k) k _ _ _ _))
      simp only [ih, Option.map_some]
theorem spec_BitsList.eq (k : Nat) (a0z : Bool) (a0 : List Int) : answer Tryz.prog spec_BitsList.Cs 100000 spec_BitsList.cuts [] Tryz.f73 (k + 1) [.v (.nums 5 .u8 a0z a0)] = (spec_BitsList.f (k + 1) a0z a0).map spec_BitsList.enc := by
  have ih := spec_BitsList.rq a0z a0 k
  refine Eq.trans (b := spec_BitsList.b (fun r => some (spec_BitsList.enc r)) (fun x0z x0 x3 x4 => rounds Tryz.prog spec_BitsList.Cs (finish Tryz.prog [] Tryz.f73 [.v (.nums 5 .u8 a0z a0)]) 100000 k spec_BitsList.K0 (spec_BitsList.N0 x0z x0 x3 x4)) k a0z a0) (by kernel_rfl) (Eq.trans ?_ (spec_BitsList.bn spec_BitsList.enc some (spec_BitsList.l0 k) k a0z a0))
  simp only [ih, Option.map_some]
theorem spec_BitsList.sound (k : Nat) : SoundF Tryz.prog 73 (fun a => (spec_BitsList.ans k a).val) := by
  refine sound_plain (fun args res h => ?_) (fun t n => rfl)
  unfold spec_BitsList.ans at h
  dsimp only at h
  split at h
  · cases k with
    | zero => cases h
    | succ k =>
      unfold Ans.val at h
      rw [← spec_BitsList.eq] at h
      exact answer_sound mixed Tryz.func73 _ _ _ (k + 1) (fun j _ => tab_sound (tab_cons (spec_BitsHas.sound j) (tab_nil))) _ _ h
  · exact (Ans.no_val h).elim

def spec_BitsOk.b {R : Type} (ret : Bool → Option R) (k : Nat) (a0z : Bool) (a0 : List Int) (a1 : Int) : Option R :=
  (spec_l02Signers.f k a1).bind fun t0 => cond (!t0) (ret false) ((spec_BitsSize.f k a1).bind fun t1 => cond (!(decide (((a0).length : Int) = t1))) (ret false) ((spec_BitsList.f k a0z a0).bind fun t2 => cond (decide (((t2.2).length : Int) = 0)) (ret true) (cond (decide (0 ≤ (wrap64 (((t2.2).length : Int) - 1)))) (cond (decide ((wrap64 (((t2.2).length : Int) - 1)) < ((t2.2).length : Int))) (ret (decide ((rdI t2.2 (wrap64 (((t2.2).length : Int) - 1))) < a1))) (none)) (none))))
def spec_BitsOk.f : Nat → Bool → (List Int) → Int → Option Bool
  | 0, _, _, _ => none
  | k + 1, a0z, a0, a1 => spec_BitsOk.b some k a0z a0 a1
def spec_BitsOk.enc (r : Bool) : Res := ⟨[.vals false [((.bool r), true)]], []⟩
def spec_BitsOk.ans (k : Nat) : List Arg → Ans
  | [.v (.nums 5 .u8 a0z a0), .v (.int .i64 a1)] => ⟨spec_BitsOk.f k a0z a0 a1, spec_BitsOk.enc⟩
  | _ => Ans.no
def spec_BitsOk.Cs (k : Nat) : CallSem := tab [(67, spec_l02Signers.ans k), (94, spec_BitsSize.ans k), (73, spec_BitsList.ans k)]
theorem spec_BitsOk.eq (k : Nat) (a0z : Bool) (a0 : List Int) (a1 : Int) : answer Tryz.prog spec_BitsOk.Cs 100000 [] [] Tryz.f76 (k + 1) [.v (.nums 5 .u8 a0z a0), .v (.int .i64 a1)] = (spec_BitsOk.f (k + 1) a0z a0 a1).map spec_BitsOk.enc := by
  refine Eq.trans (b := spec_BitsOk.b (fun r => some (spec_BitsOk.enc r)) k a0z a0 a1) (by kernel_rfl) ?_
  show _ = (spec_BitsOk.b some k a0z a0 a1).map spec_BitsOk.enc
  unfold spec_BitsOk.b
  repeat' first | with_reducible refine nat_cond ?_ ?_ | with_reducible refine nat_bind fun _ => ?_ | rfl
theorem spec_BitsOk.sound (k : Nat) : SoundF Tryz.prog 76 (fun a => (spec_BitsOk.ans k a).val) := by
  refine sound_plain (fun args res h => ?_) (fun t n => rfl)
  unfold spec_BitsOk.ans at h
  dsimp only at h
  split at h
  · cases k with
    | zero => cases h
    | succ k =>
      unfold Ans.val at h
      rw [← spec_BitsOk.eq] at h
      exact answer_sound mixed Tryz.func76 _ _ _ (k + 1) (fun j _ => tab_sound (tab_cons (spec_l02Signers.sound j) (tab_cons (spec_BitsSize.sound j) (tab_cons (spec_BitsList.sound j) (tab_nil))))) _ _ h
  · exact (Ans.no_val h).elim

def spec_BitsSet.b {R : Type} (ret : Bool × (List Int) × Bool → Option R) (k : Nat) (a0z : Bool) (a0 : List Int) (a1 a2 : Int) (a3 : Bool) : Option R :=
  (spec_BitsOk.f k a0z a0 a1).bind fun t0 => cond (!t0) (ret (true, ([] : List Int), false)) ((spec_l01In.f k a2 0 (wrap64 (a1 - 1))).bind fun t1 => cond (!t1) (ret (true, ([] : List Int), false)) ((spec_l01Copy.f k a0z a0).bind fun t2 => (spec_BitsHas.f k a0z a0 a2).bind fun t3 => cond (!(t3 == a3)) (cond (decide (0 ≤ (wrap64 (Int.tdiv a2 8)))) (cond (decide ((wrap64 (Int.tdiv a2 8)) < ((t2.2).length : Int))) (cond (decide (0 ≤ (Int.tmod a2 8))) (cond (decide (0 ≤ (wrap64 (Int.tdiv a2 8)))) (cond (decide ((wrap64 (Int.tdiv a2 8)) < ((t2.2).length : Int))) (ret (t2.1, ((t2.2).set ((wrap64 (Int.tdiv a2 8))).toNat (Go.bits .xor .u8 (rdI t2.2 (wrap64 (Int.tdiv a2 8))) (shlI .u8 1 (Int.tmod a2 8)))), true)) (none)) (none)) (none)) (none)) (none)) (ret (t2.1, t2.2, true))))
def spec_BitsSet.f : Nat → Bool → (List Int) → Int → Int → Bool → Option (Bool × (List Int) × Bool)
  | 0, _, _, _, _, _ => none
  | k + 1, a0z, a0, a1, a2, a3 => spec_BitsSet.b some k a0z a0 a1 a2 a3
def spec_BitsSet.enc (r : Bool × (List Int) × Bool) : Res := ⟨[.vals false [((.nums 5 .u8 r.1 r.2.1), true)], .vals false [((.bool r.2.2), true)]], []⟩
def spec_BitsSet.ans (k : Nat) : List Arg → Ans
  | [.v (.nums 5 .u8 a0z a0), .v (.int .i64 a1), .v (.int .i64 a2), .v (.bool a3)] => ⟨spec_BitsSet.f k a0z a0 a1 a2 a3, spec_BitsSet.enc⟩
  | _ => Ans.no
def spec_BitsSet.Cs (k : Nat) : CallSem := tab [(68, spec_l01In.ans k), (51, spec_l01Copy.ans k), (76, spec_BitsOk.ans k), (95, spec_BitsHas.ans k)]
theorem spec_BitsSet.eq (k : Nat) (a0z : Bool) (a0 : List Int) (a1 a2 : Int) (a3 : Bool) : answer Tryz.prog spec_BitsSet.Cs 100000 [] [] Tryz.f72 (k + 1) [.v (.nums 5 .u8 a0z a0), .v (.int .i64 a1), .v (.int .i64 a2), .v (.bool a3)] = (spec_BitsSet.f (k + 1) a0z a0 a1 a2 a3).map spec_BitsSet.enc := by
  refine Eq.trans (b := spec_BitsSet.b (fun r => some (spec_BitsSet.enc r)) k a0z a0 a1 a2 a3) (by kernel_rfl) ?_
  show _ = (spec_BitsSet.b some k a0z a0 a1 a2 a3).map spec_BitsSet.enc
  unfold spec_BitsSet.b
  repeat' first | with_reducible refine nat_cond ?_ ?_ | with_reducible refine nat_bind fun _ => ?_ | rfl
theorem spec_BitsSet.sound (k : Nat) : SoundF Tryz.prog 72 (fun a => (spec_BitsSet.ans k a).val) := by
  refine sound_plain (fun args res h => ?_) (fun t n => rfl)
  unfold spec_BitsSet.ans at h
  dsimp only at h
  split at h
  · cases k with
    | zero => cases h
    | succ k =>
      unfold Ans.val at h
      rw [← spec_BitsSet.eq] at h
      exact answer_sound mixed Tryz.func72 _ _ _ (k + 1) (fun j _ => tab_sound (tab_cons (spec_l01In.sound j) (tab_cons (spec_l01Copy.sound j) (tab_cons (spec_BitsOk.sound j) (tab_cons (spec_BitsHas.sound j) (tab_nil)))))) _ _ h
  · exact (Ans.no_val h).elim

def spec_BitsOf.b {R : Type} (ret : Bool × (List Int) × Bool → Option R) (j0 : Int → Bool → (List Int) → Bool → Bool → (List Int) → Int → Int → Option R) (k : Nat) (a0z : Bool) (a0 : List Int) (a1 : Int) : Option R :=
  (spec_BitsNew.f k a1).bind fun t0 => (spec_l02Signers.f k a1).bind fun t1 => j0 a1 t0.1 t0.2 t1 a0z a0 ((a0).length : Int) 0
def spec_BitsOf.l0b {R : Type} (ret : Bool × (List Int) × Bool → Option R) (j0 : Int → Bool → (List Int) → Bool → Bool → (List Int) → Int → Int → Option R) (k : Nat) (x1 : Int) (x6z : Bool) (x6 : List Int) (x7 x16z : Bool) (x16 : List Int) (x17 x18 : Int) : Option R :=
  cond (decide (x18 < x17)) (cond (decide (0 ≤ x18)) (cond (decide (x18 < ((x16).length : Int))) ((spec_BitsSet.f k x6z x6 x1 (rdI x16 x18) true).bind fun t0 => cond x7 (j0 x1 t0.1 t0.2.1 t0.2.2 x16z x16 x17 (wrap64 (x18 + 1))) (j0 x1 t0.1 t0.2.1 false x16z x16 x17 (wrap64 (x18 + 1)))) (none)) (none)) (cond (!x7) (ret (true, ([] : List Int), false)) (ret (x6z, x6, true)))
def spec_BitsOf.l0 : Nat → Int → Bool → (List Int) → Bool → Bool → (List Int) → Int → Int → Option (Bool × (List Int) × Bool)
  | 0, _, _, _, _, _, _, _, _ => none
  | k + 1, x1, x6z, x6, x7, x16z, x16, x17, x18 => spec_BitsOf.l0b some (spec_BitsOf.l0 k) k x1 x6z x6 x7 x16z x16 x17 x18
def spec_BitsOf.f : Nat → Bool → (List Int) → Int → Option (Bool × (List Int) × Bool)
  | 0, _, _, _ => none
  | k + 1, a0z, a0, a1 => spec_BitsOf.b some (spec_BitsOf.l0 k) k a0z a0 a1
def spec_BitsOf.enc (r : Bool × (List Int) × Bool) : Res := ⟨[.vals false [((.nums 5 .u8 r.1 r.2.1), true)], .vals false [((.bool r.2.2), true)]], []⟩
def spec_BitsOf.ans (k : Nat) : List Arg → Ans
  | [.v (.nums 3 .i64 a0z a0), .v (.int .i64 a1)] => ⟨spec_BitsOf.f k a0z a0 a1, spec_BitsOf.enc⟩
  | _ => Ans.no
def spec_BitsOf.Cs (k : Nat) : CallSem := tab [(67, spec_l02Signers.ans k), (71, spec_BitsNew.ans k), (72, spec_BitsSet.ans k)]
def spec_BitsOf.cuts : List (Nat × Keep) := [(122, ⟨[(1, some []), (6, none), (7, some []), (16, some []), (17, some []), (18, some [])], []⟩)]
noncomputable def spec_BitsOf.K0 : List Fr := framesAt [true, true, true, false, true, false] (bodyOf Tryz.f52 spec_BitsOf.cuts) []
def spec_BitsOf.N0 (x1 : Int) (x6z : Bool) (x6 : List Int) (x7 x16z : Bool) (x16 : List Int) (x17 x18 : Int) : St := stOf 38 38 2 [(1, .val (V.s (.int .i64 x1))), (6, .val ⟨(.nums 5 .u8 x6z x6), [.l 6 0], true, some (.l 6 0)⟩), (7, .val (V.s (.bool x7))), (16, .val ⟨(.nums 3 .i64 x16z x16), [], false, none⟩), (17, .val (V.s (.int .i64 x17))), (18, .val (V.s (.int .i64 x18)))] []
theorem spec_BitsOf.s0 (k : Nat) (G : List Fr → St → Option Res) (a0z : Bool) (a0 : List Int) (a1 yx1 : Int) (yx6z : Bool) (yx6 : List Int) (yx7 yx16z : Bool) (yx16 : List Int) (yx17 yx18 : Int) : resume Tryz.prog (spec_BitsOf.Cs k) G (finish Tryz.prog [] Tryz.f52 [.v (.nums 3 .i64 a0z a0), .v (.int .i64 a1)]) 100000 spec_BitsOf.K0 (spec_BitsOf.N0 yx1 yx6z yx6 yx7 yx16z yx16 yx17 yx18) = spec_BitsOf.l0b (fun r => some (spec_BitsOf.enc r)) (fun x1 x6z x6 x7 x16z x16 x17 x18 => G spec_BitsOf.K0 (spec_BitsOf.N0 x1 x6z x6 x7 x16z x16 x17 x18)) k yx1 yx6z yx6 yx7 yx16z yx16 yx17 yx18 := by kernel_rfl
theorem spec_BitsOf.bn {R R' : Type} (e : R → R') (ret : Bool × (List Int) × Bool → Option R) (j0 : Int → Bool → (List Int) → Bool → Bool → (List Int) → Int → Int → Option R) (k : Nat) (a0z : Bool) (a0 : List Int) (a1 : Int) : spec_BitsOf.b (fun r => (ret r).map e) (fun x1 x6z x6 x7 x16z x16 x17 x18 => (j0 x1 x6z x6 x7 x16z x16 x17 x18).map e) k a0z a0 a1 = (spec_BitsOf.b ret j0 k a0z a0 a1).map e := by
  unfold spec_BitsOf.b
  repeat' first | with_reducible refine nat_cond ?_ ?_ | with_reducible refine nat_bind fun _ => ?_ | rfl
theorem spec_BitsOf.l0n {R R' : Type} (e : R → R') (ret : Bool × (List Int) × Bool → Option R) (j0 : Int → Bool → (List Int) → Bool → Bool → (List Int) → Int → Int → Option R) (k : Nat) (x1 : Int) (x6z : Bool) (x6 : List Int) (x7 x16z : Bool) (x16 : List Int) (x17 x18 : Int) : spec_BitsOf.l0b (fun r => (ret r).map e) (fun x1 x6z x6 x7 x16z x16 x17 x18 => (j0 x1 x6z x6 x7 x16z x16 x17 x18).map e) k x1 x6z x6 x7 x16z x16 x17 x18 = (spec_BitsOf.l0b ret j0 k x1 x6z x6 x7 x16z x16 x17 x18).map e := by
  unfold spec_BitsOf.l0b
  repeat' first | with_reducible refine nat_cond ?_ ?_ | with_reducible refine nat_bind fun _ => ?_ | rfl
theorem spec_BitsOf.rq (a0z : Bool) (a0 : List Int) (a1 : Int) : ∀ k, (∀ (x1 : Int) (x6z : Bool) (x6 : List Int) (x7 x16z : Bool) (x16 : List Int) (x17 x18 : Int), rounds Tryz.prog spec_BitsOf.Cs (finish Tryz.prog [] Tryz.f52 [.v (.nums 3 .i64 a0z a0), .v (.int .i64 a1)]) 100000 k spec_BitsOf.K0 (spec_BitsOf.N0 x1 x6z x6 x7 x16z x16 x17 x18) = (spec_BitsOf.l0 k x1 x6z x6 x7 x16z x16 x17 x18).map spec_BitsOf.enc)
  | 0 => fun _ _ _ _ _ _ _ _ => rfl
  | k + 1 => by
    have ih := spec_BitsOf.rq a0z a0 a1 k
    refine fun _ _ _ _ _ _ _ _ => ?_
    · refine (spec_BitsOf.s0 k _ a0z a0 a1 _ _ _ _ _ _ _ _).trans (Eq.trans ?_ (spec_BitsOf.l0n spec_BitsOf.enc some (spec_BitsOf.l0 k) k _ _ _ _ _ _ _ _))
      simp only [ih, Option.map_some]
theorem spec_BitsOf.eq (k : Nat) (a0z : Bool) (a0 : List Int) (a1 : Int) : answer Tryz.prog spec_BitsOf.Cs 100000 spec_BitsOf.cuts [] Tryz.f52 (k + 1) [.v (.nums 3 .i64 a0z a0), .v (.int .i64 a1)] = (spec_BitsOf.f (k + 1) a0z a0 a1).map spec_BitsOf.enc := by
  have ih := spec_BitsOf.rq a0z a0 a1 k
  refine Eq.trans (b := spec_BitsOf.b (fun r => some (spec_BitsOf.enc r)) (fun x1 x6z x6 x7 x16z x16 x17 x18 => rounds Tryz.prog spec_BitsOf.Cs (finish Tryz.prog [] Tryz.f52 [.v (.nums 3 .i64 a0z a0), .v (.int .i64 a1)]) 100000 k spec_BitsOf.K0 (spec_BitsOf.N0 x1 x6z x6 x7 x16z x16 x17 x18)) k a0z a0 a1) (by kernel_rfl) (Eq.trans ?_ (spec_BitsOf.bn spec_BitsOf.enc some (spec_BitsOf.l0 k) k a0z a0 a1))
  simp only [ih, Option.map_some]
theorem spec_BitsOf.sound (k : Nat) : SoundF Tryz.prog 52 (fun a => (spec_BitsOf.ans k a).val) := by
  refine sound_plain (fun args res h => ?_) (fun t n => rfl)
  unfold spec_BitsOf.ans at h
  dsimp only at h
  split at h
  · cases k with
    | zero => cases h
    | succ k =>
      unfold Ans.val at h
      rw [← spec_BitsOf.eq] at h
      exact answer_sound mixed Tryz.func52 _ _ _ (k + 1) (fun j _ => tab_sound (tab_cons (spec_l02Signers.sound j) (tab_cons (spec_BitsNew.sound j) (tab_cons (spec_BitsSet.sound j) (tab_nil))))) _ _ h
  · exact (Ans.no_val h).elim

def spec_QcVotes.b {R : Type} (ret : Bool × List T → Option R) (j0 : (List T) → Bool → (List Int) → Int → Int → Int → Int → Bool → (List Int) → Bool → (List Int) → Bool → (List T) → Option R) (k : Nat) (a0_0 a0_1 : Int) (a0_2z : Bool) (a0_2 : List Int) (a0_3z : Bool) (a0_3 : List Int) (a0_4z : Bool) (a0_4 : List T) : Option R :=
  (spec_BitsList.f k a0_3z a0_3).bind fun t0 => cond (!(decide (((t0.2).length : Int) = ((a0_4).length : Int)))) (ret (false, ([] : List T))) (j0 ([] : List T) t0.1 t0.2 ((t0.2).length : Int) 0 a0_0 a0_1 a0_2z a0_2 a0_3z a0_3 a0_4z a0_4)
def spec_QcVotes.l0b {R : Type} (ret : Bool × List T → Option R) (j0 : (List T) → Bool → (List Int) → Int → Int → Int → Int → Bool → (List Int) → Bool → (List Int) → Bool → (List T) → Option R) (k : Nat) (x3 : List T) (x18z : Bool) (x18 : List Int) (x19 x20 : Int) (c1_0 c1_1 : Int) (c1_2z : Bool) (c1_2 : List Int) (c1_3z : Bool) (c1_3 : List Int) (c1_4z : Bool) (c1_4 : List T) : Option R :=
  cond (decide (x20 < x19)) (cond (decide (0 ≤ x20)) (cond (decide (x20 < ((x18).length : Int))) ((spec_l01Copy.f k c1_2z c1_2).bind fun t0 => cond (decide (0 ≤ x20)) (cond (decide (x20 < ((c1_4).length : Int))) ((spec_l01Copy.f k (((((c1_4).getD (x20).toNat .bad).cells.getD 0 .bad)).isNil) (((((c1_4).getD (x20).toNat .bad).cells.getD 0 .bad)).toNums)).bind fun t1 => cond (decide ((x3).length + 1 < 1954687338268)) (j0 (x3 ++ ([(.agg [(.int .i64 c1_0), (.int .i64 c1_1), (.nums 5 .u8 t0.1 t0.2), (.int .i64 (rdI x18 x20)), (.nums 5 .u8 t1.1 t1.2)])] : List T)) x18z x18 x19 (wrap64 (x20 + 1)) c1_0 c1_1 c1_2z c1_2 c1_3z c1_3 c1_4z c1_4) (none)) (none)) (none)) (none)) (none)) (ret (false, x3))
def spec_QcVotes.l0 : Nat → (List T) → Bool → (List Int) → Int → Int → Int → Int → Bool → (List Int) → Bool → (List Int) → Bool → (List T) → Option (Bool × List T)
  | 0, _, _, _, _, _, _, _, _, _, _, _, _, _ => none
  | k + 1, x3, x18z, x18, x19, x20, c1_0, c1_1, c1_2z, c1_2, c1_3z, c1_3, c1_4z, c1_4 => spec_QcVotes.l0b some (spec_QcVotes.l0 k) k x3 x18z x18 x19 x20 c1_0 c1_1 c1_2z c1_2 c1_3z c1_3 c1_4z c1_4
def spec_QcVotes.f : Nat → Int → Int → Bool → (List Int) → Bool → (List Int) → Bool → (List T) → Option (Bool × List T)
  | 0, _, _, _, _, _, _, _, _ => none
  | k + 1, a0_0, a0_1, a0_2z, a0_2, a0_3z, a0_3, a0_4z, a0_4 => spec_QcVotes.b some (spec_QcVotes.l0 k) k a0_0 a0_1 a0_2z a0_2 a0_3z a0_3 a0_4z a0_4
def spec_QcVotes.enc (r : Bool × List T) : Res := ⟨[.vals false [((.sl 59 r.1 r.2), true)]], []⟩
def spec_QcVotes.ans (k : Nat) : List Arg → Ans
  | [.v (.agg [(.int .i64 a0_0), (.int .i64 a0_1), (.nums 5 .u8 a0_2z a0_2), (.nums 5 .u8 a0_3z a0_3), (.sl 28 a0_4z a0_4)])] => ⟨spec_QcVotes.f k a0_0 a0_1 a0_2z a0_2 a0_3z a0_3 a0_4z a0_4, spec_QcVotes.enc⟩
  | _ => Ans.no
def spec_QcVotes.Cs (k : Nat) : CallSem := tab [(51, spec_l01Copy.ans k), (73, spec_BitsList.ans k)]
def spec_QcVotes.cuts : List (Nat × Keep) := [(250, ⟨[(1, some []), (3, none), (18, none), (19, some []), (20, some [])], [(1, [some [], some [], some [], some [], some []])]⟩)]
noncomputable def spec_QcVotes.K0 : List Fr := framesAt [true, true, true, true, false, true, false] (bodyOf Tryz.f53 spec_QcVotes.cuts) []
def spec_QcVotes.N0 (x3 : List T) (x18z : Bool) (x18 : List Int) (x19 x20 : Int) (c1_0 c1_1 : Int) (c1_2z : Bool) (c1_2 : List Int) (c1_3z : Bool) (c1_3 : List Int) (c1_4z : Bool) (c1_4 : List T) : St := stOf 45 45 1 [(1, .bp 1 0), (3, .val ⟨(.sl 59 false x3), [.l 3 0], true, some (.l 3 0)⟩), (18, .val ⟨(.nums 3 .i64 x18z x18), [.l 18 0], true, some (.l 18 0)⟩), (19, .val (V.s (.int .i64 x19))), (20, .val (V.s (.int .i64 x20)))] [(1, .cells [V.s (.int .i64 c1_0), V.s (.int .i64 c1_1), ⟨(.nums 5 .u8 c1_2z c1_2), [], false, none⟩, ⟨(.nums 5 .u8 c1_3z c1_3), [], false, none⟩, ⟨(.sl 28 c1_4z c1_4), [], false, none⟩])]
theorem spec_QcVotes.s0 (k : Nat) (G : List Fr → St → Option Res) (a0_0 a0_1 : Int) (a0_2z : Bool) (a0_2 : List Int) (a0_3z : Bool) (a0_3 : List Int) (a0_4z : Bool) (a0_4 yx3 : List T) (yx18z : Bool) (yx18 : List Int) (yx19 yx20 : Int) (yc1_0 yc1_1 : Int) (yc1_2z : Bool) (yc1_2 : List Int) (yc1_3z : Bool) (yc1_3 : List Int) (yc1_4z : Bool) (yc1_4 : List T) : resume Tryz.prog (spec_QcVotes.Cs k) G (finish Tryz.prog [] Tryz.f53 [.v (.agg [(.int .i64 a0_0), (.int .i64 a0_1), (.nums 5 .u8 a0_2z a0_2), (.nums 5 .u8 a0_3z a0_3), (.sl 28 a0_4z a0_4)])]) 100000 spec_QcVotes.K0 (spec_QcVotes.N0 yx3 yx18z yx18 yx19 yx20 yc1_0 yc1_1 yc1_2z yc1_2 yc1_3z yc1_3 yc1_4z yc1_4) = spec_QcVotes.l0b (fun r => some (spec_QcVotes.enc r)) (fun x3 x18z x18 x19 x20 c1_0 c1_1 c1_2z c1_2 c1_3z c1_3 c1_4z c1_4 => G spec_QcVotes.K0 (spec_QcVotes.N0 x3 x18z x18 x19 x20 c1_0 c1_1 c1_2z c1_2 c1_3z c1_3 c1_4z c1_4)) k yx3 yx18z yx18 yx19 yx20 yc1_0 yc1_1 yc1_2z yc1_2 yc1_3z yc1_3 yc1_4z yc1_4 := by kernel_rfl
theorem spec_QcVotes.bn {R R' : Type} (e : R → R') (ret : Bool × List T → Option R) (j0 : (List T) → Bool → (List Int) → Int → Int → Int → Int → Bool → (List Int) → Bool → (List Int) → Bool → (List T) → Option R) (k : Nat) (a0_0 a0_1 : Int) (a0_2z : Bool) (a0_2 : List Int) (a0_3z : Bool) (a0_3 : List Int) (a0_4z : Bool) (a0_4 : List T) : spec_QcVotes.b (fun r => (ret r).map e) (fun x3 x18z x18 x19 x20 c1_0 c1_1 c1_2z c1_2 c1_3z c1_3 c1_4z c1_4 => (j0 x3 x18z x18 x19 x20 c1_0 c1_1 c1_2z c1_2 c1_3z c1_3 c1_4z c1_4).map e) k a0_0 a0_1 a0_2z a0_2 a0_3z a0_3 a0_4z a0_4 = (spec_QcVotes.b ret j0 k a0_0 a0_1 a0_2z a0_2 a0_3z a0_3 a0_4z a0_4).map e := by
  unfold spec_QcVotes.b
  repeat' first | with_reducible refine nat_cond ?_ ?_ | with_reducible refine nat_bind fun _ => ?_ | rfl
theorem spec_QcVotes.l0n {R R' : Type} (e : R → R') (ret : Bool × List T → Option R) (j0 : (List T) → Bool → (List Int) → Int → Int → Int → Int → Bool → (List Int) → Bool → (List Int) → Bool → (List T) → Option R) (k : Nat) (x3 : List T) (x18z : Bool) (x18 : List Int) (x19 x20 : Int) (c1_0 c1_1 : Int) (c1_2z : Bool) (c1_2 : List Int) (c1_3z : Bool) (c1_3 : List Int) (c1_4z : Bool) (c1_4 : List T) : spec_QcVotes.l0b (fun r => (ret r).map e) (fun x3 x18z x18 x19 x20 c1_0 c1_1 c1_2z c1_2 c1_3z c1_3 c1_4z c1_4 => (j0 x3 x18z x18 x19 x20 c1_0 c1_1 c1_2z c1_2 c1_3z c1_3 c1_4z c1_4).map e) k x3 x18z x18 x19 x20 c1_0 c1_1 c1_2z c1_2 c1_3z c1_3 c1_4z c1_4 = (spec_QcVotes.l0b ret j0 k x3 x18z x18 x19 x20 c1_0 c1_1 c1_2z c1_2 c1_3z c1_3 c1_4z c1_4).map e := by
  unfold spec_QcVotes.l0b
  repeat' first | with_reducible refine nat_cond ?_ ?_ | with_reducible refine nat_bind fun _ => ?_ | rfl
theorem spec_QcVotes.rq (a0_0 a0_1 : Int) (a0_2z : Bool) (a0_2 : List Int) (a0_3z : Bool) (a0_3 : List Int) (a0_4z : Bool) (a0_4 : List T) : ∀ k, (∀ (x3 : List T) (x18z : Bool) (x18 : List Int) (x19 x20 : Int) (c1_0 c1_1 : Int) (c1_2z : Bool) (c1_2 : List Int) (c1_3z : Bool) (c1_3 : List Int) (c1_4z : Bool) (c1_4 : List T), rounds Tryz.prog spec_QcVotes.Cs (finish Tryz.prog [] Tryz.f53 [.v (.agg [(.int .i64 a0_0), (.int .i64 a0_1), (.nums 5 .u8 a0_2z a0_2), (.nums 5 .u8 a0_3z a0_3), (.sl 28 a0_4z a0_4)])]) 100000 k spec_QcVotes.K0 (spec_QcVotes.N0 x3 x18z x18 x19 x20 c1_0 c1_1 c1_2z c1_2 c1_3z c1_3 c1_4z c1_4) = (spec_QcVotes.l0 k x3 x18z x18 x19 x20 c1_0 c1_1 c1_2z c1_2 c1_3z c1_3 c1_4z c1_4).map spec_QcVotes.enc)
  | 0 => fun _ _ _ _ _ _ _ _ _ _ _ _ _ => rfl
  | k + 1 => by
    have ih := spec_QcVotes.rq a0_0 a0_1 a0_2z a0_2 a0_3z a0_3 a0_4z a0_4 k
    refine fun _ _ _ _ _ _ _ _ _ _ _ _ _ => ?_
    · refine (spec_QcVotes.s0 k _ a0_0 a0_1 a0_2z a0_2 a0_3z a0_3 a0_4z a0_4 _ _ _ _ _ _ _ _ _ _ _ _ _).trans (Eq.trans ?_ (spec_QcVotes.l0n spec_QcVotes.enc some (spec_QcVotes.l0 k) k _ _ _ _ _ _ _ _ _ _ _ _ _))
      simp only [ih, Option.map_some]
theorem spec_QcVotes.eq (k : Nat) (a0_0 a0_1 : Int) (a0_2z : Bool) (a0_2 : List Int) (a0_3z : Bool) (a0_3 : List Int) (a0_4z : Bool) (a0_4 : List T) : answer Tryz.prog spec_QcVotes.Cs 100000 spec_QcVotes.cuts [] Tryz.f53 (k + 1) [.v (.agg [(.int .i64 a0_0), (.int .i64 a0_1), (.nums 5 .u8 a0_2z a0_2), (.nums 5 .u8 a0_3z a0_3), (.sl 28 a0_4z a0_4)])] = (spec_QcVotes.f (k + 1) a0_0 a0_1 a0_2z a0_2 a0_3z a0_3 a0_4z a0_4).map spec_QcVotes.enc := by
  have ih := spec_QcVotes.rq a0_0 a0_1 a0_2z a0_2 a0_3z a0_3 a0_4z a0_4 k
  refine Eq.trans (b := spec_QcVotes.b (fun r => some (spec_QcVotes.enc r)) (fun x3 x18z x18 x19 x20 c1_0 c1_1 c1_2z c1_2 c1_3z c1_3 c1_4z c1_4 => rounds Tryz.prog spec_QcVotes.Cs (finish Tryz.prog [] Tryz.f53 [.v (.agg [(.int .i64 a0_0), (.int .i64 a0_1), (.nums 5 .u8 a0_2z a0_2), (.nums 5 .u8 a0_3z a0_3), (.sl 28 a0_4z a0_4)])]) 100000 k spec_QcVotes.K0 (spec_QcVotes.N0 x3 x18z x18 x19 x20 c1_0 c1_1 c1_2z c1_2 c1_3z c1_3 c1_4z c1_4)) k a0_0 a0_1 a0_2z a0_2 a0_3z a0_3 a0_4z a0_4) (by kernel_rfl) (Eq.trans ?_ (spec_QcVotes.bn spec_QcVotes.enc some (spec_QcVotes.l0 k) k a0_0 a0_1 a0_2z a0_2 a0_3z a0_3 a0_4z a0_4))
  simp only [ih, Option.map_some]
theorem spec_QcVotes.sound (k : Nat) : SoundF Tryz.prog 53 (fun a => (spec_QcVotes.ans k a).val) := by
  refine sound_plain (fun args res h => ?_) (fun t n => rfl)
  unfold spec_QcVotes.ans at h
  dsimp only at h
  split at h
  · cases k with
    | zero => cases h
    | succ k =>
      unfold Ans.val at h
      rw [← spec_QcVotes.eq] at h
      exact answer_sound mixed Tryz.func53 _ _ _ (k + 1) (fun j _ => tab_sound (tab_cons (spec_l01Copy.sound j) (tab_cons (spec_BitsList.sound j) (tab_nil)))) _ _ h
  · exact (Ans.no_val h).elim

def spec_l01Num.b {R : Type} (ret : Bool → Option R) (k : Nat) (a0 : Int) : Option R :=
  (spec_l01In.f k a0 0 1152921504606846975).bind fun t0 => ret t0
def spec_l01Num.f : Nat → Int → Option Bool
  | 0, _ => none
  | k + 1, a0 => spec_l01Num.b some k a0
def spec_l01Num.enc (r : Bool) : Res := ⟨[.vals false [((.bool r), true)]], []⟩
def spec_l01Num.ans (k : Nat) : List Arg → Ans
  | [.v (.int .i64 a0)] => ⟨spec_l01Num.f k a0, spec_l01Num.enc⟩
  | _ => Ans.no
def spec_l01Num.Cs (k : Nat) : CallSem := tab [(68, spec_l01In.ans k)]
theorem spec_l01Num.eq (k : Nat) (a0 : Int) : answer Tryz.prog spec_l01Num.Cs 100000 [] [] Tryz.f74 (k + 1) [.v (.int .i64 a0)] = (spec_l01Num.f (k + 1) a0).map spec_l01Num.enc := by
  refine Eq.trans (b := spec_l01Num.b (fun r => some (spec_l01Num.enc r)) k a0) (by kernel_rfl) ?_
  show _ = (spec_l01Num.b some k a0).map spec_l01Num.enc
  unfold spec_l01Num.b
  repeat' first | with_reducible refine nat_cond ?_ ?_ | with_reducible refine nat_bind fun _ => ?_ | rfl
theorem spec_l01Num.sound (k : Nat) : SoundF Tryz.prog 74 (fun a => (spec_l01Num.ans k a).val) := by
  refine sound_plain (fun args res h => ?_) (fun t n => rfl)
  unfold spec_l01Num.ans at h
  dsimp only at h
  split at h
  · cases k with
    | zero => cases h
    | succ k =>
      unfold Ans.val at h
      rw [← spec_l01Num.eq] at h
      exact answer_sound mixed Tryz.func74 _ _ _ (k + 1) (fun j _ => tab_sound (tab_cons (spec_l01In.sound j) (tab_nil))) _ _ h
  · exact (Ans.no_val h).elim

def spec_l07Hash.b {R : Type} (ret : Bool → Option R) (k : Nat) (a0z : Bool) (a0 : List Int) : Option R :=
  ret (decide (((a0).length : Int) = 32))
def spec_l07Hash.f : Nat → Bool → (List Int) → Option Bool
  | 0, _, _ => none
  | k + 1, a0z, a0 => spec_l07Hash.b some k a0z a0
def spec_l07Hash.enc (r : Bool) : Res := ⟨[.vals false [((.bool r), true)]], []⟩
def spec_l07Hash.ans (k : Nat) : List Arg → Ans
  | [.v (.nums 5 .u8 a0z a0)] => ⟨spec_l07Hash.f k a0z a0, spec_l07Hash.enc⟩
  | _ => Ans.no
def spec_l07Hash.Cs (k : Nat) : CallSem := tab []
theorem spec_l07Hash.eq (k : Nat) (a0z : Bool) (a0 : List Int) : answer Tryz.prog spec_l07Hash.Cs 100000 [] [] Tryz.f75 (k + 1) [.v (.nums 5 .u8 a0z a0)] = (spec_l07Hash.f (k + 1) a0z a0).map spec_l07Hash.enc := by
  refine Eq.trans (b := spec_l07Hash.b (fun r => some (spec_l07Hash.enc r)) k a0z a0) (by kernel_rfl) ?_
  show _ = (spec_l07Hash.b some k a0z a0).map spec_l07Hash.enc
  unfold spec_l07Hash.b
  repeat' first | with_reducible refine nat_cond ?_ ?_ | with_reducible refine nat_bind fun _ => ?_ | rfl
theorem spec_l07Hash.sound (k : Nat) : SoundF Tryz.prog 75 (fun a => (spec_l07Hash.ans k a).val) := by
  refine sound_plain (fun args res h => ?_) (fun t n => rfl)
  unfold spec_l07Hash.ans at h
  dsimp only at h
  split at h
  · cases k with
    | zero => cases h
    | succ k =>
      unfold Ans.val at h
      rw [← spec_l07Hash.eq] at h
      exact answer_sound mixed Tryz.func75 _ _ _ (k + 1) (fun j _ => tab_sound (tab_nil)) _ _ h
  · exact (Ans.no_val h).elim

def spec_BitsCount.b {R : Type} (ret : Int → Option R) (k : Nat) (a0z : Bool) (a0 : List Int) : Option R :=
  (spec_BitsList.f k a0z a0).bind fun t0 => ret ((t0.2).length : Int)
def spec_BitsCount.f : Nat → Bool → (List Int) → Option Int
  | 0, _, _ => none
  | k + 1, a0z, a0 => spec_BitsCount.b some k a0z a0
def spec_BitsCount.enc (r : Int) : Res := ⟨[.vals false [((.int .i64 r), true)]], []⟩
def spec_BitsCount.ans (k : Nat) : List Arg → Ans
  | [.v (.nums 5 .u8 a0z a0)] => ⟨spec_BitsCount.f k a0z a0, spec_BitsCount.enc⟩
  | _ => Ans.no
def spec_BitsCount.Cs (k : Nat) : CallSem := tab [(73, spec_BitsList.ans k)]
theorem spec_BitsCount.eq (k : Nat) (a0z : Bool) (a0 : List Int) : answer Tryz.prog spec_BitsCount.Cs 100000 [] [] Tryz.f77 (k + 1) [.v (.nums 5 .u8 a0z a0)] = (spec_BitsCount.f (k + 1) a0z a0).map spec_BitsCount.enc := by
  refine Eq.trans (b := spec_BitsCount.b (fun r => some (spec_BitsCount.enc r)) k a0z a0) (by kernel_rfl) ?_
  show _ = (spec_BitsCount.b some k a0z a0).map spec_BitsCount.enc
  unfold spec_BitsCount.b
  repeat' first | with_reducible refine nat_cond ?_ ?_ | with_reducible refine nat_bind fun _ => ?_ | rfl
theorem spec_BitsCount.sound (k : Nat) : SoundF Tryz.prog 77 (fun a => (spec_BitsCount.ans k a).val) := by
  refine sound_plain (fun args res h => ?_) (fun t n => rfl)
  unfold spec_BitsCount.ans at h
  dsimp only at h
  split at h
  · cases k with
    | zero => cases h
    | succ k =>
      unfold Ans.val at h
      rw [← spec_BitsCount.eq] at h
      exact answer_sound mixed Tryz.func77 _ _ _ (k + 1) (fun j _ => tab_sound (tab_cons (spec_BitsList.sound j) (tab_nil))) _ _ h
  · exact (Ans.no_val h).elim

def spec_l08Hashes.b {R : Type} (ret : Bool → Option R) (j0 : Bool → (List T) → Int → Int → Option R) (k : Nat) (a0z : Bool) (a0 : List T) : Option R :=
  j0 a0z a0 ((a0).length : Int) 0
def spec_l08Hashes.l0b {R : Type} (ret : Bool → Option R) (j0 : Bool → (List T) → Int → Int → Option R) (k : Nat) (x5z : Bool) (x5 : List T) (x6 x7 : Int) : Option R :=
  cond (decide (x7 < x6)) (cond (decide (0 ≤ x7)) (cond (decide (x7 < ((x5).length : Int))) ((spec_l07Hash.f k (((((x5).getD (x7).toNat .bad).cells.getD 0 .bad)).isNil) (((((x5).getD (x7).toNat .bad).cells.getD 0 .bad)).toNums)).bind fun t0 => cond (!t0) (ret false) (j0 x5z x5 x6 (wrap64 (x7 + 1)))) (none)) (none)) (ret true)
def spec_l08Hashes.l0 : Nat → Bool → (List T) → Int → Int → Option Bool
  | 0, _, _, _, _ => none
  | k + 1, x5z, x5, x6, x7 => spec_l08Hashes.l0b some (spec_l08Hashes.l0 k) k x5z x5 x6 x7
def spec_l08Hashes.f : Nat → Bool → (List T) → Option Bool
  | 0, _, _ => none
  | k + 1, a0z, a0 => spec_l08Hashes.b some (spec_l08Hashes.l0 k) k a0z a0
def spec_l08Hashes.enc (r : Bool) : Res := ⟨[.vals false [((.bool r), true)]], []⟩
def spec_l08Hashes.ans (k : Nat) : List Arg → Ans
  | [.v (.sl 28 a0z a0)] => ⟨spec_l08Hashes.f k a0z a0, spec_l08Hashes.enc⟩
  | _ => Ans.no
def spec_l08Hashes.Cs (k : Nat) : CallSem := tab [(75, spec_l07Hash.ans k)]
def spec_l08Hashes.cuts : List (Nat × Keep) := [(26, ⟨[(5, some []), (6, some []), (7, some [])], []⟩)]
noncomputable def spec_l08Hashes.K0 : List Fr := framesAt [true, false, true, false] (bodyOf Tryz.f78 spec_l08Hashes.cuts) []
def spec_l08Hashes.N0 (x5z : Bool) (x5 : List T) (x6 x7 : Int) : St := stOf 15 15 1 [(5, .val ⟨(.sl 28 x5z x5), [], false, none⟩), (6, .val (V.s (.int .i64 x6))), (7, .val (V.s (.int .i64 x7)))] []
theorem spec_l08Hashes.s0 (k : Nat) (G : List Fr → St → Option Res) (a0z : Bool) (a0 : List T) (yx5z : Bool) (yx5 : List T) (yx6 yx7 : Int) : resume Tryz.prog (spec_l08Hashes.Cs k) G (finish Tryz.prog [] Tryz.f78 [.v (.sl 28 a0z a0)]) 100000 spec_l08Hashes.K0 (spec_l08Hashes.N0 yx5z yx5 yx6 yx7) = spec_l08Hashes.l0b (fun r => some (spec_l08Hashes.enc r)) (fun x5z x5 x6 x7 => G spec_l08Hashes.K0 (spec_l08Hashes.N0 x5z x5 x6 x7)) k yx5z yx5 yx6 yx7 := by kernel_rfl
theorem spec_l08Hashes.bn {R R' : Type} (e : R → R') (ret : Bool → Option R) (j0 : Bool → (List T) → Int → Int → Option R) (k : Nat) (a0z : Bool) (a0 : List T) : spec_l08Hashes.b (fun r => (ret r).map e) (fun x5z x5 x6 x7 => (j0 x5z x5 x6 x7).map e) k a0z a0 = (spec_l08Hashes.b ret j0 k a0z a0).map e := by
  unfold spec_l08Hashes.b
  repeat' first | with_reducible refine nat_cond ?_ ?_ | with_reducible refine nat_bind fun _ => ?_ | rfl
theorem spec_l08Hashes.l0n {R R' : Type} (e : R → R') (ret : Bool → Option R) (j0 : Bool → (List T) → Int → Int → Option R) (k : Nat) (x5z : Bool) (x5 : List T) (x6 x7 : Int) : spec_l08Hashes.l0b (fun r => (ret r).map e) (fun x5z x5 x6 x7 => (j0 x5z x5 x6 x7).map e) k x5z x5 x6 x7 = (spec_l08Hashes.l0b ret j0 k x5z x5 x6 x7).map e := by
  unfold spec_l08Hashes.l0b
  repeat' first | with_reducible refine nat_cond ?_ ?_ | with_reducible refine nat_bind fun _ => ?_ | rfl
theorem spec_l08Hashes.rq (a0z : Bool) (a0 : List T) : ∀ k, (∀ (x5z : Bool) (x5 : List T) (x6 x7 : Int), rounds Tryz.prog spec_l08Hashes.Cs (finish Tryz.prog [] Tryz.f78 [.v (.sl 28 a0z a0)]) 100000 k spec_l08Hashes.K0 (spec_l08Hashes.N0 x5z x5 x6 x7) = (spec_l08Hashes.l0 k x5z x5 x6 x7).map spec_l08Hashes.enc)
  | 0 => fun _ _ _ _ => rfl
  | k + 1 => by
    have ih := spec_l08Hashes.rq a0z a0 k
    refine fun _ _ _ _ => ?_
    · refine (spec_l08Hashes.s0 k _ a0z a0 _ _ _ _).trans (Eq.trans ?_ (spec_l08Hashes.l0n spec_l08Hashes.enc some (spec_l08Hashes.l0 k) k _ _ _ _))
      simp only [ih, Option.map_some]
theorem spec_l08Hashes.eq (k : Nat) (a0z : Bool) (a0 : List T) : answer Tryz.prog spec_l08Hashes.Cs 100000 spec_l08Hashes.cuts [] Tryz.f78 (k + 1) [.v (.sl 28 a0z a0)] = (spec_l08Hashes.f (k + 1) a0z a0).map spec_l08Hashes.enc := by
  have ih := spec_l08Hashes.rq a0z a0 k
  refine Eq.trans (b := spec_l08Hashes.b (fun r => some (spec_l08Hashes.enc r)) (fun x5z x5 x6 x7 => rounds Tryz.prog spec_l08Hashes.Cs (finish Tryz.prog [] Tryz.f78 [.v (.sl 28 a0z a0)]) 100000 k spec_l08Hashes.K0 (spec_l08Hashes.N0 x5z x5 x6 x7)) k a0z a0) (by kernel_rfl) (Eq.trans ?_ (spec_l08Hashes.bn spec_l08Hashes.enc some (spec_l08Hashes.l0 k) k a0z a0))
  simp only [ih, Option.map_some]
theorem spec_l08Hashes.sound (k : Nat) : SoundF Tryz.prog 78 (fun a => (spec_l08Hashes.ans k a).val) := by
  refine sound_plain (fun args res h => ?_) (fun t n => rfl)
  unfold spec_l08Hashes.ans at h
  dsimp only at h
  split at h
  · cases k with
    | zero => cases h
    | succ k =>
      unfold Ans.val at h
      rw [← spec_l08Hashes.eq] at h
      exact answer_sound mixed Tryz.func78 _ _ _ (k + 1) (fun j _ => tab_sound (tab_cons (spec_l07Hash.sound j) (tab_nil))) _ _ h
  · exact (Ans.no_val h).elim

def spec_QcOk.b {R : Type} (ret : Bool → Option R) (k : Nat) (a0_0 a0_1 : Int) (a0_2 a0_3 : Int) (a0_4 a1_0 a1_1 : Int) (a1_2z : Bool) (a1_2 : List Int) (a1_3z : Bool) (a1_3 : List Int) (a1_4z : Bool) (a1_4 : List T) : Option R :=
  (spec_LimitsOk.f k a0_0 a0_1 a0_2 a0_3 a0_4).bind fun t0 => cond t0 ((spec_l01Num.f k a1_0).bind fun t1 => cond t1 ((spec_l01Num.f k a1_1).bind fun t2 => cond t2 ((spec_l07Hash.f k a1_2z a1_2).bind fun t3 => cond t3 ((spec_BitsOk.f k a1_3z a1_3 a0_0).bind fun t4 => cond t4 ((spec_BitsCount.f k a1_3z a1_3).bind fun t5 => cond (decide (((a1_4).length : Int) = t5)) ((spec_l08Hashes.f k a1_4z a1_4).bind fun t6 => ret t6) (ret false)) (ret false)) (ret false)) (ret false)) (ret false)) (ret false)
def spec_QcOk.f : Nat → Int → Int → Int → Int → Int → Int → Int → Bool → (List Int) → Bool → (List Int) → Bool → (List T) → Option Bool
  | 0, _, _, _, _, _, _, _, _, _, _, _, _, _ => none
  | k + 1, a0_0, a0_1, a0_2, a0_3, a0_4, a1_0, a1_1, a1_2z, a1_2, a1_3z, a1_3, a1_4z, a1_4 => spec_QcOk.b some k a0_0 a0_1 a0_2 a0_3 a0_4 a1_0 a1_1 a1_2z a1_2 a1_3z a1_3 a1_4z a1_4
def spec_QcOk.enc (r : Bool) : Res := ⟨[.vals false [((.bool r), true)]], []⟩
def spec_QcOk.ans (k : Nat) : List Arg → Ans
  | [.v (.agg [(.int .i64 a0_0), (.int .i64 a0_1), (.int .i64 a0_2), (.int .i64 a0_3), (.int .i64 a0_4)]), .v (.agg [(.int .i64 a1_0), (.int .i64 a1_1), (.nums 5 .u8 a1_2z a1_2), (.nums 5 .u8 a1_3z a1_3), (.sl 28 a1_4z a1_4)])] => ⟨spec_QcOk.f k a0_0 a0_1 a0_2 a0_3 a0_4 a1_0 a1_1 a1_2z a1_2 a1_3z a1_3 a1_4z a1_4, spec_QcOk.enc⟩
  | _ => Ans.no
def spec_QcOk.Cs (k : Nat) : CallSem := tab [(47, spec_LimitsOk.ans k), (76, spec_BitsOk.ans k), (74, spec_l01Num.ans k), (75, spec_l07Hash.ans k), (77, spec_BitsCount.ans k), (78, spec_l08Hashes.ans k)]
theorem spec_QcOk.eq (k : Nat) (a0_0 a0_1 : Int) (a0_2 a0_3 : Int) (a0_4 a1_0 a1_1 : Int) (a1_2z : Bool) (a1_2 : List Int) (a1_3z : Bool) (a1_3 : List Int) (a1_4z : Bool) (a1_4 : List T) : answer Tryz.prog spec_QcOk.Cs 100000 [] [] Tryz.f54 (k + 1) [.v (.agg [(.int .i64 a0_0), (.int .i64 a0_1), (.int .i64 a0_2), (.int .i64 a0_3), (.int .i64 a0_4)]), .v (.agg [(.int .i64 a1_0), (.int .i64 a1_1), (.nums 5 .u8 a1_2z a1_2), (.nums 5 .u8 a1_3z a1_3), (.sl 28 a1_4z a1_4)])] = (spec_QcOk.f (k + 1) a0_0 a0_1 a0_2 a0_3 a0_4 a1_0 a1_1 a1_2z a1_2 a1_3z a1_3 a1_4z a1_4).map spec_QcOk.enc := by
  refine Eq.trans (b := spec_QcOk.b (fun r => some (spec_QcOk.enc r)) k a0_0 a0_1 a0_2 a0_3 a0_4 a1_0 a1_1 a1_2z a1_2 a1_3z a1_3 a1_4z a1_4) (by kernel_rfl) ?_
  show _ = (spec_QcOk.b some k a0_0 a0_1 a0_2 a0_3 a0_4 a1_0 a1_1 a1_2z a1_2 a1_3z a1_3 a1_4z a1_4).map spec_QcOk.enc
  unfold spec_QcOk.b
  repeat' first | with_reducible refine nat_cond ?_ ?_ | with_reducible refine nat_bind fun _ => ?_ | rfl
theorem spec_QcOk.sound (k : Nat) : SoundF Tryz.prog 54 (fun a => (spec_QcOk.ans k a).val) := by
  refine sound_plain (fun args res h => ?_) (fun t n => rfl)
  unfold spec_QcOk.ans at h
  dsimp only at h
  split at h
  · cases k with
    | zero => cases h
    | succ k =>
      unfold Ans.val at h
      rw [← spec_QcOk.eq] at h
      exact answer_sound mixed Tryz.func54 _ _ _ (k + 1) (fun j _ => tab_sound (tab_cons (spec_LimitsOk.sound j) (tab_cons (spec_BitsOk.sound j) (tab_cons (spec_l01Num.sound j) (tab_cons (spec_l07Hash.sound j) (tab_cons (spec_BitsCount.sound j) (tab_cons (spec_l08Hashes.sound j) (tab_nil)))))))) _ _ h
  · exact (Ans.no_val h).elim

def spec_SameBytes.b {R : Type} (ret : Bool → Option R) (k : Nat) (a0z : Bool) (a0 : List Int) (a1z : Bool) (a1 : List Int) : Option R :=
  ret (decide ((strOf a0) = (strOf a1)))
def spec_SameBytes.f : Nat → Bool → (List Int) → Bool → (List Int) → Option Bool
  | 0, _, _, _, _ => none
  | k + 1, a0z, a0, a1z, a1 => spec_SameBytes.b some k a0z a0 a1z a1
def spec_SameBytes.enc (r : Bool) : Res := ⟨[.vals false [((.bool r), true)]], []⟩
def spec_SameBytes.ans (k : Nat) : List Arg → Ans
  | [.v (.nums 5 .u8 a0z a0), .v (.nums 5 .u8 a1z a1)] => ⟨spec_SameBytes.f k a0z a0 a1z a1, spec_SameBytes.enc⟩
  | _ => Ans.no
def spec_SameBytes.Cs (k : Nat) : CallSem := tab []
theorem spec_SameBytes.eq (k : Nat) (a0z : Bool) (a0 : List Int) (a1z : Bool) (a1 : List Int) : answer Tryz.prog spec_SameBytes.Cs 100000 [] [] Tryz.f24 (k + 1) [.v (.nums 5 .u8 a0z a0), .v (.nums 5 .u8 a1z a1)] = (spec_SameBytes.f (k + 1) a0z a0 a1z a1).map spec_SameBytes.enc := by
  refine Eq.trans (b := spec_SameBytes.b (fun r => some (spec_SameBytes.enc r)) k a0z a0 a1z a1) (by kernel_rfl) ?_
  show _ = (spec_SameBytes.b some k a0z a0 a1z a1).map spec_SameBytes.enc
  unfold spec_SameBytes.b
  repeat' first | with_reducible refine nat_cond ?_ ?_ | with_reducible refine nat_bind fun _ => ?_ | rfl
theorem spec_SameBytes.sound (k : Nat) : SoundF Tryz.prog 24 (fun a => (spec_SameBytes.ans k a).val) := by
  refine sound_plain (fun args res h => ?_) (fun t n => rfl)
  unfold spec_SameBytes.ans at h
  dsimp only at h
  split at h
  · cases k with
    | zero => cases h
    | succ k =>
      unfold Ans.val at h
      rw [← spec_SameBytes.eq] at h
      exact answer_sound mixed Tryz.func24 _ _ _ (k + 1) (fun j _ => tab_sound (tab_nil)) _ _ h
  · exact (Ans.no_val h).elim

def spec_VoteSame.b {R : Type} (ret : Bool → Option R) (k : Nat) (a0_0 a0_1 : Int) (a0_2z : Bool) (a0_2 : List Int) (a0_3 : Int) (a0_4z : Bool) (a0_4 : List Int) (a1_0 a1_1 : Int) (a1_2z : Bool) (a1_2 : List Int) (a1_3 : Int) (a1_4z : Bool) (a1_4 : List Int) : Option R :=
  cond (decide (a0_0 = a1_0)) (cond (decide (a0_1 = a1_1)) ((spec_SameBytes.f k a0_2z a0_2 a1_2z a1_2).bind fun t0 => cond t0 (cond (decide (a0_3 = a1_3)) ((spec_SameBytes.f k a0_4z a0_4 a1_4z a1_4).bind fun t1 => ret t1) (ret false)) (ret false)) (ret false)) (ret false)
def spec_VoteSame.f : Nat → Int → Int → Bool → (List Int) → Int → Bool → (List Int) → Int → Int → Bool → (List Int) → Int → Bool → (List Int) → Option Bool
  | 0, _, _, _, _, _, _, _, _, _, _, _, _, _, _ => none
  | k + 1, a0_0, a0_1, a0_2z, a0_2, a0_3, a0_4z, a0_4, a1_0, a1_1, a1_2z, a1_2, a1_3, a1_4z, a1_4 => spec_VoteSame.b some k a0_0 a0_1 a0_2z a0_2 a0_3 a0_4z a0_4 a1_0 a1_1 a1_2z a1_2 a1_3 a1_4z a1_4
def spec_VoteSame.enc (r : Bool) : Res := ⟨[.vals false [((.bool r), true)]], []⟩
def spec_VoteSame.ans (k : Nat) : List Arg → Ans
  | [.v (.agg [(.int .i64 a0_0), (.int .i64 a0_1), (.nums 5 .u8 a0_2z a0_2), (.int .i64 a0_3), (.nums 5 .u8 a0_4z a0_4)]), .v (.agg [(.int .i64 a1_0), (.int .i64 a1_1), (.nums 5 .u8 a1_2z a1_2), (.int .i64 a1_3), (.nums 5 .u8 a1_4z a1_4)])] => ⟨spec_VoteSame.f k a0_0 a0_1 a0_2z a0_2 a0_3 a0_4z a0_4 a1_0 a1_1 a1_2z a1_2 a1_3 a1_4z a1_4, spec_VoteSame.enc⟩
  | _ => Ans.no
def spec_VoteSame.Cs (k : Nat) : CallSem := tab [(24, spec_SameBytes.ans k)]
theorem spec_VoteSame.eq (k : Nat) (a0_0 a0_1 : Int) (a0_2z : Bool) (a0_2 : List Int) (a0_3 : Int) (a0_4z : Bool) (a0_4 : List Int) (a1_0 a1_1 : Int) (a1_2z : Bool) (a1_2 : List Int) (a1_3 : Int) (a1_4z : Bool) (a1_4 : List Int) : answer Tryz.prog spec_VoteSame.Cs 100000 [] [] Tryz.f50 (k + 1) [.v (.agg [(.int .i64 a0_0), (.int .i64 a0_1), (.nums 5 .u8 a0_2z a0_2), (.int .i64 a0_3), (.nums 5 .u8 a0_4z a0_4)]), .v (.agg [(.int .i64 a1_0), (.int .i64 a1_1), (.nums 5 .u8 a1_2z a1_2), (.int .i64 a1_3), (.nums 5 .u8 a1_4z a1_4)])] = (spec_VoteSame.f (k + 1) a0_0 a0_1 a0_2z a0_2 a0_3 a0_4z a0_4 a1_0 a1_1 a1_2z a1_2 a1_3 a1_4z a1_4).map spec_VoteSame.enc := by
  refine Eq.trans (b := spec_VoteSame.b (fun r => some (spec_VoteSame.enc r)) k a0_0 a0_1 a0_2z a0_2 a0_3 a0_4z a0_4 a1_0 a1_1 a1_2z a1_2 a1_3 a1_4z a1_4) (by kernel_rfl) ?_
  show _ = (spec_VoteSame.b some k a0_0 a0_1 a0_2z a0_2 a0_3 a0_4z a0_4 a1_0 a1_1 a1_2z a1_2 a1_3 a1_4z a1_4).map spec_VoteSame.enc
  unfold spec_VoteSame.b
  repeat' first | with_reducible refine nat_cond ?_ ?_ | with_reducible refine nat_bind fun _ => ?_ | rfl
theorem spec_VoteSame.sound (k : Nat) : SoundF Tryz.prog 50 (fun a => (spec_VoteSame.ans k a).val) := by
  refine sound_plain (fun args res h => ?_) (fun t n => rfl)
  unfold spec_VoteSame.ans at h
  dsimp only at h
  split at h
  · cases k with
    | zero => cases h
    | succ k =>
      unfold Ans.val at h
      rw [← spec_VoteSame.eq] at h
      exact answer_sound mixed Tryz.func50 _ _ _ (k + 1) (fun j _ => tab_sound (tab_cons (spec_SameBytes.sound j) (tab_nil))) _ _ h
  · exact (Ans.no_val h).elim

end Go.Proofs.YtbpcnodmgphinaaGreatG
