/- Each function that the law FnExactVoteBytes reaches: what it computes, and that the machine's call does so. No condition beside those that each theorem names. -/
-- of the print, turned
import Derived.Test.YtdkmoaokclnopaaProg
import Derived.Below
import Derived.Deep.Draws
import Derived.Deep.AppendLies
import Derived.Maps.AppendAt
import Derived.OwnWalk
import Derived.Laws.BytesArg
import Derived.Laws.MakeOwn
import Derived.Laws.OwnMore
import Derived.Deep.OwnRows
import Derived.Tactics
import Derived.Lib.ConvBytes
import Derived.Laws.Slices
import Derived.WalkKit
import Derived.KernelRfl
import Derived.RowKit3
import Derived.Deep.LoopGhost
import Derived.Deep.QuietTactic
import Derived.BigQuiet
import Derived.WideLaws
import Derived.Deep.DeepCutAuto
import Derived.Deep.CutBlock
import Derived.Deep.RegionHeld3
import Derived.Laws.Rows
import Derived.Lib.AppendStr
import Derived.ArgAppend
import Derived.Laws.IdiomCopy
import Derived.OrdersHeld
import Derived.Laws.BitsLemmas
import Derived.RowKit
import Derived.WalkSpells
import Derived.Test.YtdkmoaokclnopaaWWords
import Derived.Test.YtdkmoaokclnopaaWLast
import Derived.Test.YtdkmoaokclnopaaWTab
import Derived.Test.YtdkmoaokclnopaaWFour
import Derived.Test.YtdkmoaokclnopaaWQPut
import Derived.Test.YtdkmoaokclnopaaWApart
import Derived.Test.YtdkmoaokclnopaaWArr
import Derived.Test.YtdkmoaokclnopaaWZeros
import Derived.Test.YtdkmoaokclnopaaWFoot
import Derived.Test.YtdkmoaokclnopaaWKept
import Derived.Test.YtdkmoaokclnopaaWShare
import Derived.Test.YtdkmoaokclnopaaWN
import Derived.Test.YtdkmoaokclnopaaWFootNe
import Derived.Test.YtdkmoaokclnopaaWAt
import Derived.Test.YtdkmoaokclnopaaWEqStruct
import Derived.Test.YtdkmoaokclnopaaWRepsOne
import Derived.Test.YtdkmoaokclnopaaWInv
import Derived.Test.YtdkmoaokclnopaaWInvWords
import Derived.Test.YtdkmoaokclnopaaWGuard
import Derived.Test.YtdkmoaokclnopaaWNEv
import Derived.Test.YtdkmoaokclnopaaWMore
namespace Go.Proofs.Ytdkmoaokclnopaa.PFnExactVoteBytes
open Go.RowKit Go.Proofs.YtdkmoaokclnopaaW.PrintWords Go.Proofs.YtdkmoaokclnopaaW.PrintLast Go.Proofs.YtdkmoaokclnopaaW.PrintMore
attribute [local go_sem] max2_int min2_int max_two min_two max_three min_three max_four min_four   -- for this text's walks alone
set_option linter.unusedVariables false
set_option linter.unusedSimpArgs false



def errW : Option Int → Value
  | none => .nilIface
  | some c => .iface 0 (.int .i64 c)
theorem errW_none : errW none = .nilIface := rfl
theorem errW_some (c : Int) : errW (some c) = .iface 0 (.int .i64 c) := rfl

theorem info3 : (Try.prog.info? 3).map (fun i => (i.zero, i.size, i.bytes)) = some (some (.int .i64 0), 1, 8) := by kernel_rfl
theorem info5 : (Try.prog.info? 5).map (fun i => (i.zero, i.size, i.bytes)) = some (some (.int .u8 0), 1, 1) := by kernel_rfl
theorem info30 : (Try.prog.info? 30).map (fun i => (i.zero, i.size, i.bytes)) = some (some (.slice none 0 0), 1, 24) := by kernel_rfl
-- the values' own types
def rd_L2 (xs : List (List Int)) (i : Int) : (List Int) := xs.getD i.toNat ([] : List Int)
theorem at_L2 {w : World} {A : Option Addr} {n : Nat} {xs : List (List Int)} (h : Kd.C (Kd.slice 5 (Kd.int .u8)) w A n xs) (i : Int) (h0 : 0 ≤ i) (h1 : i < n) : ∃ ad A0 c0, A = some ad ∧ w.cell? (ad.add i.toNat) = some (.slice A0 (rd_L2 xs i).length c0) ∧ (rd_L2 xs i).length ≤ c0 ∧ (Kd.int .u8).C w A0 (rd_L2 xs i).length (rd_L2 xs i) := by
  obtain ⟨ad, c, e, _, hK, hc0⟩ := Kd.C_get h ([] : List Int) i h0 h1
  have hc : ∀ j u, c[j]? = some u → w.cell? (ad.add (i.toNat * 1 + j)) = some u := hc0
  obtain ⟨A0, c0, rfl, l0, g0⟩ := hK
  exact ⟨ad, A0, c0, e, by have hq := hc 0 _ rfl; rwa [Nat.mul_one, Nat.add_zero] at hq, l0, g0⟩


-- a row held against nil: the contract says that an empty row is the nil slice
theorem nil_eql {α : Type} {T E : Nat} {d : Kd α} {w : World} (hT : Try.prog.underlying T = some (.slice E)) {A : Option Addr} {c : Nat} {t : List α} {b : Bool} (hb : ((t.length : Int) == 0) = b) (hz : t = [] → (Value.slice A t.length c) = .slice none 0 0) (hC : d.C w A t.length t) : ∀ w' : World, (binOp .eql T (.slice A t.length c) (.slice none 0 0)).run Try.prog w' = .ok (.bool b) w' := by
  intro w'
  rw [Lib.run_eql_slice_nil w' T E A t.length c 0 0 hT]
  cases t with
  | nil => have h1 := hz rfl; cases h1; rw [← hb]; rfl
  | cons x l =>
    obtain ⟨ad, he, _⟩ := hC.2.2 (Nat.succ_pos _)
    subst he
    rw [← hb]
    have : (((x :: l).length : Int) == 0) = false := beq_eq_false_iff_ne.mpr (by simp only [List.length_cons]; omega)
    rw [this]; rfl
theorem nil_neq {α : Type} {T E : Nat} {d : Kd α} {w : World} (hT : Try.prog.underlying T = some (.slice E)) {A : Option Addr} {c : Nat} {t : List α} {b : Bool} (hb : ((t.length : Int) == 0) = b) (hz : t = [] → (Value.slice A t.length c) = .slice none 0 0) (hC : d.C w A t.length t) : ∀ w' : World, (binOp .neq T (.slice A t.length c) (.slice none 0 0)).run Try.prog w' = .ok (.bool (!b)) w' := by
  intro w'
  rw [run_neq_slice_nil_any w' T E A t.length c 0 0 hT]
  cases t with
  | nil => have h1 := hz rfl; cases h1; rw [← hb]; rfl
  | cons x l =>
    obtain ⟨ad, he, _⟩ := hC.2.2 (Nat.succ_pos _)
    subst he
    rw [← hb]
    have : (((x :: l).length : Int) == 0) = false := beq_eq_false_iff_ne.mpr (by simp only [List.length_cons]; omega)
    rw [this]; rfl
end Go.Proofs.Ytdkmoaokclnopaa.PFnExactVoteBytes
