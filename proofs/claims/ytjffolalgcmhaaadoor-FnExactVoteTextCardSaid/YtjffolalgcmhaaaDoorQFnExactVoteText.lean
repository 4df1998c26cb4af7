/- What the printed forms answer, over numbers and lists alone. Each lemma names its conditions. -/
import Derived.Test.YtjffolalgcmhaaaDoorGFnExactVoteTexta
import Derived.Lib.ItoaNum
namespace Go.Proofs.YtjffolalgcmhaaaDoorG
open Go Go.Proofs.YtjffolalgcmhaaaDoorRv Go.RowKit
set_option linter.unusedVariables false
set_option linter.unusedSimpArgs false


theorem impl_within.ev (a b c : Int) : Ev (fun k => impl_within.f k a b c) (decide (b ≤ a ∧ a ≤ c)) := by
  refine ev_step ?_
  simp only [impl_within.f, impl_within.b]
  exact ev_ite (fun h => ev_some (by simp [h])) (fun h => ev_some (by simp [h]))
theorem spec_l01In.ev (a b c : Int) : Ev (fun k => spec_l01In.f k a b c) (decide (b ≤ a ∧ a ≤ c)) := by
  refine ev_step ?_
  simp only [spec_l01In.f, spec_l01In.b]
  exact ev_ite (fun h => ev_some (by simp [show b ≤ a from h])) (fun h => ev_some (by simp [show ¬ b ≤ a from h]))
theorem impl_isNum.ev (a : Int) : Ev (fun k => impl_isNum.f k a) (isNum a) := by
  refine ev_step ?_
  simp only [impl_isNum.f, impl_isNum.b]
  exact Ev.bind (impl_within.ev _ _ _) (ev_some rfl)
theorem spec_l01Num.ev (a : Int) : Ev (fun k => spec_l01Num.f k a) (isNum a) := by
  refine ev_step ?_
  simp only [spec_l01Num.f, spec_l01Num.b]
  exact Ev.bind (spec_l01In.ev _ _ _) (ev_some rfl)


structure Row where
  f0 : Int
  z : Bool
  f1 : List Int
instance : Inhabited Row := ⟨⟨0, false, []⟩⟩
def Row.t (r : Row) : T := .agg [.int .i64 r.f0, .nums 5 .u8 r.z r.f1]
end Go.Proofs.YtjffolalgcmhaaaDoorG
namespace Go.Proofs.YtjffolalgcmhaaaDoorG
open Go Go.Proofs.YtjffolalgcmhaaaDoorRv Go.RowKit
set_option linter.unusedVariables false
set_option linter.unusedSimpArgs false


theorem rdI_nat {l : List Int} {n : Nat} (h : n < l.length) : rdI l (n : Int) = l[n] := by simp [rdI, h]
def bytesOk (b : List Int) : Prop := ∀ x ∈ b, 0 ≤ x ∧ x < 256

end Go.Proofs.YtjffolalgcmhaaaDoorG
namespace Go.Proofs.YtjffolalgcmhaaaDoorG
open Go Go.Proofs.YtjffolalgcmhaaaDoorRv Go.RowKit
set_option linter.unusedVariables false
set_option linter.unusedSimpArgs false

section
variable (y0 y1 y2 : Bool) (h b : List Int)



end
end Go.Proofs.YtjffolalgcmhaaaDoorG
namespace Go.Proofs.YtjffolalgcmhaaaDoorG
open Go Go.Proofs.YtjffolalgcmhaaaDoorRv Go.RowKit
set_option linter.unusedVariables false
set_option linter.unusedSimpArgs false


section
variable (z : Bool) (l : List Int)
end


theorem succ_nat (i : Nat) (h : i ≤ 1000000000) : wrap64 ((i : Int) + 1) = ((i + 1 : Nat) : Int) := by unfold wrap64; omega

end Go.Proofs.YtjffolalgcmhaaaDoorG
namespace Go.Proofs.YtjffolalgcmhaaaDoorG
open Go Go.Proofs.YtjffolalgcmhaaaDoorRv Go.RowKit
set_option linter.unusedVariables false
set_option linter.unusedSimpArgs false


def Row.ok (r : Row) : Prop := r.f1.length ≤ 1048576 ∧ bytesOk r.f1
def Rows (l : List Row) : Prop := l.length ≤ 1048576 ∧ ∀ r ∈ l, r.ok
theorem laws_szByteS.ev (z : Bool) (l : List Int) (h : l.length ≤ 9223372036854775807) (a : Int) (h0 : 0 ≤ a) (h1 : a ≤ 1048576) : ∃ r, Ev (fun k => laws_szByteS.f k z l a) r ∧ SzR (okB l) a r := by
  have e : wrap64 (a - (l.length : Int)) = a - (l.length : Int) := w64 (by omega) (by omega)
  by_cases c : (l.length : Int) ≤ a
  · refine ⟨a - l.length, ev_step ?_, Or.inr ⟨by omega, by omega, by unfold okB; omega⟩⟩
    simp only [laws_szByteS.f, laws_szByteS.b, e]
    clear e
    exact ev_neg (by omega) (ev_some rfl)
  · refine ⟨-1, ev_step ?_, Or.inl rfl⟩
    simp only [laws_szByteS.f, laws_szByteS.b, e]
    clear e
    exact ev_pos (by omega) (ev_some rfl)
theorem laws_toByteS.ev (z : Bool) (l : List Int) (h : okB l) : Ev (fun k => laws_toByteS.f k z l) (false, l) := by
  have hl : l.length ≤ 1048576 := h
  refine ev_step ?_
  simp only [laws_toByteS.f, laws_toByteS.b]
  refine ev_pos trivial (ev_pos (by omega) (ev_pos (by omega) ?_))
  have key : ∀ (d n : Nat) (ys : List Int), n + d = l.length → ys.length = l.length → ys.take n = l.take n → Ev (fun k => laws_toByteS.l0 k z l ys (n : Int)) (false, l) := by
    intro d
    induction d with
    | zero =>
      intro n ys hn hy ht
      refine ev_step ?_
      simp only [laws_toByteS.l0, laws_toByteS.l0b]
      refine ev_neg (by omega) (ev_some ?_)
      obtain rfl : n = l.length := by omega
      rw [List.take_length, ← hy, List.take_length] at ht
      rw [ht]
    | succ d ih =>
      intro n ys hn hy ht
      have hlt : n < l.length := by omega
      refine ev_step ?_
      have i2 := ih (n + 1) (ys.set n l[n]) (by omega) (by simp [hy]) (by
        rw [List.take_succ_eq_append_getElem (by simp; omega), List.take_succ_eq_append_getElem hlt, List.take_set_of_le (Nat.le_refl n), ht, List.getElem_set_self])
      simp only [laws_toByteS.l0, laws_toByteS.l0b, rdI_nat hlt, succ_nat n (by omega), Int.toNat_natCast]
      exact ev_pos (by omega) (ev_pos (by omega) (ev_pos (by omega) (ev_pos (by omega) (ev_pos (by omega) i2))))
  exact key l.length 0 _ (by omega) (by simp) (by simp)
theorem laws_eqByteS.ev (y z : Bool) (l : List Int) (h : okB l) : Ev (fun k => laws_eqByteS.f k y l z l) true := by
  have hl : l.length ≤ 1048576 := h
  refine ev_step ?_
  simp only [laws_eqByteS.f, laws_eqByteS.b]
  refine ev_neg (by simp) ?_
  have key : ∀ (d n : Nat), n + d = l.length → Ev (fun k => laws_eqByteS.l0 k y l z l (n : Int)) true := by
    intro d
    induction d with
    | zero =>
      intro n hn
      refine ev_step ?_
      simp only [laws_eqByteS.l0, laws_eqByteS.l0b]
      exact ev_neg (by omega) (ev_some rfl)
    | succ d ih =>
      intro n hn
      refine ev_step ?_
      simp only [laws_eqByteS.l0, laws_eqByteS.l0b, succ_nat n (by omega)]
      exact ev_pos (by omega) (ev_pos (by omega) (ev_pos (by omega) (ev_pos (by omega) (ev_pos (by omega) (ev_neg (by simp) (ih (n + 1) (by omega)))))))
  exact key l.length 0 (by omega)

end Go.Proofs.YtjffolalgcmhaaaDoorG
namespace Go.Proofs.YtjffolalgcmhaaaDoorG
open Go Go.Proofs.YtjffolalgcmhaaaDoorRv Go.RowKit
set_option linter.unusedVariables false
set_option linter.unusedSimpArgs false

theorem laws_szVote.ev (a b : Int) (x : Bool) (l : List Int) (hl : l.length ≤ 9223372036854775807) (w : Int) (y : Bool) (t : List Int) (ht : t.length ≤ 9223372036854775807) (c : Int) (h0 : 0 ≤ c) (h1 : c ≤ 1048576) : ∃ q, Ev (fun k => laws_szVote.f k a b x l w y t c) q ∧ SzR (okB l ∧ okB t) c q := by
  obtain ⟨q, e, s⟩ := laws_szByteS.ev x l hl c h0 h1
  rcases s with rfl | ⟨s1, s2, s3⟩
  · refine ⟨-1, ev_step ?_, Or.inl rfl⟩
    simp only [laws_szVote.f, laws_szVote.b]
    exact Ev.bind e (ev_pos (by omega) (ev_some rfl))
  obtain ⟨p, e2, s⟩ := laws_szByteS.ev y t ht q s1 (by omega)
  rcases s with rfl | ⟨t1, t2, t3⟩
  · refine ⟨-1, ev_step ?_, Or.inl rfl⟩
    simp only [laws_szVote.f, laws_szVote.b]
    exact Ev.bind e (ev_neg (by omega) (Ev.bind e2 (ev_pos (by omega) (ev_some rfl))))
  · refine ⟨p, ev_step ?_, Or.inr ⟨t1, by omega, s3, t3⟩⟩
    simp only [laws_szVote.f, laws_szVote.b]
    exact Ev.bind e (ev_neg (by omega) (Ev.bind e2 (ev_neg (by omega) (ev_some rfl))))
theorem laws_toVote.ev (a b : Int) (x : Bool) (l : List Int) (hl : okB l) (w : Int) (y : Bool) (t : List Int) (ht : okB t) : Ev (fun k => laws_toVote.f k a b x l w y t) (a, b, false, l, w, false, t) := by
  refine ev_step ?_
  simp only [laws_toVote.f, laws_toVote.b]
  exact Ev.bind (laws_toByteS.ev x l hl) (Ev.bind (laws_toByteS.ev y t ht) (ev_some rfl))
theorem laws_eqVote.ev (a b : Int) (x : Bool) (l : List Int) (hl : okB l) (w : Int) (y : Bool) (t : List Int) (ht : okB t) (x' y' : Bool) : Ev (fun k => laws_eqVote.f k a b x l w y t a b x' l w y' t) true := by
  refine ev_step ?_
  simp only [laws_eqVote.f, laws_eqVote.b]
  exact ev_neg (by simp) (ev_neg (by simp) (Ev.bind (laws_eqByteS.ev _ _ l hl) (ev_neg (by simp) (ev_neg (by simp) (Ev.bind (laws_eqByteS.ev _ _ t ht) (ev_neg (by simp) (ev_some rfl)))))))
end Go.Proofs.YtjffolalgcmhaaaDoorG
namespace Go.Proofs.YtjffolalgcmhaaaDoorG
open Go Go.Proofs.YtjffolalgcmhaaaDoorRv Go.RowKit
set_option linter.unusedVariables false
set_option linter.unusedSimpArgs false

structure By where
  z : Bool
  l : List Int
instance : Inhabited By := ⟨⟨false, []⟩⟩
def By.t (b : By) : T := .nums 5 .u8 b.z b.l
structure QcV where
  v : Int
  h : Int
  bz : Bool
  blk : List Int
  mz : Bool
  bits : List Int
  tz : Bool
  tags : List By
structure Head where
  v : Int
  h : Int
  p : Int
  az : Bool
  par : List Int
  rz : Bool
  root : List Int
  q : QcV
instance : Inhabited Head := ⟨⟨0, 0, 0, false, [], false, [], ⟨0, 0, false, [], false, [], false, []⟩⟩⟩
def Head.t (x : Head) : T := .agg [.int .i64 x.v, .int .i64 x.h, .int .i64 x.p, .nums 5 .u8 x.az x.par, .nums 5 .u8 x.rz x.root, .int .i64 x.q.v, .int .i64 x.q.h, .nums 5 .u8 x.q.bz x.q.blk, .nums 5 .u8 x.q.mz x.q.bits, .sl 28 x.q.tz (x.q.tags.map By.t)]
section
variable (x : Head)
end
end Go.Proofs.YtjffolalgcmhaaaDoorG
namespace Go.Proofs.YtjffolalgcmhaaaDoorG
open Go Go.Proofs.YtjffolalgcmhaaaDoorRv Go.RowKit
set_option linter.unusedVariables false
set_option linter.unusedSimpArgs false

structure Light where
  l0 : Int
  l1 : Int
  l2 : Int
  l3 : Int
  l4 : Int
  rz : Bool
  rows : List Row
  skip : Int
  bz : Bool
  buf : List Int
  cz : Bool
  chain : List Head
end Go.Proofs.YtjffolalgcmhaaaDoorG
namespace Go.Proofs.YtjffolalgcmhaaaDoorG
open Go Go.Proofs.YtjffolalgcmhaaaDoorRv Go.RowKit
set_option linter.unusedVariables false
set_option linter.unusedSimpArgs false

structure Sl (α : Type) where
  z : Bool
  l : List α
def goodI (n : Int) : Prop := (Lit.int .i64 n).wf = true
def By.good (b : By) : Prop := b.l.length ≤ 9223372036854775807 ∧ ∀ n ∈ b.l, (Lit.int .u8 n).wf = true
def GoodL {α : Type} (g : α → Prop) (l : List α) : Prop := l.length ≤ 9223372036854775807 ∧ ∀ x ∈ l, g x
def Row.good (r : Row) : Prop := goodI r.f0 ∧ By.good ⟨r.z, r.f1⟩
def Tab.good (x : Sl Row) : Prop := GoodL Row.good x.l
def QcV.good (q : QcV) : Prop := goodI q.v ∧ goodI q.h ∧ By.good ⟨q.bz, q.blk⟩ ∧ By.good ⟨q.mz, q.bits⟩ ∧ GoodL By.good q.tags
def Head.good (h : Head) : Prop := goodI h.v ∧ goodI h.h ∧ goodI h.p ∧ By.good ⟨h.az, h.par⟩ ∧ By.good ⟨h.rz, h.root⟩ ∧ h.q.good
structure Vt where
  v : Int
  h : Int
  bz : Bool
  blk : List Int
  who : Int
  tz : Bool
  tag : List Int
instance : Inhabited Vt := ⟨⟨0, 0, false, [], 0, false, []⟩⟩
def Vt.t (x : Vt) : T := .agg [.int .i64 x.v, .int .i64 x.h, .nums 5 .u8 x.bz x.blk, .int .i64 x.who, .nums 5 .u8 x.tz x.tag]
def Vt.good (x : Vt) : Prop := goodI x.v ∧ goodI x.h ∧ By.good ⟨x.bz, x.blk⟩ ∧ goodI x.who ∧ By.good ⟨x.tz, x.tag⟩
structure En where
  who : Int
  high : Int
  tz : Bool
  tag : List Int
instance : Inhabited En := ⟨⟨0, 0, false, []⟩⟩
def En.t (x : En) : T := .agg [.int .i64 x.who, .int .i64 x.high, .nums 5 .u8 x.tz x.tag]
def En.good (x : En) : Prop := goodI x.who ∧ goodI x.high ∧ By.good ⟨x.tz, x.tag⟩
structure Lm where
  l0 : Int
  l1 : Int
  l2 : Int
  l3 : Int
  l4 : Int
def Lm.good (x : Lm) : Prop := goodI x.l0 ∧ goodI x.l1 ∧ goodI x.l2 ∧ goodI x.l3 ∧ goodI x.l4
structure TcV where
  v : Int
  ez : Bool
  ents : List En
def TcV.good (x : TcV) : Prop := goodI x.v ∧ GoodL En.good x.ents
structure Ps where
  skip : Int
  z : Bool
  buf : List Int
def Ps.good (x : Ps) : Prop := goodI x.skip ∧ By.good ⟨x.z, x.buf⟩
def Light.good (x : Light) : Prop := Lm.good ⟨x.l0, x.l1, x.l2, x.l3, x.l4⟩ ∧ GoodL Row.good x.rows ∧ Ps.good ⟨x.skip, x.bz, x.buf⟩ ∧ GoodL Head.good x.chain
structure Fo where
  l0 : Int
  l1 : Int
  l2 : Int
  l3 : Int
  l4 : Int
  hz : Bool
  heads : List Head
def Fo.good (x : Fo) : Prop := Lm.good ⟨x.l0, x.l1, x.l2, x.l3, x.l4⟩ ∧ GoodL Head.good x.heads
structure Pf where
  hz : Bool
  heads : List Head
  q : QcV
def Pf.good (x : Pf) : Prop := GoodL Head.good x.heads ∧ x.q.good
end Go.Proofs.YtjffolalgcmhaaaDoorG
namespace Go.Proofs.YtjffolalgcmhaaaDoorG
open Go Go.Proofs.YtjffolalgcmhaaaDoorRv Go.RowKit
set_option linter.unusedVariables false
set_option linter.unusedSimpArgs false

end Go.Proofs.YtjffolalgcmhaaaDoorG
namespace Go.Proofs.YtjffolalgcmhaaaDoorG
open Go Go.Proofs.YtjffolalgcmhaaaDoorRv Go.RowKit
set_option linter.unusedVariables false
set_option linter.unusedSimpArgs false


end Go.Proofs.YtjffolalgcmhaaaDoorG
namespace Go.Proofs.YtjffolalgcmhaaaDoorG
open Go Go.Proofs.YtjffolalgcmhaaaDoorRv Go.RowKit
set_option linter.unusedVariables false
set_option linter.unusedSimpArgs false

end Go.Proofs.YtjffolalgcmhaaaDoorG
namespace Go.Proofs.YtjffolalgcmhaaaDoorG
open Go Go.Proofs.YtjffolalgcmhaaaDoorRv Go.RowKit
set_option linter.unusedVariables false
set_option linter.unusedSimpArgs false

end Go.Proofs.YtjffolalgcmhaaaDoorG
namespace Go.Proofs.YtjffolalgcmhaaaDoorG
open Go Go.Proofs.YtjffolalgcmhaaaDoorRv Go.RowKit
set_option linter.unusedVariables false
set_option linter.unusedSimpArgs false

end Go.Proofs.YtjffolalgcmhaaaDoorG
namespace Go.Proofs.YtjffolalgcmhaaaDoorG
open Go Go.Proofs.YtjffolalgcmhaaaDoorRv Go.RowKit
set_option linter.unusedVariables false
set_option linter.unusedSimpArgs false

end Go.Proofs.YtjffolalgcmhaaaDoorG
namespace Go.Proofs.YtjffolalgcmhaaaDoorG
open Go Go.Proofs.YtjffolalgcmhaaaDoorRv Go.RowKit
set_option linter.unusedVariables false
set_option linter.unusedSimpArgs false

structure QcK (q : QcV) : Prop where
  v : isNum q.v = true
  h : isNum q.h = true
  blk : q.blk.length = 32
  bits : q.bits.length ≤ 2
  cnt : q.tags.length ≤ 16
  tags : ∀ b ∈ q.tags, b.l.length = 32
structure HeadK (x : Head) : Prop where
  v : isNum x.v = true
  h : isNum x.h = true
  p : isNum x.p = true
  par : x.par.length = 32
  root : x.root.length = 32
  q : QcK x.q
end Go.Proofs.YtjffolalgcmhaaaDoorG
namespace Go.Proofs.YtjffolalgcmhaaaDoorG
open Go Go.Proofs.YtjffolalgcmhaaaDoorRv Go.RowKit
set_option linter.unusedVariables false
set_option linter.unusedSimpArgs false


def str (l : List UInt8) : ByteArray := ⟨l.toArray⟩
theorem str_app (a b : List UInt8) : str a ++ str b = str (a ++ b) := by
  unfold str
  rw [ByteArray.mk_append_mk]

theorem str_sz (l : List UInt8) : (str l).size = l.length := by simp [str, ByteArray.size]
theorem lit_sz (l : List UInt8) : (ByteArray.mk (List.toArray l)).size = l.length := by simp [ByteArray.size]
theorem strOf_sz (l : List Int) : (strOf l).size = l.length := by simp [strOf, ByteArray.size]
theorem digits_le : ∀ (d u : Nat), u < 10 ^ (d + 1) → (Lib.decDigits u).length ≤ d + 1
  | 0, u, h => by rw [Lib.decDigits, dif_pos (by simpa using h)]; simp
  | d + 1, u, h => by
    by_cases c : u < 10
    · rw [Lib.decDigits, dif_pos c]; simp
    · rw [Lib.decDigits, dif_neg c]
      have e : 10 ^ (d + 1 + 1) = 10 ^ (d + 1) * 10 := Nat.pow_succ 10 (d + 1)
      have := digits_le d (u / 10) (by omega)
      simp only [List.length_append, List.length_cons, List.length_nil]
      omega
def numT (n : Int) : ByteArray := if isNum n = true then itoaB n else ⟨#[]⟩
theorem itoa_pos {n : Int} (h : 0 ≤ n) : itoaB n = str (Lib.decDigits n.toNat) := by
  unfold itoaB Lib.itoa str
  rw [if_neg (by omega)]
theorem numT_sz (n : Int) : (numT n).size ≤ 20 := by
  unfold numT
  split
  · rename_i h
    have h := isNum_iff.1 h
    rw [itoa_pos h.1, str_sz]
    exact Nat.le_trans (digits_le 18 n.toNat (by omega)) (by decide)
  · simp [ByteArray.size]
theorem strconv_Itoa.ev {n : Int} (h : isNum n = true) : Ev (fun k => strconv_Itoa.f k n) (itoaB n) := by
  have h := isNum_iff.1 h
  simp only [strconv_Itoa.f]
  exact ev_pos (by unfold inI; exact decide_eq_true ⟨by omega, by omega⟩) (ev_some rfl)
theorem impl_NumText.ev (n : Int) : Ev (fun k => impl_NumText.f k n) (numT n) := by
  refine ev_step ?_
  simp only [impl_NumText.f, impl_NumText.b]
  unfold numT
  refine Ev.bind (impl_isNum.ev n) (ev_ite (fun q => ev_some ?_) (fun q => ?_))
  · rw [if_neg q]
  · have q : isNum n = true := by simpa using q
    rw [if_pos q]
    exact Ev.bind (strconv_Itoa.ev q) (ev_some rfl)
theorem digit_str {u : Nat} (h : u < 10) : strOf [(wrap64 ((48 : Int) + (u : Int))) % 256] = str [UInt8.ofNat (48 + u)] := by
  have : (wrap64 ((48 : Int) + (u : Int)) % 256).toNat = 48 + u := by unfold wrap64; omega
  simp [strOf, str, this]
theorem spec_NumText.ev0 : ∀ (d u : Nat) (s : List UInt8), u < 10 ^ (d + 1) → d ≤ 18 → s.length + d ≤ 30 → Ev (fun k => spec_NumText.l0 k (u : Int) (str s)) (str (Lib.decDigits u ++ s))
  | d, u, s, h, hd, hs => by
    have h18 : 10 ^ (d + 1) ≤ 10 ^ 19 := Nat.pow_le_pow_right (by decide) (by omega)
    refine ev_step ?_
    simp only [spec_NumText.l0, spec_NumText.l0b]
    by_cases c : u < 10
    · rw [digit_str c]
      refine ev_neg (by omega) (ev_pos (by rw [str_sz, str_sz]; simp; omega) (ev_some ?_))
      rw [str_app, Lib.decDigits, dif_pos c]
    · have e1 : Int.tmod (u : Int) 10 = ((u % 10 : Nat) : Int) := by rw [Int.tmod_eq_emod_of_nonneg (by omega)]; omega
      have e2 : wrap64 (Int.tdiv (u : Int) 10) = ((u / 10 : Nat) : Int) := by rw [Int.tdiv_eq_ediv_of_nonneg (by omega), w64 (by omega) (by omega)]; omega
      rw [e1, e2, digit_str (u := u % 10) (by omega)]
      cases d with
      | zero => simp at h; omega
      | succ d =>
        have e : 10 ^ (d + 1 + 1) = 10 ^ (d + 1) * 10 := Nat.pow_succ 10 (d + 1)
        have ih := spec_NumText.ev0 d (u / 10) (UInt8.ofNat (48 + u % 10) :: s) (by omega) (by omega) (by simp; omega)
        refine ev_pos (by omega) (ev_pos (by rw [str_sz, str_sz]; simp; omega) ?_)
        rw [str_app]
        refine ev_to ih ?_
        rw [Lib.decDigits.eq_def u, dif_neg c]
        simp
theorem spec_NumText.ev (n : Int) : Ev (fun k => spec_NumText.f k n) (numT n) := by
  refine ev_step ?_
  simp only [spec_NumText.f, spec_NumText.b]
  unfold numT
  refine Ev.bind (spec_l01Num.ev n) (ev_ite (fun q => ev_some ?_) (fun q => ?_))
  · rw [if_neg q]
  · have q : isNum n = true := by simpa using q
    rw [if_pos q]
    have h := isNum_iff.1 q
    have := spec_NumText.ev0 18 n.toNat [] (by omega) (by omega) (by simp)
    rw [List.append_nil, show ((n.toNat : Nat) : Int) = n by omega] at this
    rw [itoa_pos h.1]
    exact this
theorem hex_bt : ∀ n : Fin 16, btI (⟨#[48, 49, 50, 51, 52, 53, 54, 55, 56, 57, 97, 98, 99, 100, 101, 102]⟩ : ByteArray) ((n.val : Nat) : Int) = hexd ((n.val : Nat) : Int) := by decide
theorem hex_at {n : Int} (h0 : 0 ≤ n) (h1 : n < 16) : btI (⟨#[48, 49, 50, 51, 52, 53, 54, 55, 56, 57, 97, 98, 99, 100, 101, 102]⟩ : ByteArray) n = hexd n := by
  have := hex_bt ⟨n.toNat, by omega⟩
  rwa [show ((n.toNat : Nat) : Int) = n by omega] at this
theorem u8_15 : ∀ n : Fin 256, Go.bits .and .u8 ((n.val : Nat) : Int) 15 = ((n.val % 16 : Nat) : Int) := by decide +kernel
theorem u8_and15 {x : Int} (h0 : 0 ≤ x) (h1 : x < 256) : Go.bits .and .u8 x 15 = x % 16 := by
  have := u8_15 ⟨x.toNat, by omega⟩
  simp only at this
  rw [show ((x.toNat : Nat) : Int) = x by omega] at this
  rw [this]
  omega
theorem shr4 (x : Int) : shrI .u8 x 4 = x / 16 := by
  unfold shrI
  rfl
theorem rd_nib {l : List Int} (h : niceB l) {n : Nat} (hn : n < l.length) : 0 ≤ rdI l (n : Int) ∧ rdI l (n : Int) < 256 := by
  rw [rd_nat hn]
  exact h.2 _ (List.getElem_mem hn)
def hexT (l : List Int) : ByteArray := strOf (hex l)
theorem hexT_sz (l : List Int) : (hexT l).size = 2 * l.length := by rw [hexT, strOf_sz, hex_length]
theorem impl_HexText.ev0 (z : Bool) (l : List Int) (h : niceB l) : ∀ (d n : Nat) (acc : List Int), n + d = l.length → acc.length ≤ 2 * n → Ev (fun k => impl_HexText.l0 k acc z l (l.length : Int) (n : Int)) (strOf (acc ++ hex (l.drop n))) := by
  have hl := h.1
  intro d
  induction d with
  | zero =>
    intro n acc hn ha
    refine ev_step ?_
    simp only [impl_HexText.l0, impl_HexText.l0b]
    refine ev_neg (by omega) (ev_some ?_)
    rw [List.drop_of_length_le (by omega)]
    simp [hex]
  | succ d ih =>
    intro n acc hn ha
    have hlt : n < l.length := by omega
    have b := rd_nib h hlt
    have i2 := ih (n + 1) (acc ++ [hexd (rdI l (n : Int) / 16), hexd (rdI l (n : Int) % 16)]) (by omega) (by simp; omega)
    refine ev_step ?_
    simp only [impl_HexText.l0, impl_HexText.l0b]
    rw [u8_and15 b.1 b.2, shr4, hex_at (n := rdI l (n : Int) / 16) (by omega) (by omega), hex_at (n := rdI l (n : Int) % 16) (by omega) (by omega), w64s (by omega), lit_sz]
    simp only [List.length_cons, List.length_nil]
    refine ev_pos (by omega) (ev_pos (by omega) (ev_pos (by omega) (ev_pos (by omega) (ev_pos (by omega) (ev_pos (by omega) (ev_pos (by omega) (ev_pos (by omega) (ev_to i2 ?_))))))))
    rw [drop_rd hlt, hex]
    simp
theorem impl_HexText.ev (z : Bool) (l : List Int) (h : niceB l) : Ev (fun k => impl_HexText.f k z l) (hexT l) := by
  refine ev_step ?_
  simp only [impl_HexText.f, impl_HexText.b]
  exact ev_to (impl_HexText.ev0 z l h l.length 0 [] (by omega) (by simp)) (by simp [hexT])
theorem spec_l01Hex.ev (n : Int) (h0 : 0 ≤ n) (h1 : n < 16) : Ev (fun k => spec_l01Hex.f k n) (hexd n) := by
  refine ev_step ?_
  simp only [spec_l01Hex.f, spec_l01Hex.b]
  unfold hexd
  refine ev_ite (fun q => ev_some ?_) (fun q => ev_some ?_)
  · rw [if_pos q, w64 (by omega) (by omega), Int.emod_eq_of_lt (by omega) (by omega)]
  · rw [if_neg q, w64 (by omega) (by omega), Int.emod_eq_of_lt (by omega) (by omega)]
theorem spec_HexText.ev0 (z : Bool) (l : List Int) (h : niceB l) : ∀ (d n : Nat) (acc : List Int), n + d = l.length → acc.length ≤ 2 * n → Ev (fun k => spec_HexText.l0 k acc z l (l.length : Int) (n : Int)) (strOf (acc ++ hex (l.drop n))) := by
  have hl := h.1
  intro d
  induction d with
  | zero =>
    intro n acc hn ha
    refine ev_step ?_
    simp only [spec_HexText.l0, spec_HexText.l0b]
    refine ev_neg (by omega) (ev_some ?_)
    rw [List.drop_of_length_le (by omega)]
    simp [hex]
  | succ d ih =>
    intro n acc hn ha
    have hlt : n < l.length := by omega
    have b := rd_nib h hlt
    have i2 := ih (n + 1) (acc ++ [hexd (rdI l (n : Int) / 16), hexd (rdI l (n : Int) % 16)]) (by omega) (by simp; omega)
    refine ev_step ?_
    simp only [spec_HexText.l0, spec_HexText.l0b]
    rw [w64 (n := rdI l (n : Int)) (by omega) (by omega), Int.tdiv_eq_ediv_of_nonneg b.1, Int.tmod_eq_emod_of_nonneg b.1, w64 (n := rdI l (n : Int) / 16) (by omega) (by omega), w64s (by omega)]
    refine ev_pos (by omega) (ev_pos (by omega) (ev_pos (by omega) (Ev.bind (spec_l01Hex.ev _ (by omega) (by omega)) (Ev.bind (spec_l01Hex.ev _ (by omega) (by omega)) (ev_pos (by omega) (ev_to i2 ?_))))))
    rw [drop_rd hlt, hex]
    simp
theorem spec_HexText.ev (z : Bool) (l : List Int) (h : niceB l) : Ev (fun k => spec_HexText.f k z l) (hexT l) := by
  refine ev_step ?_
  simp only [spec_HexText.f, spec_HexText.b]
  exact ev_to (spec_HexText.ev0 z l h l.length 0 [] (by omega) (by simp)) (by simp [hexT])
def shortT (l : List Int) : ByteArray := hexT (l.take 4)
theorem shortT_sz (l : List Int) : (shortT l).size ≤ 8 := by rw [shortT, hexT_sz, List.length_take]; omega
theorem impl_Short.ev (z : Bool) (l : List Int) (h : niceB l) : Ev (fun k => impl_Short.f k z l) (shortT l) := by
  have e : (mnI (l.length : Int) 4).toNat = min l.length 4 := by unfold mnI; split <;> omega
  have b : 0 ≤ mnI (l.length : Int) 4 ∧ mnI (l.length : Int) 4 ≤ (l.length : Int) := by unfold mnI; split <;> omega
  have e2 : l.take (min l.length 4) = l.take 4 := by rw [List.take_eq_take_iff]; omega
  refine ev_step ?_
  simp only [impl_Short.f, impl_Short.b, List.drop_zero]
  rw [e, e2]
  exact ev_pos b.1 (ev_pos b.2 (ev_pos b.1 (Ev.bind (impl_HexText.ev _ _ (niceB_take h 4)) (ev_some rfl))))
theorem spec_Short.ev (z : Bool) (l : List Int) (h : niceB l) : Ev (fun k => spec_Short.f k z l) (shortT l) := by
  refine ev_step ?_
  simp only [spec_Short.f, spec_Short.b, List.drop_zero]
  refine ev_ite (fun q => ev_pos (by omega) (Ev.bind (spec_HexText.ev _ _ (niceB_take h 4)) (ev_some rfl))) (fun q => Ev.bind (spec_HexText.ev _ _ h) (ev_some ?_))
  rw [shortT, List.take_of_length_le (by omega)]
def placeT (a b : Int) : ByteArray := numT a ++ (⟨#[47]⟩ : ByteArray) ++ numT b
theorem placeT_sz (a b : Int) : (placeT a b).size ≤ 41 := by
  have := numT_sz a
  have := numT_sz b
  unfold placeT
  simp only [ByteArray.size_append, lit_sz, List.length_cons, List.length_nil]
  omega
theorem impl_place.ev (a b : Int) : Ev (fun k => impl_place.f k a b) (placeT a b) := by
  have h1 := numT_sz a
  have h2 := numT_sz b
  refine ev_step ?_
  simp only [impl_place.f, impl_place.b]
  refine Ev.bind (impl_NumText.ev a) (ev_pos ?_ (Ev.bind (impl_NumText.ev b) (ev_pos ?_ (ev_some rfl)))) <;> (simp only [ByteArray.size_append, lit_sz, List.length_cons, List.length_nil]; omega)
end Go.Proofs.YtjffolalgcmhaaaDoorG
namespace Go.Proofs.YtjffolalgcmhaaaDoorG
open Go Go.Proofs.YtjffolalgcmhaaaDoorRv Go.RowKit
set_option linter.unusedVariables false
set_option linter.unusedSimpArgs false
def voteT (v h : Int) (blk : List Int) (who : Int) : ByteArray := (⟨#[118, 111, 116, 101, 32]⟩ : ByteArray) ++ placeT v h ++ (⟨#[32]⟩ : ByteArray) ++ shortT blk ++ (⟨#[32]⟩ : ByteArray) ++ numT who
theorem impl_VoteText.ev (v h : Int) (y : Bool) (blk : List Int) (hb : niceB blk) (who : Int) (x : Bool) (tag : List Int) : Ev (fun k => impl_VoteText.f k v h y blk who x tag) (voteT v h blk who) := by
  have := placeT_sz v h
  have := numT_sz v
  have := numT_sz h
  have := shortT_sz blk
  have := numT_sz who
  refine ev_step ?_
  simp only [impl_VoteText.f, impl_VoteText.b]
  refine Ev.bind (impl_place.ev v h) (ev_pos ?_ (ev_pos ?_ (Ev.bind (impl_Short.ev _ _ hb) (ev_pos ?_ (ev_pos ?_ (Ev.bind (impl_NumText.ev who) (ev_pos ?_ (ev_some rfl)))))))) <;> (simp only [ByteArray.size_append, lit_sz, List.length_cons, List.length_nil]; omega)
theorem spec_VoteText.ev (v h : Int) (y : Bool) (blk : List Int) (hb : niceB blk) (who : Int) (x : Bool) (tag : List Int) : Ev (fun k => spec_VoteText.f k v h y blk who x tag) (voteT v h blk who) := by
  have := placeT_sz v h
  have := numT_sz v
  have := numT_sz h
  have := shortT_sz blk
  have := numT_sz who
  refine ev_step ?_
  simp only [spec_VoteText.f, spec_VoteText.b]
  refine Ev.bind (spec_NumText.ev v) (ev_pos ?_ (ev_pos ?_ (Ev.bind (spec_NumText.ev h) (ev_pos ?_ (ev_pos ?_ (Ev.bind (spec_Short.ev _ _ hb) (ev_pos ?_ (ev_pos ?_ (Ev.bind (spec_NumText.ev who) (ev_pos ?_ (ev_some (by unfold voteT; simp only [placeT, ByteArray.append_assoc])))))))))))) <;> (simp only [ByteArray.size_append, lit_sz, List.length_cons, List.length_nil]; omega)
theorem laws_FnExactVoteText.top (x0 : Vt) (g0 : Vt.good x0) : Ev (fun k => laws_FnExactVoteText.f k x0.v x0.h x0.bz x0.blk x0.who x0.tz x0.tag) true := by
  refine ev_step ?_
  simp only [laws_FnExactVoteText.f, laws_FnExactVoteText.b]
  obtain ⟨r, e1, s⟩ := laws_szVote.ev x0.v x0.h x0.bz x0.blk g0.2.2.1.1 x0.who x0.tz x0.tag g0.2.2.2.2.1 1048576 (by omega) (by omega)
  rcases s with rfl | ⟨s1, s2, ok1, ok2⟩
  · exact Ev.bind e1 (ev_pos (by omega) (ev_some rfl))
  have nb : niceB x0.blk := niceB_of g0.2.2.1 ok1
  have T := laws_toVote.ev x0.v x0.h x0.bz x0.blk ok1 x0.who x0.tz x0.tag ok2
  exact Ev.bind e1 (ev_neg (by omega) (Ev.bind T (Ev.bind (spec_VoteText.ev _ _ _ _ nb _ _ _) (Ev.bind T (Ev.bind (impl_VoteText.ev _ _ _ _ nb _ _ _) (ev_neg (by simp) (Ev.bind T (Ev.bind (laws_eqVote.ev x0.v x0.h false x0.blk ok1 x0.who false x0.tag ok2 false false) (ev_neg (by simp) (ev_some rfl))))))))))
structure Blk where
  hd : Head
  tz : Bool
  txs : List By
def Blk.good (x : Blk) : Prop := Head.good x.hd ∧ GoodL By.good x.txs
structure Sd where
  k : Int
  n : Int
def Sd.good (x : Sd) : Prop := goodI x.k ∧ goodI x.n
structure Inc where
  h : Int
  n : Int
  at_ : Int
  xz : Bool
  tx : List Int
  pz : Bool
  path : List By
def Inc.good (x : Inc) : Prop := goodI x.h ∧ goodI x.n ∧ goodI x.at_ ∧ By.good ⟨x.xz, x.tx⟩ ∧ GoodL By.good x.path
end Go.Proofs.YtjffolalgcmhaaaDoorG
