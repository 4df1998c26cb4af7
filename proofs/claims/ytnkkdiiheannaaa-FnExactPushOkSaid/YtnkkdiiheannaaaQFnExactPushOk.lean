/- What the printed functions of FnExactPushOk come to, in plain terms. No condition beside those that each lemma names. -/
import Derived.Test.YtnkkdiiheannaaaFFnExactPushOkx0
import Derived.Test.YtnkkdiiheannaaaFFnExactPushOkx1
import Derived.Test.YtnkkdiiheannaaaFFnExactPushOkx2
import Derived.Test.YtnkkdiiheannaaaFFnExactPushOkx3
import Derived.Test.YtnkkdiiheannaaaFFnExactPushOkx4
import Derived.Test.YtnkkdiiheannaaaFFnExactPushOkx5
import Derived.Test.YtnkkdiiheannaaaBits
import Derived.Test.YtnkkdiiheannaaaCrc
import Derived.Test.YtnkkdiiheannaaaEv
import Derived.Test.YtnkkdiiheannaaaRd
namespace Go.Proofs.Ytnkkdiiheannaaa.PFnExactPushOk
open Go.RowKit Go.Proofs.YtnkkdiiheannaaaW.PrintWords Go.Proofs.YtnkkdiiheannaaaW.PrintLast Go.Proofs.YtnkkdiiheannaaaR
set_option linter.unusedVariables false
set_option linter.unusedSimpArgs false

theorem laws_szByteS.ev (l : List Int) (h : l.length ≤ 9223372036854775807) (a : Int) (h0 : 0 ≤ a) (h1 : a ≤ 1048576) : ∃ r, Ev (fun _ => laws_szByteS.f l a) r ∧ SzR (okB l) a r := by
  unfold laws_szByteS.f
  rw [w64 (by omega) (by omega)]
  by_cases c : (l.length : Int) ≤ a
  · exact ⟨a - l.length, ev_neg (by omega) (ev_some rfl), Or.inr ⟨by omega, by omega, by unfold okB; omega⟩⟩
  · exact ⟨-1, ev_pos (by omega) (ev_some rfl), Or.inl rfl⟩

theorem laws_szPush.ev (x0 : Int) (x1 : List Int) (h : (x1.length ≤ 9223372036854775807)) (a : Int) (h0 : 0 ≤ a) (h1 : a ≤ 1048576) : ∃ r, Ev (fun k => laws_szPush.f x0 x1 a) r ∧ SzR (okB x1) a r := by
  unfold laws_szPush.f
  have g0 := h
  obtain ⟨r0, e0, s0⟩ := laws_szByteS.ev x1 g0 a h0 h1
  rcases s0 with rfl | ⟨p0, q0, o0⟩
  · exact ⟨-1, Ev.bind e0 (ev_pos (by omega) (ev_some rfl)), Or.inl rfl⟩
  exact ⟨r0, Ev.bind e0 (ev_neg (by omega) (ev_some rfl)), Or.inr ⟨p0, by omega, o0⟩⟩

theorem spec_l01In.eq (a b c : Int) : spec_l01In.f a b c = some (decide (b ≤ a ∧ a ≤ c)) := by
  unfold spec_l01In.f
  split <;> simp_all <;> omega

theorem spec_l02Signers.eq (a : Int) : spec_l02Signers.f a = some (decide (1 ≤ a ∧ a ≤ 10)) := by
  unfold spec_l02Signers.f
  rw [spec_l01In.eq]
  rfl

theorem spec_LimitsOk.eq (a b c d e : Int) : spec_LimitsOk.f a b c d e = some (limitsOk a b c d e) := by
  unfold spec_LimitsOk.f limitsOk
  simp only [spec_l02Signers.eq, spec_l01In.eq, Option.bind_some, decide_eq_true_eq]
  repeat' split
  all_goals (simp_all; try omega)
theorem spec_LimitsOk.ev (a b c d e : Int) : Ev (fun k => spec_LimitsOk.f a b c d e) (limitsOk a b c d e) := ev_eq (spec_LimitsOk.eq a b c d e)

theorem spec_l01Num.eq (n : Int) : spec_l01Num.f n = some (isNum n) := by
  unfold spec_l01Num.f isNum
  rw [spec_l01In.eq]
  rfl

theorem spec_GetFix.ev0 (b : List Int) (hb : niceB b) (i w : Nat) (hw : w ≤ 7) (h : i + w ≤ b.length) : ∀ (d : Nat) (acc : Int), d ≤ w → 0 ≤ acc → acc < 256 ^ (w - d) → Ev (fun k => spec_GetFix.l0 k b (i : Int) (w : Int) acc ((d : Int) - 1)) (acc * 256 ^ d + leVal ((b.drop i).take d), ((i + w : Nat) : Int), 0) := by
  have hl := hb.1
  intro d
  induction d with
  | zero =>
    intro acc hd h0 h1
    refine ev_step ?_
    simp only [spec_GetFix.l0]
    rw [w64 (n := (i : Int) + w) (by omega) (by omega)]
    refine ev_neg (by omega) (ev_some ?_)
    simp [leVal]
  | succ d ih =>
    intro acc hd h0 h1
    have hlt : i + d < b.length := by omega
    have hx := hb.2 _ (List.getElem_mem hlt)
    have p : (256 : Int) ^ (w - d) = 256 ^ (w - (d + 1)) * 256 := by rw [← Int.pow_succ]; congr 1; omega
    have p6 : (256 : Int) ^ (w - (d + 1)) ≤ 256 ^ 6 := pow256_le (by omega)
    have e6 : (256 : Int) ^ 6 = 281474976710656 := by decide
    have e0 : (((d + 1 : Nat) : Int) - 1) = (d : Int) := by omega
    refine ev_step ?_
    simp only [spec_GetFix.l0]
    rw [e0, w64 (n := (i : Int) + d) (by omega) (by omega), show ((i : Int) + (d : Int)) = ((i + d : Nat) : Int) by omega, rd_nat hlt, w64 (n := b[i + d]) (by omega) (by omega), w64 (n := acc * 256) (by omega) (by omega), w64 (n := acc * 256 + b[i + d]) (by omega) (by omega), w64 (n := (d : Int) - 1) (by omega) (by omega)]
    refine ev_pos (by omega) (ev_pos (by omega) (ev_pos (by omega) (ev_to (ih _ (by omega) (by omega) (by omega)) ?_)))
    have e : ((b.drop i).take (d + 1)) = (b.drop i).take d ++ [b[i + d]] := by
      rw [List.take_succ_eq_append_getElem (by simp; omega), List.getElem_drop]
    rw [e, leVal_snoc, List.length_take, List.length_drop, Nat.min_eq_left (by omega), Int.pow_succ, Int.add_mul, Int.mul_assoc, Int.mul_comm 256 (256 ^ d), Int.mul_comm (b[i + d])]
    congr 1
    omega
theorem spec_GetFix.in (b : List Int) (hb : niceB b) (i w : Nat) (hw : 1 ≤ w) (hw' : w ≤ 7) (h : i + w ≤ b.length) : Ev (fun k => spec_GetFix.f k b (i : Int) (w : Int)) (leVal ((b.drop i).take w), ((i + w : Nat) : Int), 0) := by
  have hl := hb.1
  unfold spec_GetFix.f
  rw [w64 (n := (b.length : Int) - w) (by omega) (by omega)]
  simp only [spec_l01In.eq, Option.bind_some, decide_eq_true_eq]
  refine ev_pos (by omega) (ev_neg (by omega) (ev_step ?_))
  simp only [spec_GetFix.j0]
  rw [w64 (n := (w : Int) - 1) (by omega) (by omega)]
  refine ev_neg (by simp; omega) (ev_to (spec_GetFix.ev0 b hb i w hw' h w 0 (Nat.le_refl _) (by omega) (by simp)) ?_)
  simp

theorem spec_l03Sum.eq (c : Int) : spec_l03Sum.f c = some (decide (0 ≤ c ∧ c ≤ 4294967295)) := by
  unfold spec_l03Sum.f
  rw [spec_l01In.eq]
  rfl

theorem spec_l03Turn.eq (c : Int) (h0 : 0 ≤ c) (h1 : c < 4294967296) : spec_l03Turn.f c = some (crcTurn c) := by
  unfold spec_l03Turn.f crcTurn
  rw [Int.tmod_eq_emod_of_nonneg h0, Int.tdiv_eq_ediv_of_nonneg h0, w64 (n := c / 2) (by omega) (by omega)]
  split <;> rfl

theorem spec_CrcMore.ev1 (l : List Int) (i : Int) : ∀ (d n : Nat) (c : Int) (r : Int), n + d = 8 → 0 ≤ c → c < 4294967296 → Ev (fun k => spec_CrcMore.l0 k (crcTurns d c) l (l.length : Int) (wrap64 (i + 1))) r → Ev (fun k => spec_CrcMore.l1 k c (n : Int) l (l.length : Int) i) r := by
  intro d
  induction d with
  | zero =>
    intro n c r hn h0 h1 hr
    refine ev_step ?_
    simp only [spec_CrcMore.l1]
    exact ev_neg (by omega) hr
  | succ d ih =>
    intro n c r hn h0 h1 hr
    have b := crcTurn_bd h0 h1
    refine ev_step ?_
    simp only [spec_CrcMore.l1, spec_l03Turn.eq c h0 h1, Option.bind_some]
    rw [w64s (by omega)]
    exact ev_pos (by omega) (ih (n + 1) _ r (by omega) b.1 b.2 hr)
theorem spec_CrcMore.ev0 (l : List Int) (h : niceB l) : ∀ (d n : Nat) (c : Int), n + d = l.length → 0 ≤ c → c < 4294967296 → Ev (fun k => spec_CrcMore.l0 k c l (l.length : Int) (n : Int)) (bits .xor .i64 (crcFold c (l.drop n)) 4294967295) := by
  have hl := h.1
  intro d
  induction d with
  | zero =>
    intro n c hn h0 h1
    refine ev_step ?_
    simp only [spec_CrcMore.l0]
    refine ev_neg (by omega) (ev_some ?_)
    rw [List.drop_of_length_le (by omega)]
    rfl
  | succ d ih =>
    intro n c hn h0 h1
    have hlt : n < l.length := by omega
    have b := rd_nice h (n : Int)
    have g1 : (n : Int) < (l.length : Int) := by omega
    have g2 : (0 : Int) ≤ (n : Int) := by omega
    have g3 : n + 1 + d = l.length := by omega
    have g4 : wrap64 ((n : Int) + 1) = ((n + 1 : Nat) : Int) := w64s (by omega)
    have g5 : wrap64 (rd l (n : Int)) = rd l (n : Int) := w64 (by omega) (by omega)
    have x := xor32 h0 h1 b.1 (show rd l (n : Int) < 4294967296 by omega)
    refine ev_step ?_
    simp only [spec_CrcMore.l0]
    rw [g5, drop_rd hlt, crcFold_cons]
    have t := crcTurns_bd 8 x.1 x.2
    refine ev_pos g1 (ev_pos g2 (ev_pos g1 (spec_CrcMore.ev1 l (n : Int) 8 0 _ _ rfl x.1 x.2 ?_)))
    rw [g4]
    exact ih (n + 1) (crcStep c (rd l (n : Int))) g3 t.1 t.2

theorem spec_Crc.ev (l : List Int) (h : niceB l) : Ev (fun k => spec_Crc.f k l) (crcV l) := by
  unfold spec_Crc.f spec_CrcMore.f
  simp only [spec_l03Sum.eq, Option.bind_some]
  have b := xor32 (a := 0) (b := 4294967295) (by decide) (by decide) (by decide) (by decide)
  refine Ev.bind (ev_pos (by decide) (spec_CrcMore.ev0 l h l.length 0 _ (by omega) b.1 b.2)) (ev_some ?_)
  rw [List.drop_zero]
  rfl

theorem spec_FrameAt.ev (a b c d e : Int) (s : List Int) (i : Nat) (hs : niceB s) (hi : i ≤ s.length) : Ev (fun k => spec_FrameAt.f k a b c d e s (i : Int)) (frameAt (limitsOk a b c d e) d s i) := by
  have hl := hs.1
  unfold spec_FrameAt.f
  simp only [spec_LimitsOk.eq, spec_l01In.eq, Option.bind_some, decide_eq_true_eq]
  rw [w64 (n := (s.length : Int) - 1) (by omega) (by omega), w64s (by omega)]
  have no : frameAt (limitsOk a b c d e) d s i = (0, 0) → Ev (fun k => spec_FrameAt.j0 k s (i : Int) true a b c d e) (frameAt (limitsOk a b c d e) d s i) := by
    intro z
    refine ev_step ?_
    simp only [spec_FrameAt.j0]
    exact ev_pos trivial (ev_some z.symm)
  refine ev_ite (fun c1 => ?_) (fun c1 => no (if_pos (Or.inl (by simpa using c1))))
  refine ev_ite (fun c2 => ?_) (fun c2 => no (if_pos (Or.inr (Or.inl (by omega)))))
  refine ev_pos (by omega) (ev_pos (by omega) ?_)
  refine ev_ite (fun c3 => ?_) (fun c3 => no (if_pos (Or.inr (Or.inr (Or.inl c3)))))
  have yes : ¬(i + 1 < s.length ∧ rd s ((i + 1 : Nat) : Int) ≠ 70) → Ev (fun k => spec_FrameAt.j0 k s (i : Int) false a b c d e) (frameAt (limitsOk a b c d e) d s i) := by
    intro c4
    have z : ¬(limitsOk a b c d e = false ∨ s.length ≤ i ∨ rd s (i : Int) ≠ 181 ∨ (i + 1 < s.length ∧ rd s ((i + 1 : Nat) : Int) ≠ 70)) := by
      rintro (g | g | g | g)
      · rw [c1] at g; cases g
      · omega
      · exact g c3
      · exact c4 g
    unfold frameAt
    rw [if_neg z]
    refine ev_step ?_
    simp only [spec_FrameAt.j0, spec_l01In.eq, Option.bind_some, decide_eq_true_eq]
    rw [w64 (n := (s.length : Int) - i) (by omega) (by omega), w64 (n := (i : Int) + 2) (by omega) (by omega), w64 (n := (i : Int) + 4) (by omega) (by omega), w64 (n := (i : Int) + 8) (by omega) (by omega)]
    refine ev_neg (by simp) (ev_ite (fun c5 => ev_some (by rw [if_pos (by omega)])) (fun c5 => ?_))
    rw [if_neg (by omega), show ((i : Int) + 2) = ((i + 2 : Nat) : Int) by omega, show ((i : Int) + 4) = ((i + 4 : Nat) : Int) by omega]
    refine Ev.bind (spec_GetFix.in s hs (i + 2) 2 (by omega) (by omega) (by omega)) ?_
    generalize hn : leVal ((s.drop (i + 2)).take 2) = n
    have hd : d ≤ 4000 := by
      simp [limitsOk] at c1
      omega
    refine ev_ite (fun c6 => ?_) (fun c6 => ev_some (by rw [if_pos c6]))
    rw [if_neg (by omega), w64 (n := 8 + n) (by omega) (by omega), w64 (n := (i : Int) + 8 + n) (by omega) (by omega)]
    refine ev_ite (fun c7 => ev_some (by rw [if_pos (by omega)])) (fun c7 => ?_)
    rw [if_neg (by omega)]
    refine Ev.bind (spec_GetFix.in s hs (i + 4) 4 (by omega) (by omega) (by omega)) ?_
    refine ev_pos (by omega) (ev_pos (by omega) (ev_pos (by omega) ?_))
    have e8 : ((s.take ((i : Int) + 8 + n).toNat).drop ((i : Int) + 8).toNat) = (s.drop (i + 8)).take n.toNat := by
      rw [show ((i : Int) + 8 + n).toNat = (i + 8) + n.toNat by omega, show ((i : Int) + 8).toNat = i + 8 by omega, List.drop_take]
      congr 1
      omega
    rw [e8]
    refine Ev.bind (spec_Crc.ev _ (niceB_take (niceB_drop hs _) _)) (ev_ite (fun c8 => ev_some (by rw [if_pos c8])) (fun c8 => ev_some (by rw [if_neg c8])))
  refine ev_ite (fun c4 => ?_) (fun c4 => yes (by omega))
  refine ev_pos (by omega) ?_
  by_cases c5 : rd s ((i + 1 : Nat) : Int) = 70
  · rw [show (rd s ((i + 1 : Nat) : Int) != 70) = false by rw [c5]; rfl]
    exact yes (by intro g; exact g.2 c5)
  · rw [show (rd s ((i + 1 : Nat) : Int) != 70) = true from bne_iff_ne.2 c5]
    exact no (if_pos (Or.inr (Or.inr (Or.inr ⟨by omega, c5⟩))))

theorem spec_PushOk.ev (a b c d e sk : Int) (buf : List Int) (h : niceB buf) : Ev (fun k => spec_PushOk.f k a b c d e sk buf) (pushOk (limitsOk a b c d e) d sk buf) := by
  unfold spec_PushOk.f pushOk
  simp only [spec_LimitsOk.eq, spec_l01Num.eq, Option.bind_some]
  refine ev_ite (fun c1 => ?_) (fun c1 => ev_some (by simp [c1]))
  refine ev_ite (fun c2 => ?_) (fun c2 => ev_some (by simp [c2]))
  refine Ev.bind (spec_FrameAt.ev a b c d e buf 0 h (by omega)) ?_
  rw [c1]
  refine ev_ite (fun c3 => ev_some ?_) (fun c3 => ev_some ?_)
  · have : buf = [] := List.length_eq_zero_iff.1 (by omega)
    simp [this, c2]
  · have : buf ≠ [] := by intro z; rw [z] at c3; simp at c3
    simp [this, c2]

theorem laws_toLimits.ev (x0 : Int) (x1 : Int) (x2 : Int) (x3 : Int) (x4 : Int) : Ev (fun k => laws_toLimits.f x0 x1 x2 x3 x4) (x0, x1, x2, x3, x4) := by
  unfold laws_toLimits.f
  exact ev_some rfl

theorem laws_toByteS.ev (l : List Int) (h : okB l) : Ev (fun k => laws_toByteS.f k l) l := by
  have hl : l.length ≤ 1048576 := h
  unfold laws_toByteS.f
  refine ev_pos (by omega) (ev_pos (by simp only [toNat_nat]; omega) ?_)
  refine ev_to (ev_fill l (fun i => rd l i) (fun k ys i => laws_toByteS.l0 k l ys i) ?_ ?_ l.length 0 _ (by omega) (by simp)) ?_
  · intro n ys r hn hl hr
    refine ev_step ?_
    simp only [laws_toByteS.l0]
    refine ev_pos (by omega) (ev_pos (by omega) (ev_pos (by omega) ?_))
    rw [w64s (by omega)]
    exact hr
  · intro ys hl
    refine ev_step ?_
    simp only [laws_toByteS.l0]
    exact ev_neg (by omega) (ev_some rfl)
  · have := map_range_get l 0 id
    simpa [rd] using this

theorem laws_toPush.ev (x0 : Int) (x1 : List Int) (h : okB x1) : Ev (fun k => laws_toPush.f k x0 x1) (x0, x1) := by
  unfold laws_toPush.f
  have g0 := h
  refine Ev.bind (laws_toByteS.ev x1 g0) ?_
  exact ev_some rfl

theorem impl_within.eq (a b c : Int) : impl_within.f a b c = some (decide (b ≤ a ∧ a ≤ c)) := by
  unfold impl_within.f
  split <;> simp [*]

theorem impl_LimitsOk.eq (a b c d e : Int) : impl_LimitsOk.f a b c d e = some (limitsOk a b c d e) := by
  unfold impl_LimitsOk.f limitsOk
  simp only [impl_within.eq, Option.bind_some, decide_eq_true_eq]
  repeat' split
  all_goals (simp_all; try omega)
theorem impl_LimitsOk.ev (a b c d e : Int) : Ev (fun k => impl_LimitsOk.f a b c d e) (limitsOk a b c d e) := ev_eq (impl_LimitsOk.eq a b c d e)

theorem impl_copyBytes.eq (l : List Int) (h : l.length ≤ 1073741824) : impl_copyBytes.f l = some l := by
  unfold impl_copyBytes.f
  simp only [Option.bind_some, List.nil_append, List.length_nil]
  rw [if_pos (by omega)]

theorem impl_GetRaw.in (b : List Int) (hb : b.length ≤ 1073741824) (i n : Nat) (h : i + n ≤ b.length) : impl_GetRaw.f b (i : Int) (n : Int) = some ((b.drop i).take n, ((i + n : Nat) : Int), 0) := by
  unfold impl_GetRaw.f
  rw [w64 (n := (b.length : Int) - i) (by omega) (by omega), w64 (n := (i : Int) + n) (by omega) (by omega)]
  simp only [impl_within.eq, Option.bind_some, decide_eq_true_eq]
  have e : ((b.take ((i : Int) + (n : Int)).toNat).drop (i : Int).toNat) = (b.drop i).take n := by
    rw [show ((i : Int) + (n : Int)).toNat = i + n by omega, toNat_nat, List.drop_take]
    congr 1
    omega
  rw [e, impl_copyBytes.eq _ (by simp; omega), if_pos (by omega), if_pos (by omega), if_pos (by omega), if_pos (by omega), if_pos (by omega)]
  rfl

theorem impl_GetFix.ev0 (l : List Int) (hl : l.length ≤ 7) (h : ∀ x ∈ l, 0 ≤ x ∧ x < 256) (en co : Int) : ∀ (d i : Nat), i + d = l.length → Ev (fun k => impl_GetFix.l0 k en co (leVal (l.take i)) l (l.length : Int) (i : Int)) (leVal l, en, co) := by
  intro d
  induction d with
  | zero =>
    intro i hi
    refine ev_step ?_
    simp only [impl_GetFix.l0]
    refine ev_neg (by omega) (ev_some ?_)
    rw [List.take_of_length_le (by omega)]
  | succ d ih =>
    intro i hi
    have hlt : i < l.length := by omega
    have hx := h _ (List.getElem_mem hlt)
    have b := leVal_bd (l.take i) (fun x hx => h x (List.mem_of_mem_take hx))
    rw [List.length_take, Nat.min_eq_left (by omega), pow256] at b
    refine ev_step ?_
    simp only [impl_GetFix.l0]
    rw [rd_nat hlt, w64 (n := l[i]) (by omega) (by omega), w64 (n := 8 * (i : Int)) (by omega) (by omega), w64s (by omega)]
    have e : shl .i64 (l[i]) (8 * (i : Int)) = l[i] * 2 ^ (8 * i) := by
      have p : (2 : Int) ^ (8 * i) ≤ 2 ^ 48 := by exact_mod_cast Nat.pow_le_pow_right (by decide) (by omega)
      have p0 : (0 : Int) < 2 ^ (8 * i) := Int.pow_pos (by decide)
      unfold shl
      rw [show (8 * (i : Int)).toNat = 8 * i by omega, Nat.min_eq_left (by show 8 * i ≤ 64; omega)]
      have q : l[i] * 2 ^ (8 * i) ≤ 255 * 2 ^ (8 * i) := Int.mul_le_mul_of_nonneg_right (by omega) (by omega)
      have q0 : 0 ≤ l[i] * 2 ^ (8 * i) := Int.mul_nonneg hx.1 (by omega)
      have e48 : (2 : Int) ^ 48 = 281474976710656 := by decide
      exact wraps_i64 63 (by decide) _ q0 (by have e63 : (2 : Int) ^ 63 = 9223372036854775808 := by decide
                                              omega)
    rw [e, or_join (by omega) b.1 b.2 hx.1 hx.2]
    refine ev_pos (by omega) (ev_pos (by omega) (ev_pos (by omega) (ev_pos (by omega) ?_)))
    have := ih (i + 1) (by omega)
    rw [List.take_succ_eq_append_getElem hlt, leVal_snoc, List.length_take, Nat.min_eq_left (by omega), pow256, Int.mul_comm] at this
    exact this
theorem impl_GetFix.in (b : List Int) (hb : niceB b) (i w : Nat) (hw : 1 ≤ w) (hw' : w ≤ 7) (h : i + w ≤ b.length) : Ev (fun k => impl_GetFix.f k b (i : Int) (w : Int)) (leVal ((b.drop i).take w), ((i + w : Nat) : Int), 0) := by
  have hl := hb.1
  unfold impl_GetFix.f
  rw [impl_GetRaw.in b (by omega) i w h]
  simp only [impl_within.eq, Option.bind_some, decide_eq_true_eq]
  refine ev_pos (by omega) ?_
  have := impl_GetFix.ev0 ((b.drop i).take w) (by simp; omega) (fun x hx => hb.2 x (List.mem_of_mem_drop (List.mem_of_mem_take hx))) ((i + w : Nat) : Int) 0 ((b.drop i).take w).length 0 (by omega)
  exact this

theorem impl_isWord.eq (c : Int) : impl_isWord.f c = some (decide (0 ≤ c ∧ c ≤ 4294967295)) := by
  unfold impl_isWord.f
  rw [impl_within.eq]
  rfl

theorem impl_steps.ev0 : ∀ (d n : Nat) (c : Int), n + d = 8 → 0 ≤ c → c < 4294967296 → Ev (fun k => impl_steps.l0 k c (n : Int)) (crcTurns d c) := by
  intro d
  induction d with
  | zero =>
    intro n c hn h0 h1
    refine ev_step ?_
    simp only [impl_steps.l0]
    exact ev_neg (by omega) (ev_some rfl)
  | succ d ih =>
    intro n c hn h0 h1
    have b := crcTurn_bd h0 h1
    refine ev_step ?_
    simp only [impl_steps.l0]
    rw [and1_i64 h0 h1, w64s (by omega)]
    refine ev_pos (by omega) (ev_ite (fun e => ?_) (fun e => ?_))
    · have := ih (n + 1) _ (by omega) b.1 b.2
      have z : crcTurn c = bits .xor .i64 (c / 2) 3988292384 := if_pos e
      rw [crcTurns]
      rw [z] at this ⊢
      exact this
    · have := ih (n + 1) _ (by omega) b.1 b.2
      have z : crcTurn c = c / 2 := if_neg e
      rw [crcTurns]
      rw [z] at this ⊢
      exact this
theorem impl_steps.ev (c : Int) (h0 : 0 ≤ c) (h1 : c < 4294967296) : Ev (fun k => impl_steps.f k c) (crcTurns 8 c) := impl_steps.ev0 8 0 c (by omega) h0 h1

theorem impl_CrcMore.ev0 (l : List Int) (h : niceB l) : ∀ (d n : Nat) (c : Int), n + d = l.length → 0 ≤ c → c < 4294967296 → Ev (fun k => impl_CrcMore.l0 k c l (l.length : Int) (n : Int)) (bits .xor .i64 (crcFold c (l.drop n)) 4294967295) := by
  have hl := h.1
  intro d
  induction d with
  | zero =>
    intro n c hn h0 h1
    refine ev_step ?_
    simp only [impl_CrcMore.l0]
    refine ev_neg (by omega) (ev_some ?_)
    rw [List.drop_of_length_le (by omega)]
    rfl
  | succ d ih =>
    intro n c hn h0 h1
    have hlt : n < l.length := by omega
    have b := rd_nice h (n : Int)
    have g1 : (n : Int) < (l.length : Int) := by omega
    have g2 : (0 : Int) ≤ (n : Int) := by omega
    have g3 : n + 1 + d = l.length := by omega
    have g4 : wrap64 ((n : Int) + 1) = ((n + 1 : Nat) : Int) := w64s (by omega)
    have g5 : wrap64 (rd l (n : Int)) = rd l (n : Int) := w64 (by omega) (by omega)
    have x := xor32 h0 h1 b.1 (show rd l (n : Int) < 4294967296 by omega)
    refine ev_step ?_
    simp only [impl_CrcMore.l0]
    rw [g5, g4, drop_rd hlt, crcFold_cons]
    have t := crcTurns_bd 8 x.1 x.2
    exact ev_pos g1 (ev_pos g2 (ev_pos g1 (Ev.bind (a := crcStep c (rd l (n : Int))) (impl_steps.ev _ x.1 x.2) (ih (n + 1) _ g3 t.1 t.2))))

theorem impl_Crc.ev (l : List Int) (h : niceB l) : Ev (fun k => impl_Crc.f k l) (crcV l) := by
  unfold impl_Crc.f impl_CrcMore.f
  simp only [impl_isWord.eq, Option.bind_some]
  have b := xor32 (a := 0) (b := 4294967295) (by decide) (by decide) (by decide) (by decide)
  refine Ev.bind (ev_pos (by decide) (impl_CrcMore.ev0 l h l.length 0 _ (by omega) b.1 b.2)) (ev_some ?_)
  rw [List.drop_zero]
  rfl

theorem impl_FrameAt.ev (a b c d e : Int) (s : List Int) (i : Nat) (hs : niceB s) (hi : i ≤ s.length) : Ev (fun k => impl_FrameAt.f k a b c d e s (i : Int)) (frameAt (limitsOk a b c d e) d s i) := by
  have hl := hs.1
  unfold impl_FrameAt.f
  simp only [impl_LimitsOk.eq, impl_within.eq, Option.bind_some, decide_eq_true_eq]
  rw [w64 (n := (s.length : Int) - 1) (by omega) (by omega), w64s (by omega), w64 (n := (s.length : Int) - i) (by omega) (by omega)]
  have no : frameAt (limitsOk a b c d e) d s i = (0, 0) → Ev (fun k => impl_FrameAt.j0 k s (i : Int) true a b c d e) (frameAt (limitsOk a b c d e) d s i) := by
    intro z
    refine ev_step ?_
    simp only [impl_FrameAt.j0]
    exact ev_pos trivial (ev_some z.symm)
  refine ev_ite (fun c1 => ?_) (fun c1 => no (if_pos (Or.inl (by simpa using c1))))
  refine ev_ite (fun c2 => ?_) (fun c2 => no (if_pos (Or.inr (Or.inl (by omega)))))
  refine ev_pos (by omega) (ev_pos (by omega) ?_)
  refine ev_ite (fun c3 => ?_) (fun c3 => no (if_pos (Or.inr (Or.inr (Or.inl c3)))))
  have yes : ¬(i + 1 < s.length ∧ rd s ((i + 1 : Nat) : Int) ≠ 70) → Ev (fun k => impl_FrameAt.j0 k s (i : Int) false a b c d e) (frameAt (limitsOk a b c d e) d s i) := by
    intro c4
    have z : ¬(limitsOk a b c d e = false ∨ s.length ≤ i ∨ rd s (i : Int) ≠ 181 ∨ (i + 1 < s.length ∧ rd s ((i + 1 : Nat) : Int) ≠ 70)) := by
      rintro (g | g | g | g)
      · rw [c1] at g; cases g
      · omega
      · exact g c3
      · exact c4 g
    unfold frameAt
    rw [if_neg z]
    refine ev_step ?_
    simp only [impl_FrameAt.j0, impl_within.eq, Option.bind_some, decide_eq_true_eq]
    rw [w64 (n := (s.length : Int) - i) (by omega) (by omega), w64 (n := (i : Int) + 2) (by omega) (by omega), w64 (n := (i : Int) + 4) (by omega) (by omega), w64 (n := (i : Int) + 8) (by omega) (by omega)]
    refine ev_neg (by simp) (ev_ite (fun c5 => ev_some (by rw [if_pos (by omega)])) (fun c5 => ?_))
    rw [if_neg (by omega), show ((i : Int) + 2) = ((i + 2 : Nat) : Int) by omega, show ((i : Int) + 4) = ((i + 4 : Nat) : Int) by omega]
    refine Ev.bind (impl_GetFix.in s hs (i + 2) 2 (by omega) (by omega) (by omega)) ?_
    generalize hn : leVal ((s.drop (i + 2)).take 2) = n
    have hd : d ≤ 4000 := by
      simp [limitsOk] at c1
      omega
    refine ev_ite (fun c6 => ?_) (fun c6 => ev_some (by rw [if_pos c6]))
    rw [if_neg (by omega), w64 (n := 8 + n) (by omega) (by omega), w64 (n := (i : Int) + 8 + n) (by omega) (by omega)]
    refine ev_ite (fun c7 => ev_some (by rw [if_pos (by omega)])) (fun c7 => ?_)
    rw [if_neg (by omega)]
    refine Ev.bind (impl_GetFix.in s hs (i + 4) 4 (by omega) (by omega) (by omega)) ?_
    refine ev_pos (by omega) (ev_pos (by omega) (ev_pos (by omega) ?_))
    have e8 : ((s.take ((i : Int) + 8 + n).toNat).drop ((i : Int) + 8).toNat) = (s.drop (i + 8)).take n.toNat := by
      rw [show ((i : Int) + 8 + n).toNat = (i + 8) + n.toNat by omega, show ((i : Int) + 8).toNat = i + 8 by omega, List.drop_take]
      congr 1
      omega
    rw [e8]
    refine Ev.bind (impl_Crc.ev _ (niceB_take (niceB_drop hs _) _)) (ev_ite (fun c8 => ev_some (by rw [if_pos c8])) (fun c8 => ev_some (by rw [if_neg c8])))
  refine ev_ite (fun c4 => ?_) (fun c4 => yes (by omega))
  refine ev_pos (by omega) (ev_pos (by omega) ?_)
  by_cases c5 : rd s ((i + 1 : Nat) : Int) = 70
  · rw [show (rd s ((i + 1 : Nat) : Int) != 70) = false by rw [c5]; rfl]
    exact yes (by intro g; exact g.2 c5)
  · rw [show (rd s ((i + 1 : Nat) : Int) != 70) = true from bne_iff_ne.2 c5]
    exact no (if_pos (Or.inr (Or.inr (Or.inr ⟨by omega, c5⟩))))

theorem impl_isNum.eq (n : Int) : impl_isNum.f n = some (isNum n) := by
  unfold impl_isNum.f isNum
  rw [impl_within.eq]
  rfl

theorem impl_PushOk.ev (a b c d e sk : Int) (buf : List Int) (h : niceB buf) : Ev (fun k => impl_PushOk.f k a b c d e sk buf) (pushOk (limitsOk a b c d e) d sk buf) := by
  unfold impl_PushOk.f pushOk
  simp only [impl_LimitsOk.eq, impl_isNum.eq, Option.bind_some]
  refine Ev.bind (impl_FrameAt.ev a b c d e buf 0 h (by omega)) ?_
  refine ev_ite (fun c1 => ?_) (fun c1 => ev_some (by simp [c1]))
  refine ev_ite (fun c2 => ?_) (fun c2 => ev_some (by simp [c2]))
  refine ev_ite (fun c3 => ev_some ?_) (fun c3 => ev_some ?_)
  · have : buf = [] := List.length_eq_zero_iff.1 (by omega)
    simp [this, c1, c2]
  · have : buf ≠ [] := by intro z; rw [z] at c3; simp at c3
    simp [this, c1, c2]

theorem laws_eqByteS.ev (l : List Int) (h : okB l) : Ev (fun k => laws_eqByteS.f k l l) true := by
  have hl : l.length ≤ 1048576 := h
  unfold laws_eqByteS.f
  refine ev_pos rfl ?_
  refine ev_all l.length (fun k i => laws_eqByteS.l0 k l l i) true ?_ ?_ l.length 0 (by omega)
  · intro n hn hr
    refine ev_step ?_
    simp only [laws_eqByteS.l0]
    refine ev_pos (by omega) (ev_pos (by omega) (ev_pos (by omega) (ev_pos trivial ?_)))
    rw [w64s (by omega)]
    exact hr
  · refine ev_step ?_
    simp only [laws_eqByteS.l0]
    exact ev_neg (by omega) (ev_some rfl)

theorem laws_eqPush.ev (x0 : Int) (x1 : List Int) (h : okB x1) : Ev (fun k => laws_eqPush.f k x0 x1 x0 x1) true := by
  unfold laws_eqPush.f
  have g0 := h
  refine ev_pos rfl ?_
  refine Ev.bind (laws_eqByteS.ev x1 g0) (ev_pos rfl ?_)
  exact ev_some rfl

end Go.Proofs.Ytnkkdiiheannaaa.PFnExactPushOk
