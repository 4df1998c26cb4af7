/- What the printed functions of FnExactShort come to, in plain terms. No condition beside those that each lemma names. -/
import Derived.Test.YtdkmoaokclnopaaFFnExactShortx0
import Derived.Test.YtdkmoaokclnopaaFFnExactShortx1
import Derived.Test.YtdkmoaokclnopaaFFnExactShortx2
import Derived.Test.YtdkmoaokclnopaaBits
import Derived.Test.YtdkmoaokclnopaaEv
import Derived.Test.YtdkmoaokclnopaaRd
namespace Go.Proofs.Ytdkmoaokclnopaa.PFnExactShort
open Go.RowKit Go.Proofs.YtdkmoaokclnopaaW.PrintWords Go.Proofs.YtdkmoaokclnopaaW.PrintLast Go.Proofs.YtdkmoaokclnopaaR
set_option linter.unusedVariables false
set_option linter.unusedSimpArgs false

theorem spec_l01Hex.eq (n : Int) (h0 : 0 ≤ n) (h1 : n < 16) : spec_l01Hex.f n = some (hexd n) := by
  unfold spec_l01Hex.f hexd
  split
  · rw [w64 (by omega) (by omega), Int.emod_eq_of_lt (by omega) (by omega)]
  · rw [w64 (by omega) (by omega), Int.emod_eq_of_lt (by omega) (by omega)]
theorem spec_HexText.ev0 (l : List Int) (h : niceB l) : ∀ (d n : Nat) (acc : List Int), n + d = l.length → acc.length ≤ 2 * n → Ev (fun k => spec_HexText.l0 k acc l (l.length : Int) (n : Int)) (strOfNums (acc ++ hex (l.drop n))) := by
  have hl := h.1
  intro d
  induction d with
  | zero =>
    intro n acc hn ha
    refine ev_step ?_
    simp only [spec_HexText.l0]
    refine ev_neg (by omega) (ev_some ?_)
    rw [List.drop_of_length_le (by omega)]
    simp [hex]
  | succ d ih =>
    intro n acc hn ha
    have hlt : n < l.length := by omega
    have b := rd_nice h (n : Int)
    refine ev_step ?_
    simp only [spec_HexText.l0]
    rw [w64 (n := rd l (n : Int)) (by omega) (by omega), Int.tdiv_eq_ediv_of_nonneg b.1, Int.tmod_eq_emod_of_nonneg b.1, w64 (n := rd l (n : Int) / 16) (by omega) (by omega), w64s (by omega), spec_l01Hex.eq _ (by omega) (by omega), spec_l01Hex.eq _ (by omega) (by omega)]
    simp only [Option.bind_some, List.length_cons, List.length_nil]
    refine ev_pos (by omega) (ev_pos (by omega) (ev_pos (by omega) (ev_pos (by omega) (ev_to (ih (n + 1) _ (by omega) (by simp; omega)) ?_))))
    rw [drop_rd hlt, hex]
    simp
theorem spec_HexText.ev (l : List Int) (h : niceB l) : Ev (fun k => spec_HexText.f k l) (strOfNums (hex l)) := by
  unfold spec_HexText.f
  exact ev_to (spec_HexText.ev0 l h l.length 0 [] (by omega) (by simp)) (by simp)

theorem spec_Short.ev (l : List Int) (h : niceB l) : Ev (fun k => spec_Short.f k l) (strOfNums (hex (l.take 4))) := by
  unfold spec_Short.f
  refine ev_ite (fun c => ev_pos (by omega) (Ev.bind (spec_HexText.ev _ ?_) (ev_some rfl))) (fun c => Ev.bind (spec_HexText.ev _ h) (ev_some ?_))
  · exact niceB_take h 4
  · rw [List.take_of_length_le (by omega)]

theorem laws_toByteS.ev (l : List Int) (h : okB l) : Ev (fun k => laws_toByteS.f k l) l := by
  have hl : l.length ≤ 1048576 := h
  unfold laws_toByteS.f
  refine ev_pos (by omega) (ev_pos (by simp only [toNat_nat]; omega) ?_)
  refine ev_to (ev_fill l (fun i => rd l i) (fun k ys i => laws_toByteS.l0 k l ys i) ?_ ?_ l.length 0 _ (by omega) (by simp)) ?_
  · intro n ys r hn hl hr
    refine ev_step ?_
    simp only [laws_toByteS.l0]
    refine ev_pos (by omega) (ev_pos (by omega) (ev_pos (by omega) ?_))
    rw [w64s (by omega)]
    exact hr
  · intro ys hl
    refine ev_step ?_
    simp only [laws_toByteS.l0]
    exact ev_neg (by omega) (ev_some rfl)
  · have := map_range_get l 0 id
    simpa [rd] using this

theorem hex_bt : ∀ n : Fin 16, bt (⟨#[48, 49, 50, 51, 52, 53, 54, 55, 56, 57, 97, 98, 99, 100, 101, 102]⟩ : ByteArray) ((n.val : Nat) : Int) = hexd ((n.val : Nat) : Int) := by decide
theorem hex_at {n : Int} (h0 : 0 ≤ n) (h1 : n < 16) : bt (⟨#[48, 49, 50, 51, 52, 53, 54, 55, 56, 57, 97, 98, 99, 100, 101, 102]⟩ : ByteArray) n = hexd n := by
  have := hex_bt ⟨n.toNat, by omega⟩
  rwa [show ((n.toNat : Nat) : Int) = n by omega] at this
theorem impl_HexText.ev0 (l : List Int) (h : niceB l) : ∀ (d n : Nat) (acc : List Int), n + d = l.length → acc.length ≤ 2 * n → Ev (fun k => impl_HexText.l0 k acc l (l.length : Int) (n : Int)) (strOfNums (acc ++ hex (l.drop n))) := by
  have hl := h.1
  intro d
  induction d with
  | zero =>
    intro n acc hn ha
    refine ev_step ?_
    simp only [impl_HexText.l0]
    refine ev_neg (by omega) (ev_some ?_)
    rw [List.drop_of_length_le (by omega)]
    simp [hex]
  | succ d ih =>
    intro n acc hn ha
    have hlt : n < l.length := by omega
    have b := rd_nice h (n : Int)
    refine ev_step ?_
    simp only [impl_HexText.l0]
    rw [u8_and15 _ b.1 b.2, hex_at (n := rd l (n : Int) / 16) (by omega) (by omega), hex_at (n := rd l (n : Int) % 16) (by omega) (by omega), w64s (by omega)]
    simp only [Option.bind_some, List.length_cons, List.length_nil]
    refine ev_pos (by omega) (ev_pos (by omega) (ev_pos (by omega) (ev_pos (by omega) (ev_pos (by omega) (ev_pos (by omega) (ev_pos (by omega) (ev_pos (by omega) (ev_to (ih (n + 1) _ (by omega) (by simp; omega)) ?_))))))))
    rw [drop_rd hlt, hex]
    simp
theorem impl_HexText.ev (l : List Int) (h : niceB l) : Ev (fun k => impl_HexText.f k l) (strOfNums (hex l)) := by
  unfold impl_HexText.f
  exact ev_to (impl_HexText.ev0 l h l.length 0 [] (by omega) (by simp)) (by simp)

theorem impl_Short.ev (l : List Int) (h : niceB l) : Ev (fun k => impl_Short.f k l) (strOfNums (hex (l.take 4))) := by
  have e : (mn (l.length : Int) 4).toNat = min l.length 4 := by unfold mn; split <;> omega
  unfold impl_Short.f
  rw [e]
  refine ev_pos (by unfold mn; split <;> omega) (ev_pos (by unfold mn; split <;> omega) (Ev.bind (impl_HexText.ev _ (niceB_take h _)) (ev_some ?_)))
  rw [Nat.min_comm, ← List.take_eq_take_min]

theorem laws_eqByteS.ev (l : List Int) (h : okB l) : Ev (fun k => laws_eqByteS.f k l l) true := by
  have hl : l.length ≤ 1048576 := h
  unfold laws_eqByteS.f
  refine ev_pos rfl ?_
  refine ev_all l.length (fun k i => laws_eqByteS.l0 k l l i) true ?_ ?_ l.length 0 (by omega)
  · intro n hn hr
    refine ev_step ?_
    simp only [laws_eqByteS.l0]
    refine ev_pos (by omega) (ev_pos (by omega) (ev_pos (by omega) (ev_pos trivial ?_)))
    rw [w64s (by omega)]
    exact hr
  · refine ev_step ?_
    simp only [laws_eqByteS.l0]
    exact ev_neg (by omega) (ev_some rfl)

end Go.Proofs.Ytdkmoaokclnopaa.PFnExactShort
