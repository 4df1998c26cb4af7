/- An argument that reads as data holds what a kind of the print asks: numbers, strings, rows, structs, at every depth. No condition. -/
import Derived.Test.YtnkkdiiheannaaaWWords
import Derived.ChangeArms
import Derived.ChangeSlices
import Derived.DataElems
import Derived.Deep.Slices
namespace Go.Proofs.YtnkkdiiheannaaaR
open Go.RowKit Go.ChangeShapes Go.WideShapes Go.Proofs.YtnkkdiiheannaaaW.PrintWords

/-- Whatever reads as data at type t is of kind d, and good. -/
def Rdr {H α : Type} (enc : TypeId × Value → H) (P : Program) (w : World) (t : TypeId) (d : Kd α) (G : α → Prop) : Prop :=
  P.cellsOf t = d.sz ∧ ∀ (fuel : Nat) (cs : List Value) (x : DataW H × List MemPlace), DataW.trod enc P w 0 (fun _ => true) true fuel t cs = some x → ∃ a, d.K w a cs ∧ G a

/-- Whatever reads as data at these fields, from cell off on, is of kind d, and good. -/
def RdrF {H α : Type} (enc : TypeId × Value → H) (P : Program) (w : World) (off : Nat) (fs : List Field) (d : Kd α) (G : α → Prop) : Prop :=
  ∀ (n : Nat) (cs : List Value) (xs : List (DataW H × List MemPlace)), cs.length = off + d.sz → (∀ (i : Nat) (f : Field), fs[i]? = some f → DataW.trod enc P w 0 (fun _ => true) true n f.type ((cs.drop f.offset).take (P.cellsOf f.type)) = xs[i]?) → xs.length = fs.length →
    ∃ a, d.K w a (cs.drop off) ∧ G a

section
variable {H : Type} {enc : TypeId × Value → H} {P : Program} {w : World}

theorem rdr_int {t : TypeId} {k : IntKind} (ht : P.underlying t = some (.int k)) (hc : P.cellsOf t = 1) : Rdr enc P w t (Kd.int k) (fun n => (Lit.int k n).wf = true) :=
  ⟨hc, fun fuel cs x h => by
    obtain ⟨n, rfl, _, hw⟩ := DataW.trod_int ht h
    exact ⟨n, rfl, hw⟩⟩
theorem rdr_bool {t : TypeId} (ht : P.underlying t = some .bool) (hc : P.cellsOf t = 1) : Rdr enc P w t Kd.bool (fun _ => True) :=
  ⟨hc, fun fuel cs x h => by
    obtain ⟨n, rfl, _⟩ := DataW.trod_bool ht h
    exact ⟨n, rfl, trivial⟩⟩
theorem rdr_string {t : TypeId} (ht : P.underlying t = some .string) (hc : P.cellsOf t = 1) : Rdr enc P w t Kd.string (fun s => s.size ≤ 9223372036854775807) :=
  ⟨hc, fun fuel cs x h => by
    obtain ⟨s, rfl, _, hs⟩ := DataW.trod_string ht h
    exact ⟨s, rfl, hs⟩⟩

theorem rdr_slice {α : Type} {t e : TypeId} {d : Kd α} {G : α → Prop} (z : α) (ht : P.underlying t = some (.slice e)) (hc : P.cellsOf t = 1) (he : Rdr enc P w e d G) :
    Rdr enc P w t (Kd.slice e d) (fun l => l.length ≤ 9223372036854775807 ∧ ∀ x ∈ l, G x) := by
  refine ⟨hc, fun fuel cs x h => ?_⟩
  haveI : Inhabited α := ⟨z⟩
  rcases DataW.trod_slice ht h with ⟨rfl, _⟩ | ⟨a, len, cap, elems, rest, n, _, rfl, _, _, hl, hm, hlen, hel, _, _⟩
  · exact ⟨[], ⟨none, 0, rfl, Nat.le_refl _, Kd.C_nil d w⟩, by simp, by simp⟩
  have hm' : cap ≤ 9223372036854775807 := hm
  have each : ∀ i, i < len → ∃ x : α, (∃ cs, cs.length = d.sz ∧ d.K w x cs ∧ ∀ j u, cs[j]? = some u → w.cell? (a.add (i * d.sz + j)) = some u) ∧ G x := by
    intro i hi
    have h0 := hel i hi
    rw [List.getElem?_eq_getElem (by omega), Option.bind_eq_some_iff] at h0
    obtain ⟨cs, hcs, hx⟩ := h0
    obtain ⟨_, hcl, hcell⟩ := World.cells?_some hcs
    obtain ⟨x, hk, hg⟩ := he.2 _ _ _ hx
    refine ⟨x, ⟨cs, d.K_len hk, hk, fun j u hu => ?_⟩, hg⟩
    have hj : j < P.cellsOf e := by have := (List.getElem?_eq_some_iff.1 hu).1; omega
    have h1 := hcell j hj
    rw [Addr.add_add, he.1, hu] at h1
    exact h1
  obtain ⟨f, hf⟩ := Go.Deep.choose_lt each
  have hl0 : ((List.range len).map f).length = len := by simp
  refine ⟨(List.range len).map f, ⟨some a, cap, by rw [hl0], by rw [hl0]; exact hl, ?_⟩, by rw [hl0]; omega, ?_⟩
  · refine ⟨rfl, by rw [hl0]; omega, fun _ => ⟨a, rfl, fun j p hp => ?_⟩⟩
    have hj : j < len := by have := (List.getElem?_eq_some_iff.1 hp).1; rwa [hl0] at this
    have e : p = f j := by
      rw [List.getElem?_map, List.getElem?_range hj] at hp
      exact (Option.some.inj hp).symm
    rw [e]
    exact (hf j hj).1
  · intro x hx
    obtain ⟨i, hi, rfl⟩ := List.mem_map.1 hx
    exact (hf i (List.mem_range.1 hi)).2

theorem rdrF_one {α : Type} {f : Field} {off : Nat} {d : Kd α} {G : α → Prop} (ho : f.offset = off) (h : Rdr enc P w f.type d G) : RdrF enc P w off [f] d G := by
  intro n cs xs hl hx hlen
  have h0 := hx 0 f rfl
  rw [List.getElem?_eq_getElem (by simp at hlen; omega)] at h0
  have := h.2 _ _ _ h0
  rw [ho, h.1, List.take_of_length_le (by rw [List.length_drop]; omega)] at this
  exact this
theorem rdrF_cons {α β : Type} {f : Field} {fs : List Field} {off : Nat} {d : Kd α} {d' : Kd β} {G : α → Prop} {G' : β → Prop} (ho : f.offset = off) (h : Rdr enc P w f.type d G) (h' : RdrF enc P w (off + d.sz) fs d' G') :
    RdrF enc P w off (f :: fs) (Kd.pair d d') (fun x => G x.1 ∧ G' x.2) := by
  intro n cs xs hl hx hlen
  have hsz : (Kd.pair d d').sz = d.sz + d'.sz := rfl
  have h0 := hx 0 f rfl
  rw [List.getElem?_eq_getElem (by simp at hlen; omega)] at h0
  obtain ⟨a, ha, ga⟩ := h.2 _ _ _ h0
  rw [ho, h.1] at ha
  obtain ⟨b, hb, gb⟩ := h' n cs xs.tail (by rw [hl, hsz]; omega) (fun i g hg => by
    have := hx (i + 1) g (by simpa using hg)
    rw [this, List.getElem?_tail]) (by simp at hlen ⊢; omega)
  refine ⟨(a, b), ⟨(cs.drop off).take d.sz, cs.drop (off + d.sz), ?_, ha, hb⟩, ga, gb⟩
  rw [← List.drop_drop, List.take_append_drop]
theorem rdr_struct {α : Type} {t : TypeId} {fs : Array Field} {d : Kd α} {G : α → Prop} (ht : P.underlying t = some (.struct fs)) (hc : P.cellsOf t = d.sz) (h : RdrF enc P w 0 fs.toList d G) : Rdr enc P w t d G := by
  refine ⟨hc, fun fuel cs x hx => ?_⟩
  obtain ⟨xs, n, _, _, hl, hlen, hf⟩ := DataW.trod_struct ht hx
  have := h n cs xs (by rw [hl, hc]; omega) (fun i f hf' => hf i f (by rw [← Array.getElem?_toList]; exact hf')) (by rw [hlen]; simp)
  simpa using this
theorem rdr_iso {α β : Type} {t : TypeId} {d : Kd α} {G : α → Prop} (f : β → α) (g : α → β) (hfg : ∀ a, f (g a) = a) (h : Rdr enc P w t d G) : Rdr enc P w t (Kd.iso d f) (fun b => G (f b)) :=
  ⟨h.1, fun fuel cs x hx => by
    obtain ⟨a, ha, ga⟩ := h.2 fuel cs x hx
    exact ⟨g a, by show d.K w (f (g a)) cs; rw [hfg]; exact ha, by show G (f (g a)); rw [hfg]; exact ga⟩⟩
theorem rdr_trod {α : Type} {t : TypeId} {d : Kd α} {G : α → Prop} {v : Value} {x : DataW H} {p : List MemPlace} (h : Rdr enc P w t d G) (hv : DataW.Trod enc P w 0 (fun _ => true) true t v x p) : ∃ a, d.K w a v.cells.toList ∧ G a := by
  obtain ⟨fuel, hf⟩ := hv
  exact h.2 _ _ _ hf
end
end Go.Proofs.YtnkkdiiheannaaaR
