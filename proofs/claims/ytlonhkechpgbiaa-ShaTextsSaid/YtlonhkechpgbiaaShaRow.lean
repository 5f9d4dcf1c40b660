/- How bytes, and rows of bytes, that come in are opened; the walk of ShaOwn. -/
import Derived.Test.YtlonhkechpgbiaaSha13
import Derived.ChangeSlices
import Derived.Deep.Matrix
namespace Go.Proofs.Ytlonhkechpgbiaa.Sh
open Go.RowKit Go.Proofs.Ytlonhkechpgbiaa.Pr Go.Proofs.YtlonhkechpgbiaaW.PrintWords Go.Proofs.YtlonhkechpgbiaaW.PrintLast Go.Proofs.YtlonhkechpgbiaaW.PrintMore
open Go.Proofs.Ytlonhkechpgbiaa.QT (OwnAt)
open Go.ChangeShapes Go.WideShapes
set_option linter.unusedVariables false
set_option linter.unusedSimpArgs false
theorem wf_u8 {x : Int} (h : (Lit.int .u8 x).wf = true) : 0 ≤ x ∧ x ≤ 255 := by
  simp [Lit.wf, IntKind.min, IntKind.max, IntKind.signed, IntKind.bits] at h
  omega
theorem C_take_of {w : World} {a : Addr} {len cap : Nat} {zs : List Int} (hl : len ≤ cap) (hm : cap ≤ maxLen) (hz : zs.length = cap) (hc : ∀ i, i < zs.length → w.cell? (a.add i) = some (.int .u8 (zs.getD i 0))) : Kd.C (Kd.int .u8) w (some a) (zs.take len).length (zs.take len) := by
  have e : (zs.take len).length = len := by rw [List.length_take]; omega
  refine Kd.C_of_reads (d := (0 : Int)) (h1 := fun _ => rfl) ⟨rfl, by rw [e]; exact Nat.le_trans hl hm, fun h0 => ⟨_, rfl, fun j hj => ?_⟩⟩
  rw [e] at hj
  rw [hc j (by omega)]
  simp [List.getD_eq_getElem?_getD, List.getElem?_take, hj]
theorem open_bytes {H : Type} {enc : TypeId × Value → H} {W : World} {base : Nat} {held : Bool} {a : Option Addr} {len cap : Nat} {d : DataW H} {ps : List MemPlace} (h : DataW.Trod enc Try.prog W base (fun _ => true) held 23 (.slice a len cap) d ps) :
    ∃ z : List Int, Kd.C (Kd.int .u8) W a z.length z ∧ (len = z.length ∧ len ≤ cap) ∧ ∀ x ∈ z, 0 ≤ x ∧ x ≤ 255 := by
  obtain ⟨fuel, hf⟩ := h
  rcases open_ints Try.underlying23 Try.underlying5 (by kernel_rfl) hf with ⟨hcs, _⟩ | ⟨x, l, c, zs, hcs, _, hl, hm, hz, _, hcell, hwz⟩
  · simp [Value.cells] at hcs
    obtain ⟨rfl, rfl, rfl⟩ := hcs
    exact ⟨[], Kd.C_nil _ _, ⟨rfl, Nat.le_refl _⟩, fun _ h => by cases h⟩
  · simp [Value.cells] at hcs
    obtain ⟨rfl, rfl, rfl⟩ := hcs
    simp only [if_true] at hz
    refine ⟨zs.take len, C_take_of hl hm hz hcell, ⟨by rw [List.length_take]; omega, hl⟩, fun x hx => wf_u8 (hwz x (List.mem_of_mem_take hx))⟩
theorem open_rows {H : Type} {enc : TypeId × Value → H} {W : World} {base : Nat} {held : Bool} {a : Option Addr} {len cap : Nat} {d : DataW H} {ps : List MemPlace} (h : DataW.Trod enc Try.prog W base (fun _ => true) held 22 (.slice a len cap) d ps) :
    ∃ z : List (List Int), Parts W a z ∧ (len = z.length ∧ len ≤ cap ∧ cap ≤ maxLen) ∧ (∀ l ∈ z, ∀ x ∈ l, 0 ≤ x ∧ x ≤ 255) ∧
      ((d = .nil ∧ z = []) ∨ ∃ (es sp : List (DataW H)), d = .slice es sp ∧ es.length = z.length ∧ ∀ i, i < z.length → ∃ e' : DataW H, es[i]? = some e' ∧ ((e' = .nil ∧ z.getD i [] = []) ∨ ∃ es' sp', e' = .slice es' sp' ∧ es'.length = (z.getD i []).length)) := by
  obtain ⟨fuel, hf⟩ := h
  rcases Go.Deep.open_int_rows Try.underlying22 Try.underlying23 Try.underlying5 (by kernel_rfl) (by kernel_rfl) hf with ⟨hcs, hx⟩ | ⟨x, l, c, A, L, C, Z, hcs, _, hl, hm, hx, hr⟩
  · simp [Value.cells] at hcs
    obtain ⟨rfl, rfl, rfl⟩ := hcs
    exact ⟨[], fun i hi => absurd hi (Nat.not_lt_zero _), ⟨rfl, Nat.le_refl _, by decide⟩, fun _ h => (by cases h), .inl ⟨(Prod.mk.inj hx).1, rfl⟩⟩
  · simp [Value.cells] at hcs
    obtain ⟨rfl, rfl, rfl⟩ := hcs
    have hd := (Prod.mk.inj hx).1
    clear hx
    subst hd
    have hget : ∀ i, i < len → ((List.range len).map fun r => (Z r).take (L r)).getD i [] = (Z i).take (L i) := fun i hi => by
      simp [List.getD_eq_getElem?_getD, hi]
    have hlen : ∀ i, i < len → ((Z i).take (L i)).length = L i := fun i hi => by
      obtain ⟨_, h2, h3, h4, _⟩ := hr i (by omega)
      rw [List.length_take]; omega
    refine ⟨(List.range len).map fun r => (Z r).take (L r), fun i hi => ?_, ⟨by simp, hl, hm⟩, fun l hl2 x hx => ?_, .inr ⟨_, _, rfl, by simp, fun i hi => ?_⟩⟩
    · simp at hi
      obtain ⟨h1, h2, h3, h4, h5, h6, h7⟩ := hr i (by omega)
      rw [hget i hi]
      refine ⟨x, A i, C i, rfl, by rw [hlen i hi]; exact h1, by rw [hlen i hi]; exact h2, ?_⟩
      cases hA : A i with
      | none =>
        have := h6 hA
        have e : (Z i).take (L i) = [] := by apply List.eq_nil_of_length_eq_zero; rw [hlen i hi]; omega
        rw [e]; exact Kd.C_nil _ _
      | some ad => exact C_take_of h2 h3 h4 (fun j hj => (h7 ad hA).2 j (by omega))
    · obtain ⟨r, hr1, rfl⟩ := List.mem_map.1 hl2
      obtain ⟨h1, h2, h3, h4, h5, _⟩ := hr r (by have := List.mem_range.1 hr1; omega)
      exact wf_u8 (h5 x (List.mem_of_mem_take hx))
    · simp at hi
      rw [hget i hi]
      refine ⟨Go.Deep.intRow .u8 (A i) (L i) (Z i), by simp [hi], ?_⟩
      obtain ⟨h1, h2, h3, h4, h5, h6, h7⟩ := hr i (by omega)
      cases hA : A i with
      | none =>
        have := h6 hA
        refine .inl ⟨?_, ?_⟩
        · simp [Go.Deep.intRow]
        · apply List.eq_nil_of_length_eq_zero; rw [hlen i hi]; omega
      | some ad =>
        refine .inr ⟨_, _, by simp [Go.Deep.intRow]; exact ⟨rfl, rfl⟩, ?_⟩
        simp [lits]
end Go.Proofs.Ytlonhkechpgbiaa.Sh
