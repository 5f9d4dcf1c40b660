/- How bytes that come in are opened. -/
import Derived.Test.YtbemfgpdfacdpaaQOwn
import Derived.Test.YtbemfgpdfacdpaaProg
import Derived.Test.YtbemfgpdfacdpaaWMore
import Derived.ChangeSlices
import Derived.Deep.Matrix
namespace Go.Proofs.Ytbemfgpdfacdpaa.Sh
open Go.RowKit Go.Proofs.YtbemfgpdfacdpaaW.PrintWords Go.Proofs.YtbemfgpdfacdpaaW.PrintLast Go.Proofs.YtbemfgpdfacdpaaW.PrintMore
open Go.Proofs.Ytbemfgpdfacdpaa.QT (OwnAt)
open Go.ChangeShapes Go.WideShapes
set_option linter.unusedVariables false
set_option linter.unusedSimpArgs false
theorem wf_u8 {x : Int} (h : (Lit.int .u8 x).wf = true) : 0 ≤ x ∧ x ≤ 255 := by
  simp [Lit.wf, IntKind.min, IntKind.max, IntKind.signed, IntKind.bits] at h
  omega
theorem C_take_of {w : World} {a : Addr} {len cap : Nat} {zs : List Int} (hl : len ≤ cap) (hm : cap ≤ maxLen) (hz : zs.length = cap) (hc : ∀ i, i < zs.length → w.cell? (a.add i) = some (.int .u8 (zs.getD i 0))) : Kd.C (Kd.int .u8) w (some a) (zs.take len).length (zs.take len) := by
  have e : (zs.take len).length = len := by rw [List.length_take]; omega
  refine Kd.C_of_reads (d := (0 : Int)) (h1 := fun _ => rfl) ⟨rfl, by rw [e]; exact Nat.le_trans hl hm, fun h0 => ⟨_, rfl, fun j hj => ?_⟩⟩
  rw [e] at hj
  rw [hc j (by omega)]
  simp [List.getD_eq_getElem?_getD, List.getElem?_take, hj]
theorem open_bytes {H : Type} {enc : TypeId × Value → H} {W : World} {base : Nat} {held : Bool} {a : Option Addr} {len cap : Nat} {d : DataW H} {ps : List MemPlace} (h : DataW.Trod enc Try.prog W base (fun _ => true) held 30 (.slice a len cap) d ps) :
    ∃ z : List Int, Kd.C (Kd.int .u8) W a z.length z ∧ (len = z.length ∧ len ≤ cap) ∧ ∀ x ∈ z, 0 ≤ x ∧ x ≤ 255 := by
  obtain ⟨fuel, hf⟩ := h
  rcases open_ints Try.underlying30 Try.underlying5 (by kernel_rfl) hf with ⟨hcs, _⟩ | ⟨x, l, c, zs, hcs, _, hl, hm, hz, _, hcell, hwz⟩
  · simp [Value.cells] at hcs
    obtain ⟨rfl, rfl, rfl⟩ := hcs
    exact ⟨[], Kd.C_nil _ _, ⟨rfl, Nat.le_refl _⟩, fun _ h => by cases h⟩
  · simp [Value.cells] at hcs
    obtain ⟨rfl, rfl, rfl⟩ := hcs
    simp only [if_true] at hz
    refine ⟨zs.take len, C_take_of hl hm hz hcell, ⟨by rw [List.length_take]; omega, hl⟩, fun x hx => wf_u8 (hwz x (List.mem_of_mem_take hx))⟩
end Go.Proofs.Ytbemfgpdfacdpaa.Sh
