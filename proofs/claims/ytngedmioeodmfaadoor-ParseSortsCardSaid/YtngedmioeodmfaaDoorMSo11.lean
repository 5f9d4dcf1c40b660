/- 1 texts of the proof, put together, less what is not used; what a tool printed stands among them. -/
import Derived.Test.YtngedmioeodmfaaDoorMSo10
namespace Go.Proofs.YtngedmioeodmfaaDoor.Pu
open Go.RowKit Go.Proofs.YtngedmioeodmfaaDoor.Pr Go.Proofs.YtngedmioeodmfaaDoorW.PrintWords Go.Proofs.YtngedmioeodmfaaDoor.Lx
open Go.Proofs.YtngedmioeodmfaaDoor.Ps hiding Tk
set_option linter.unusedVariables false
set_option linter.unusedSimpArgs false
theorem parsesorts : parapetlaw20_ParseSorts.Pure := by
  intro l hm hb hw
  obtain ⟨K, hK⟩ : Ev (fun k => parapetlaw20_ParseSorts.f k l) true := by
    unfold parapetlaw20_ParseSorts.f
    by_cases h1 : (l.length : Int) > 30
    · exact ev_eq (fun k => if_pos h1) awake_b5
    · refine ev_eq (fun k => if_neg h1) ?_
      by_cases h0 : l.length = 0
      · refine Ev.step (fun k => ?_) (rel_end (L := 1) (x := JM) (st := mix1 pst0) (c := []) (sh := []) (r := []) ?_ (by omega) (by omega))
        · rw [parapetlaw20_ParseSorts.l0, if_neg (by omega), if_pos (by omega)]
          rfl
        · refine ⟨?_, rfl, rfl, rfl, rfl, by decide, by decide, fun h => by omega, fun _ => rfl, by decide, by decide, by decide, fun y hy => (by cases hy), fun y hy => (by cases hy)⟩
          have := (Rdn.nil).step jlM jvM rfl (mix1_reads (st := pst0) (by decide) rfl)
          have he : (⟨#[]⟩ : ByteArray) ++ JM = JM := by decide +kernel
          rw [he] at this
          exact this
      · refine sort_l l l.length rfl (by omega) (by omega) l.length 0 ⟨#[]⟩ pst0 [] [] [] (by omega) ⟨Rdn.nil, rfl, rfl, rfl, rfl, Nat.zero_le _, by decide, fun _ => rfl, fun h => by omega, Nat.le_refl _, Nat.le_refl _, Nat.le_refl _, fun y hy => (by cases hy), fun y hy => (by cases hy)⟩
  exact ⟨K, hK K (Nat.le_refl _)⟩
end Go.Proofs.YtngedmioeodmfaaDoor.Pu
