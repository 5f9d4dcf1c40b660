/- Of each Go function named below: a Lean function with the same answers, and the proof that a call comes to exactly these. Written by a program of this session. -/
import Derived.Test.YtlhllcbglfffdaaDoorPr0
import Derived.Test.YtlhllcbglfffdaaDoorPr3
import Derived.Test.YtlhllcbglfffdaaDoorLexW8
namespace Go.Proofs.YtlhllcbglfffdaaDoor.Pr
open Go.RowKit Go.Proofs.YtlhllcbglfffdaaDoorW.PrintWords Go.Proofs.YtlhllcbglfffdaaDoorW.PrintLast Go.Proofs.YtlhllcbglfffdaaDoorW.PrintMore
attribute [local go_sem] max2_int min2_int max_two min_two max_three min_three max_four min_four   -- for this text's walks alone
set_option linter.unusedVariables false
set_option linter.unusedSimpArgs false

/-! ### lex_Tokens: function 9 (given) -/
-- GIVEN parapet/lex.Tokens rounds=1 making=1 laid=1 own=1 imports=Derived.Test.YtlhllcbglfffdaaDoorLexW8
def lex_Tokens.f (k : Nat) (a0 : ByteArray) : Option (List (S31) × Int × Int) := if (a0.size : Int) > 3000 then some ([], 2, 0) else (lex_wrong.f k a0).bind fun bad => some (Go.Proofs.YtlhllcbglfffdaaDoor.Lx.tokRes a0 bad)
theorem lex_Tokens.mono : ∀ a0 k, LeO (lex_Tokens.f k a0) (lex_Tokens.f (k + 1) a0) := by
  intro a0 k
  unfold lex_Tokens.f
  exact LeO.ite (LeO.refl _) (LeO.bind (lex_wrong.mono _ _) (fun _ => LeO.refl _))
theorem lex_Tokens.calls (k : Nat) (a0 : ByteArray) (r1 : List (S31)) (r2 : Int) (r3 : Int) (w : World) (hL : Laid w) (h : lex_Tokens.f k a0 = some (r1, r2, r3)) :
    Calls Tryd.prog 9 #[.string a0] w fun e w' => ∃ v0_ : Value, e = .returned (.tuple #[v0_, .agg #[.int .i64 r2, .int .i64 r3]]) ∧ Kd.R k31 31 w' w.heap.size (fun _ => True) v0_ r1 ∧ Below w.heap.size w w' := by
  unfold lex_Tokens.f at h
  by_cases hs : (a0.size : Int) > 3000
  · rw [if_pos hs] at h
    simp only [Option.some.injEq, Prod.mk.injEq] at h
    obtain ⟨rfl, rfl, rfl⟩ := h
    refine (Go.Proofs.YtlhllcbglfffdaaDoor.Lx.tokens_big a0 w (by omega)).mono ?_
    rintro e w' ⟨rfl, hb⟩
    exact ⟨_, rfl, Kd.R_nil _ _ _ _ _, hb⟩
  · rw [if_neg hs] at h
    obtain ⟨bad, hw, hr⟩ := Option.bind_eq_some_iff.mp h
    exact Go.Proofs.YtlhllcbglfffdaaDoor.Lx.tokens_calls a0 k bad w hL (by omega) hw r1 r2 r3 (Option.some.inj hr)

end Go.Proofs.YtlhllcbglfffdaaDoor.Pr
