/- Of each Go function named below: a Lean function with the same answers, and the proof that a call comes to exactly these. Written by a program of this session. -/
import Derived.Test.YtlonhkechpgbiaaPr0
import Derived.Test.YtlonhkechpgbiaaShaTm
namespace Go.Proofs.Ytlonhkechpgbiaa.Pr
open Go.RowKit Go.Proofs.YtlonhkechpgbiaaW.PrintWords Go.Proofs.YtlonhkechpgbiaaW.PrintLast Go.Proofs.YtlonhkechpgbiaaW.PrintMore
attribute [local go_sem] max2_int min2_int max_two min_two max_three min_three max_four min_four   -- for this text's walks alone
set_option linter.unusedVariables false
set_option linter.unusedSimpArgs false

/-! ### parapetref1_times: function 33 (given) -/
-- GIVEN parapet/parapetref1.times making=1 own=1 imports=Derived.Test.YtlonhkechpgbiaaShaTm
def parapetref1_times.f (l0 : List Int) (a1 : Int) : Option (List Int) := if l0.length ≤ 1000 then some (Go.Proofs.Ytlonhkechpgbiaa.Tm.tms l0 (Go.bits .and .u64 a1 4294967295) (a1 / 4294967296) l0.length) else none
theorem parapetref1_times.calls (A0 : Option Addr) (c0 : Nat) (l0 : List Int) (a1 : Int) (r : List Int) (w : World) (hr0 : Kd.C (Kd.int .u64) w A0 l0.length l0) (hc0 : l0.length ≤ c0) (h : parapetref1_times.f l0 a1 = some r) :
    Calls Try.prog 33 #[.slice A0 l0.length c0, .int .u64 a1] w fun e w' => ∃ v0_ : Value, e = .returned (v0_) ∧ Kd.R (Kd.int .u64) 55 w' w.heap.size (fun _ => True) v0_ r ∧ Below w.heap.size w w' := by
  unfold parapetref1_times.f at h
  by_cases hs : l0.length ≤ 1000
  · rw [if_pos hs] at h
    obtain rfl := Option.some.inj h
    exact Go.Proofs.Ytlonhkechpgbiaa.Tm.times_calls A0 c0 l0 a1 w hr0 hc0 hs
  · rw [if_neg hs] at h
    cases h

end Go.Proofs.Ytlonhkechpgbiaa.Pr
