/- What Text writes, Parse reads; Hex writes as Text. -/
import Derived.Test.YtlonhkechpgbiaaSha19
namespace Go.Proofs.Ytlonhkechpgbiaa.Sh
open Go.RowKit Go.Proofs.Ytlonhkechpgbiaa.Pr Go.Proofs.YtlonhkechpgbiaaW.PrintWords Go.Proofs.YtlonhkechpgbiaaW.PrintLast Go.Proofs.YtlonhkechpgbiaaW.PrintMore
set_option linter.unusedVariables false
set_option linter.unusedSimpArgs false
theorem hex_l (H : List Int) (h32 : H.length ≤ 1048576) (hb : ∀ x ∈ H, 0 ≤ x ∧ x ≤ 255) : ∀ (m k : Nat), k + m = H.length → parapetref1_Hex.l0 (m + 1) H dig (hexT (H.take k)) k = some (strOfNums (hexT H))
  | 0, k, h => by rw [parapetref1_Hex.l0, if_neg (by omega), List.take_of_length_le (by omega)]
  | m + 1, k, h => by
    have hk : k < H.length := by omega
    have hx := hb _ (List.getElem_mem hk)
    have e : rd H k = H[k] := by simp [rd, List.getD_eq_getElem?_getD, hk]
    have et := hexT_succ H k hk
    rw [show H.getD k 0 = H[k] by simp [List.getD_eq_getElem?_getD, hk]] at et
    have hl := hexT_length (H.take k)
    rw [List.length_take] at hl
    have hd : (dig.size : Int) = 16 := rfl
    rw [parapetref1_Hex.l0, if_pos (by omega), if_pos (by omega), e, and15 hx.1 hx.2, if_pos (by omega), if_pos (by omega), if_pos (by omega), if_pos (by omega)]
    simp only [Option.bind_some, List.length_cons, List.length_nil]
    rw [if_pos (by omega), ← et, show wrap64 ((k : Int) + 1) = ((k + 1 : Nat) : Int) by unfold wrap64; omega]
    exact hex_l H h32 hb m (k + 1) (by omega)
theorem hex_f (H : List Int) (h32 : H.length ≤ 1048576) (hb : ∀ x ∈ H, 0 ≤ x ∧ x ≤ 255) : parapetref1_Hex.f (H.length + 1) H = some (strOfNums (hexT H)) := hex_l H h32 hb H.length 0 (by omega)
end Go.Proofs.Ytlonhkechpgbiaa.Sh
