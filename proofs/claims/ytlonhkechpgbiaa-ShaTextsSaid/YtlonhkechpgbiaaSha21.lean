/- What Text writes, Parse reads. -/
import Derived.Test.YtlonhkechpgbiaaSha20
namespace Go.Proofs.Ytlonhkechpgbiaa.Sh
open Go.RowKit Go.Proofs.Ytlonhkechpgbiaa.Pr Go.Proofs.YtlonhkechpgbiaaW.PrintWords Go.Proofs.YtlonhkechpgbiaaW.PrintLast Go.Proofs.YtlonhkechpgbiaaW.PrintMore
set_option linter.unusedVariables false
set_option linter.unusedSimpArgs false
theorem str_size (xs : List Int) : (strOfNums xs).size = xs.length := by
  simp [strOfNums, ByteArray.size]
theorem bytesOf_str (xs : List Int) (h : ∀ x ∈ xs, 0 ≤ x ∧ x ≤ 255) : bytesOf (strOfNums xs) = xs := by
  unfold bytesOf
  rw [strOfNums_data, List.map_map]
  conv => rhs; rw [← List.map_id xs]
  apply List.map_congr_left
  intro x hx
  have := h x hx
  simp [Function.comp]
  omega
theorem bt_str (xs : List Int) (h : ∀ x ∈ xs, 0 ≤ x ∧ x ≤ 255) (i : Nat) (x : Int) (hi : xs[i]? = some x) : bt (strOfNums xs) (i : Int) = x := by
  rw [← rd_bytesOf, bytesOf_str xs h, rd, Int.toNat_natCast, List.getD_eq_getElem?_getD, hi]; rfl
theorem hexT_get (H : List Int) (k : Nat) (hk : k < H.length) : (hexT H)[2 * k]? = some (bt dig (H[k] / 16)) ∧ (hexT H)[2 * k + 1]? = some (bt dig (H[k] % 16)) := by
  have e := hexT_succ H k hk
  have hl : (hexT (H.take k)).length = 2 * k := by rw [hexT_length, List.length_take]; omega
  have hf : hexT H = hexT (H.take (k + 1)) ++ hexT (H.drop (k + 1)) := by
    rw [hexT, hexT, hexT, ← List.flatMap_append, List.take_append_drop]
  rw [show H.getD k 0 = H[k] by simp [List.getD_eq_getElem?_getD, hk]] at e
  rw [hf, e]
  constructor
  · rw [List.append_assoc, List.getElem?_append_right (by omega), hl]; simp
  · rw [List.append_assoc, List.getElem?_append_right (by omega), hl]; simp [show 2 * k + 1 - 2 * k = 1 by omega]
theorem dgt_dig {v : Int} (h0 : 0 ≤ v) (h1 : v < 16) : dgt (bt dig v) = (v, true) := by
  have := dig_all ⟨v.toNat, by omega⟩
  simpa [show ((v.toNat : Nat) : Int) = v by omega] using this
theorem hexT_bytes (H : List Int) : ∀ x ∈ hexT H, 0 ≤ x ∧ x ≤ 255 := fun x hx => by
  obtain ⟨b, _, hx⟩ := List.mem_flatMap.1 hx
  simp only [List.mem_cons, List.mem_nil_iff, or_false] at hx
  rcases hx with rfl | rfl <;> exact bt_range _ _
theorem prs_hex (H : List Int) (h32 : H.length = 32) (hb : ∀ x ∈ H, 0 ≤ x ∧ x ≤ 255) : ∀ k, k ≤ 32 → prs (strOfNums (hexT H)) k = some (H.take k ++ List.replicate (32 - k) 0)
  | 0, _ => by simp [prs]
  | k + 1, hk => by
    have hk' : k < H.length := by omega
    have hx := hb _ (List.getElem_mem hk')
    obtain ⟨g1, g2⟩ := hexT_get H k hk'
    have b1 := bt_str _ (hexT_bytes H) (2 * k) _ g1
    have b2 := bt_str _ (hexT_bytes H) (2 * k + 1) _ g2
    rw [prs, prs_hex H h32 hb k (by omega)]
    have c1 : bt (strOfNums (hexT H)) (2 * (k : Int)) = bt dig (H[k] / 16) := by rw [← b1]; congr 1
    have c2 : bt (strOfNums (hexT H)) (2 * (k : Int) + 1) = bt dig (H[k] % 16) := by rw [← b2]; congr 1
    simp only [c1, c2, dgt_dig (show 0 ≤ H[k] / 16 by omega) (by omega), dgt_dig (show 0 ≤ H[k] % 16 by omega) (by omega), and_self, if_true]
    congr 1
    rw [show H[k] / 16 * 16 + H[k] % 16 = H[k] by omega, List.set_append, if_neg (by rw [List.length_take]; omega), List.length_take, show k - min k H.length = 0 by omega, show 32 - k = (32 - (k + 1)) + 1 by omega, List.replicate_succ, List.set_cons_zero, List.take_succ_eq_append_getElem hk', List.append_assoc]
    rfl
theorem parsed_hex (H : List Int) (h32 : H.length = 32) (hb : ∀ x ∈ H, 0 ≤ x ∧ x ≤ 255) : parsed (strOfNums (hexT H)) = (H, true) := by
  rw [parsed, if_pos (by rw [str_size, hexT_length, h32]), prs_hex H h32 hb 32 (Nat.le_refl _)]
  simp [← h32]
end Go.Proofs.Ytlonhkechpgbiaa.Sh
