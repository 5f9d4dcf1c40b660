/- What bulk at most 1048576 means of rows of bytes. -/
import Derived.Test.YtlonhkechpgbiaaRows
import Derived.Test.YtlonhkechpgbiaaSha14
namespace Go.Proofs.Ytlonhkechpgbiaa.Sh
set_option linter.unusedVariables false
theorem bulk_pos {H : Type} (d : DataW H) : 1 ≤ Rows.uptoBulk d := by
  cases d with
  | lit l => cases l <;> simp [Rows.uptoBulk]
  | _ => simp [Rows.uptoBulk]
theorem bulk_len {H : Type} : ∀ es : List (DataW H), es.length ≤ Rows.uptoBulkAll es
  | [] => Nat.zero_le _
  | e :: es => by
    have := bulk_len es
    have := bulk_pos e
    simp only [Rows.uptoBulkAll, List.length_cons]; omega
theorem bulk_tot {H : Type} : ∀ (z : List (List Int)) (es : List (DataW H)), es.length = z.length → (∀ i, i < z.length → ∃ e' : DataW H, es[i]? = some e' ∧ ((e' = .nil ∧ z.getD i [] = []) ∨ ∃ es' sp', e' = .slice es' sp' ∧ es'.length = (z.getD i []).length)) → tot z ≤ Rows.uptoBulkAll es
  | [], es, _, _ => Nat.zero_le _
  | l :: z, [], h, _ => by simp at h
  | l :: z, e :: es, h, hx => by
    have ih := bulk_tot z es (by simpa using h) (fun i hi => by have := hx (i + 1) (by simp; omega); simpa using this)
    have h0 : l.length ≤ Rows.uptoBulk e := by
      obtain ⟨e', he, h1⟩ := hx 0 (by simp)
      simp at he
      subst he
      rcases h1 with ⟨rfl, h1⟩ | ⟨es', sp', rfl, h1⟩
      · simp at h1; subst h1; exact Nat.zero_le _
      · simp at h1
        have := bulk_len es'
        simp only [Rows.uptoBulk]; omega
    have : tot (l :: z) = l.length + tot z := by simp [tot]
    simp only [Rows.uptoBulkAll]; omega
theorem bulk_rows {H : Type} {d : DataW H} {z : List (List Int)} {ds' : List (DataW H)} (hk : Rows.uptoSmall H (d :: ds') = true)
    (hu : (d = .nil ∧ z = []) ∨ ∃ (es sp : List (DataW H)), d = .slice es sp ∧ es.length = z.length ∧ ∀ i, i < z.length → ∃ e' : DataW H, es[i]? = some e' ∧ ((e' = .nil ∧ z.getD i [] = []) ∨ ∃ es' sp', e' = .slice es' sp' ∧ es'.length = (z.getD i []).length)) : z.length ≤ 1048576 ∧ tot z ≤ 1048576 := by
  have hk' : Rows.uptoBulkAll (d :: ds') ≤ 1048576 := of_decide_eq_true hk
  simp only [Rows.uptoBulkAll] at hk'
  rcases hu with ⟨rfl, rfl⟩ | ⟨es, sp, rfl, h1, h2⟩
  · exact ⟨by decide, by decide⟩
  · have := bulk_len es
    have := bulk_tot z es h1 h2
    simp only [Rows.uptoBulk] at hk'
    omega
end Go.Proofs.Ytlonhkechpgbiaa.Sh
