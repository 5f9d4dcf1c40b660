/- 'same' of two messages, and the arms' words. -/
import Derived.Test.YtbemfgpdfacdpaaMsg7
import Derived.Test.YtbemfgpdfacdpaaMsg4
import Derived.Test.YtbemfgpdfacdpaaPr3
namespace Go.Proofs.Ytbemfgpdfacdpaa.Ms
open Go.RowKit Go.Proofs.Ytbemfgpdfacdpaa.Pr Go.Proofs.YtbemfgpdfacdpaaW.PrintWords Go.Proofs.YtbemfgpdfacdpaaW.PrintLast Go.Proofs.YtbemfgpdfacdpaaW.PrintMore
set_option linter.unusedVariables false
set_option linter.unusedSimpArgs false
theorem rd_get (l : List Int) (i : Nat) : rd l (i : Int) = l.getD i 0 := by simp [rd]
theorem drop_same (l r : List Int) (i : Nat) (h : i < l.length) (hr : i < r.length) : (l.drop i = r.drop i) ↔ (l.getD i 0 = r.getD i 0 ∧ l.drop (i + 1) = r.drop (i + 1)) := by
  rw [List.drop_eq_getElem_cons h, List.drop_eq_getElem_cons hr, List.cons.injEq]
  simp [h, hr]
theorem equal_l (l r : List Int) (hl : l.length ≤ 4611686018427387904) (he : l.length = r.length) : ∀ (m i : Nat), i + m = l.length → slices_Equal_int_int.l0 (m + 1) l r (l.length : Int) i = some (decide (l.drop i = r.drop i))
  | 0, i, h => by
    rw [slices_Equal_int_int.l0, if_neg (by omega), List.drop_eq_nil_of_le (by omega), List.drop_eq_nil_of_le (by omega)]
    rfl
  | m + 1, i, h => by
    rw [slices_Equal_int_int.l0, if_pos (by omega), if_pos (by omega), if_pos (by omega), if_pos (by omega), rd_get, rd_get, show wrap64 ((i : Int) + 1) = ((i + 1 : Nat) : Int) by unfold wrap64; omega]
    have hd := drop_same l r i (by omega) (by omega)
    by_cases hc : l.getD i 0 = r.getD i 0
    · rw [if_pos hc, equal_l l r hl he m (i + 1) (by omega)]
      congr 1
      exact decide_eq_decide.2 ⟨fun h => hd.2 ⟨hc, h⟩, fun h => (hd.1 h).2⟩
    · rw [if_neg hc]
      congr 1
      exact (decide_eq_false (fun h => hc (hd.1 h).1)).symm
theorem equal_f (l r : List Int) (hl : l.length ≤ 4611686018427387904) : slices_Equal_int_int.f (l.length + 1) l r = some (decide (l = r)) := by
  rw [slices_Equal_int_int.f]
  by_cases he : l.length = r.length
  · rw [if_pos (by omega)]
    have := equal_l l r hl he l.length 0 (by omega)
    simpa using this
  · rw [if_neg (by omega)]
    congr 1
    exact (decide_eq_false (fun h => he (by rw [h]))).symm
theorem bytes_toList {a b : ByteArray} : a.toList = b.toList ↔ a = b := by
  constructor
  · intro h
    rw [ByteArray.toList_eq, ByteArray.toList_eq] at h
    exact ByteArray.ext (Array.ext' h)
  · rintro rfl; rfl
def sameP (a b : M13) : Bool := decide (a.kd = b.kd ∧ a.fr = b.fr ∧ a.tt = b.tt ∧ a.tm = b.tm ∧ a.ix = b.ix ∧ a.lt = b.lt ∧ a.cm = b.cm ∧ a.si = b.si ∧ a.st = b.st ∧ a.ys = b.ys ∧ a.sd = b.sd ∧ a.sm = b.sm ∧ a.es.length = b.es.length)
theorem same_f (a b : M13) (hl : a.sm.length ≤ 4611686018427387904) :
    msg_same.f (a.sm.length + 1) a.kd a.fr a.tt a.tm a.ix a.lt a.cm a.ys a.es a.si a.st a.sm a.sd b.kd b.fr b.tt b.tm b.ix b.lt b.cm b.ys b.es b.si b.st b.sm b.sd = some (sameP a b) := by
  simp only [msg_same.f, msg_flat.f, Option.bind_some, equal_f _ _ hl]
  split
  · rename_i h
    simp only [Bool.and_eq_true, beq_iff_eq, bytes_toList] at h
    obtain ⟨h1, h2, h3, h4, h5, h6, h7, h8, h9, h10, h11⟩ := h
    by_cases hs : a.sm = b.sm
    · rw [if_pos (decide_eq_true hs)]
      congr 1
      unfold sameP
      rw [Bool.eq_iff_iff]
      simp [h1, h2, h3, h4, h5, h6, h7, h8, h9, h10, h11, hs]
      omega
    · rw [if_neg (by simp [hs])]
      congr 1
      exact (decide_eq_false (fun h => hs h.2.2.2.2.2.2.2.2.2.2.2.1)).symm
  · rename_i h
    congr 1
    refine (decide_eq_false (fun hh => h ?_)).symm
    obtain ⟨h1, h2, h3, h4, h5, h6, h7, h8, h9, h10, h11, _⟩ := hh
    simp [h1, h2, h3, h4, h5, h6, h7, h8, h9, h10, h11]
end Go.Proofs.Ytbemfgpdfacdpaa.Ms
