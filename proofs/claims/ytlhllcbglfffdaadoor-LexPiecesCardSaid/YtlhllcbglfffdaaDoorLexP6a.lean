/- Pieces of a text; what Tokens may hand back. -/
import Derived.Test.YtlhllcbglfffdaaDoorLexP5
namespace Go.Proofs.YtlhllcbglfffdaaDoor.Pu
open Go.RowKit Go.Proofs.YtlhllcbglfffdaaDoor.Pr Go.Proofs.YtlhllcbglfffdaaDoorW.PrintWords Go.Proofs.YtlhllcbglfffdaaDoor.Lx
set_option linter.unusedVariables false
set_option linter.unusedSimpArgs false

theorem escL_ge (l : List Int) : l.length ≤ (escL l).length := by
  induction l with
  | nil => simp [escL]
  | cons c l ih =>
    rw [escL_cons, List.length_append, List.length_cons]
    split
    all_goals simp
    all_goals omega
theorem wof_pos {t : Tk} (h : okT t) : 1 ≤ (wof t).length := by
  unfold wof
  rcases h with ⟨h1, c, l, h2, _⟩ | ⟨h1, _⟩ | ⟨c, _, h1, h2⟩
  · rw [if_neg (by omega), h2]; simp
  · rw [if_pos h1]; simp
  · rw [if_neg (by rw [h1]; exact opIdx_ne c), h2]; simp
theorem piece {x : ByteArray} {a : Nat} {w rest : List Int} (h : (bytesOf x).drop a = w ++ rest) : x.extract a (a + w.length) = strOfNums w ∧ (w ≠ [] → a + w.length ≤ x.size) := by
  constructor
  · refine (strOfNums_inj_bytes _ _ ?_).symm
    rw [bytesOf_ext, List.drop_take, h, show a + w.length - a = w.length by omega, List.take_left]
  · intro hw
    have := congrArg List.length h
    rw [List.length_drop, bytesOf_length, List.length_append] at this
    have := List.length_pos_iff.2 hw
    omega
theorem wof_rng (t : Tk) : Rng (wof t) := by
  unfold wof
  split
  · exact quoteL_rng (bytesOf_range _)
  · exact bytesOf_range _
theorem str_size (l : List Int) (h : Rng l) : (strOfNums l).size = l.length := by rw [← bytesOf_length, bytesOf_str l h]
theorem rd_drop (ts : List Tk) (i : Nat) (h : i < ts.length) : ts.drop i = rd_T31 ts (i : Int) :: ts.drop (i + 1) := by
  rw [List.drop_eq_getElem_cons h]
  congr 1
  unfold rd_T31
  rw [Int.toNat_natCast, List.getD_eq_getElem?_getD, List.getElem?_eq_getElem h]; rfl
theorem Placed.len {bs : List Int} : ∀ {e : Nat} {ts : List Tk}, Placed bs e ts → e ≤ bs.length → ts.length + e ≤ bs.length
  | e, [], _, h => by simpa using h
  | e, t :: r, ⟨hok, a, ha, hea, ⟨rest, hr⟩, hp⟩, h => by
    have h1 := wof_pos hok
    have h2 := congrArg List.length hr
    rw [List.length_drop, List.length_append] at h2
    have := Placed.len hp (by omega)
    rw [List.length_cons]; omega
theorem tokM_cases (x : ByteArray) : (∃ ts, tokM x = (ts, 0, 0) ∧ sm 0 .sk [] (bytesOf x) = .good ts ∧ V (bytesOf x) ∧ x.size ≤ 3000) ∨ (∃ j : Nat, tokM x = ([], 8, (j : Int)) ∧ j ≤ x.size) ∨ (tokM x = ([], 2, 0) ∧ x.size > 3000) := by
  unfold tokM
  by_cases h : x.size > 3000
  · rw [if_pos h]; exact .inr (.inr ⟨rfl, h⟩)
  · rw [if_neg h]
    have hw : (wrongN x.data.toList ≤ x.size) ∨ (wrongN x.data.toList = x.size + 1 ∧ brkL x.data.toList = x.size) := by
      unfold wrongN
      rw [data_length]
      split
      · rename_i q; exact .inr ⟨rfl, q⟩
      · have := brkL_le x.data.toList; rw [data_length] at this; exact .inl this
    cases hs : sm 0 .sk [] (bytesOf x) with
    | bad j =>
      have hj : j ≤ x.size := sm_bad_le x x.size 0 .sk [] j (by omega) (by omega) (fun _ _ _ e => by cases e) hs
      refine .inr (.inl ⟨min (wrongN x.data.toList) j, ?_, by omega⟩)
      simp only; congr 2; omega
    | good ts =>
      simp only
      rcases hw with hw | ⟨hw, hv⟩
      · rw [if_pos (by omega)]; exact .inr (.inl ⟨wrongN x.data.toList, rfl, hw⟩)
      · rw [if_neg (by omega)]; exact .inl ⟨ts, rfl, rfl, (V_bytes x).2 hv, by omega⟩
end Go.Proofs.YtlhllcbglfffdaaDoor.Pu
