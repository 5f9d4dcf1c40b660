/- The laws on places and on strings. -/
import Derived.Test.YtlhllcbglfffdaaDoorLexP5
namespace Go.Proofs.YtlhllcbglfffdaaDoor.Pu
open Go.RowKit Go.Proofs.YtlhllcbglfffdaaDoor.Pr Go.Proofs.YtlhllcbglfffdaaDoorW.PrintWords Go.Proofs.YtlhllcbglfffdaaDoor.Lx
set_option linter.unusedVariables false
set_option linter.unusedSimpArgs false

theorem escL_ge (l : List Int) : l.length ≤ (escL l).length := by
  induction l with
  | nil => simp [escL]
  | cons c l ih =>
    rw [escL_cons, List.length_append, List.length_cons]
    split
    all_goals simp
    all_goals omega
theorem wof_pos {t : Tk} (h : okT t) : 1 ≤ (wof t).length := by
  unfold wof
  rcases h with ⟨h1, c, l, h2, _⟩ | ⟨h1, _⟩ | ⟨c, _, h1, h2⟩
  · rw [if_neg (by omega), h2]; simp
  · rw [if_pos h1]; simp
  · rw [if_neg (by rw [h1]; exact opIdx_ne c), h2]; simp
theorem piece {x : ByteArray} {a : Nat} {w rest : List Int} (h : (bytesOf x).drop a = w ++ rest) : x.extract a (a + w.length) = strOfNums w ∧ (w ≠ [] → a + w.length ≤ x.size) := by
  constructor
  · refine (strOfNums_inj_bytes _ _ ?_).symm
    rw [bytesOf_ext, List.drop_take, h, show a + w.length - a = w.length by omega, List.take_left]
  · intro hw
    have := congrArg List.length h
    rw [List.length_drop, bytesOf_length, List.length_append] at this
    have := List.length_pos_iff.2 hw
    omega
theorem wof_rng (t : Tk) : Rng (wof t) := by
  unfold wof
  split
  · exact quoteL_rng (bytesOf_range _)
  · exact bytesOf_range _
theorem str_size (l : List Int) (h : Rng l) : (strOfNums l).size = l.length := by rw [← bytesOf_length, bytesOf_str l h]
theorem rd_drop (ts : List Tk) (i : Nat) (h : i < ts.length) : ts.drop i = rd_T31 ts (i : Int) :: ts.drop (i + 1) := by
  rw [List.drop_eq_getElem_cons h]
  congr 1
  unfold rd_T31
  rw [Int.toNat_natCast, List.getD_eq_getElem?_getD, List.getElem?_eq_getElem h]; rfl
theorem places_loop (x : ByteArray) (hx : x.size ≤ 4000) (ts : List Tk) (d : Nat) : ∀ (i e : Nat), i ≤ ts.length → ts.length - i ≤ d → ts.length ≤ 1000000 → Placed (bytesOf x) e (ts.drop i) → e ≤ x.size → Ev (fun k => parapetlaw19_LexPlaces.l0 k x ts (e : Int) (i : Int)) true := by
  have aw : Ev (fun k => (parapetlaw19_awake.f k).bind fun t163 => some t163) true := Ev.bind awake_ev (Ev.now _)
  induction d with
  | zero =>
    intro i e hi hd hl hp he
    refine Ev.step (fun k => ?_) aw
    simp only [parapetlaw19_LexPlaces.l0]
    rw [if_neg (by omega)]
  | succ d ih =>
    intro i e hi hd hl hp he
    by_cases hlt : i < ts.length
    · rw [rd_drop ts i hlt] at hp
      obtain ⟨hok, a, ha, hea, ⟨rest, hr⟩, hp2⟩ := hp
      generalize ht : rd_T31 ts (i : Int) = t at *
      have hpos := wof_pos hok
      obtain ⟨hx1, hx2⟩ := piece hr
      have hx2 := hx2 (by intro h; rw [h] at hpos; simp at hpos)
      have nx := ih (i + 1) (a + (wof t).length) (by omega) (by omega) hl hp2 (by omega)
      have hsz := str_size (wof t) (wof_rng t)
      have hf : Ev (fun k => parapetlaw19_LexPlaces.j1 k x ts (i : Int) false t.f0 t.f1 t.f2) true := by
        rw [ha]
        by_cases h2 : t.f0 = 2
        · have hw : wof t = quoteL (bytesOf t.f2) := by unfold wof; rw [if_pos h2]; rfl
          have hq := quote_ev t.f2 (by
            have h1 := escL_ge (bytesOf t.f2)
            rw [bytesOf_length] at h1
            rw [hw] at hx2
            unfold quoteL at hx2
            simp at hx2; omega)
          rw [← hw] at hq
          refine Ev.step (fun k => ?_) (Ev.bind hq (f := fun k t238 => (if (wrap64 ((x.size : Int) - (a : Int))) < (t238.size : Int) then (some false) else (if 0 ≤ (a : Int) then (if (a : Int) ≤ (wrap64 ((a : Int) + (t238.size : Int))) then (if (wrap64 ((a : Int) + (t238.size : Int))) ≤ (x.size : Int) then (if (x.extract ((a : Int) : Int).toNat ((wrap64 ((a : Int) + (t238.size : Int))) : Int).toNat).toList = t238.toList then (parapetlaw19_LexPlaces.l0 k x ts (wrap64 ((a : Int) + (t238.size : Int))) (wrap64 ((i : Int) + 1))) else (some false)) else (none)) else (none)) else (none)))) ?_)
          · simp only [parapetlaw19_LexPlaces.j1]
            rw [if_neg (by simp), if_pos h2]
          · refine Ev.congr (fun k => ?_) nx
            rw [hsz, w64 (by omega) (by omega), w64 (by omega) (by omega), w64 (by omega) (by omega), if_neg (by omega), if_pos (by omega), if_pos (by omega), if_pos (by omega), Int.toNat_natCast, show ((a : Int) + ((wof t).length : Int)).toNat = a + (wof t).length by omega, hx1, if_pos rfl]
            rfl
        · have hw : strOfNums (wof t) = t.f2 := by unfold wof; rw [if_neg h2]; exact str_bytesOf _
          rw [hw] at hx1 hsz
          refine Ev.step (fun k => ?_) nx
          simp only [parapetlaw19_LexPlaces.j1]
          rw [if_neg (by simp), if_neg h2, hsz, w64 (by omega) (by omega), w64 (by omega) (by omega), w64 (by omega) (by omega), if_neg (by omega), if_pos (by omega), if_pos (by omega), if_pos (by omega), Int.toNat_natCast, show ((a : Int) + ((wof t).length : Int)).toNat = a + (wof t).length by omega, hx1, if_pos rfl]
          rfl
      refine Ev.step (fun k => ?_) hf
      simp only [parapetlaw19_LexPlaces.l0, ht]
      rw [if_pos (by omega), if_pos (by omega), if_neg (by omega), show decide (t.f1 ≥ (x.size : Int)) = false from decide_eq_false (by omega)]
    · refine Ev.step (fun k => ?_) aw
      simp only [parapetlaw19_LexPlaces.l0]
      rw [if_neg (by omega)]
theorem Placed.len {bs : List Int} : ∀ {e : Nat} {ts : List Tk}, Placed bs e ts → e ≤ bs.length → ts.length + e ≤ bs.length
  | e, [], _, h => by simpa using h
  | e, t :: r, ⟨hok, a, ha, hea, ⟨rest, hr⟩, hp⟩, h => by
    have h1 := wof_pos hok
    have h2 := congrArg List.length hr
    rw [List.length_drop, List.length_append] at h2
    have := Placed.len hp (by omega)
    rw [List.length_cons]; omega
theorem tokM_cases (x : ByteArray) : (∃ ts, tokM x = (ts, 0, 0) ∧ sm 0 .sk [] (bytesOf x) = .good ts ∧ V (bytesOf x) ∧ x.size ≤ 3000) ∨ (∃ j : Nat, tokM x = ([], 8, (j : Int)) ∧ j ≤ x.size) ∨ (tokM x = ([], 2, 0) ∧ x.size > 3000) := by
  unfold tokM
  by_cases h : x.size > 3000
  · rw [if_pos h]; exact .inr (.inr ⟨rfl, h⟩)
  · rw [if_neg h]
    have hw : (wrongN x.data.toList ≤ x.size) ∨ (wrongN x.data.toList = x.size + 1 ∧ brkL x.data.toList = x.size) := by
      unfold wrongN
      rw [data_length]
      split
      · rename_i q; exact .inr ⟨rfl, q⟩
      · have := brkL_le x.data.toList; rw [data_length] at this; exact .inl this
    cases hs : sm 0 .sk [] (bytesOf x) with
    | bad j =>
      have hj : j ≤ x.size := sm_bad_le x x.size 0 .sk [] j (by omega) (by omega) (fun _ _ _ e => by cases e) hs
      refine .inr (.inl ⟨min (wrongN x.data.toList) j, ?_, by omega⟩)
      simp only; congr 2; omega
    | good ts =>
      simp only
      rcases hw with hw | ⟨hw, hv⟩
      · rw [if_pos (by omega)]; exact .inr (.inl ⟨wrongN x.data.toList, rfl, hw⟩)
      · rw [if_neg (by omega)]; exact .inl ⟨ts, rfl, rfl, (V_bytes x).2 hv, by omega⟩
theorem lexplaces : parapetlaw19_LexPlaces.Pure := by
  intro a0 _
  have aw : Ev (fun k => (parapetlaw19_awake.f k).bind fun t163 => some t163) true := Ev.bind awake_ev (Ev.now _)
  have : Ev (fun k => parapetlaw19_LexPlaces.f k a0) true := by
    unfold parapetlaw19_LexPlaces.f
    by_cases h : (a0.size : Int) > 4000
    · simp only [h, if_true]; exact aw
    · simp only [h, if_false]
      refine Ev.bind (tokens_ev a0) ?_
      rcases tokM_cases a0 with ⟨ts, h1, h2, h3, h4⟩ | ⟨j, h1, h2⟩ | ⟨h1, h2⟩
      · rw [h1]
        simp only [if_true]
        have hp := placed a0 ts h2
        have hl := hp.len (Nat.zero_le _)
        rw [bytesOf_length] at hl
        exact places_loop a0 (by omega) ts ts.length 0 0 (Nat.zero_le _) (by omega) (by omega) (by rw [List.drop_zero]; exact hp) (Nat.zero_le _)
      · rw [h1]
        have e1 : ¬ ((8 : Int) = 0) := by omega
        have e2 : (j : Int) ≥ 0 := by omega
        have e3 : (j : Int) ≤ (a0.size : Int) := by omega
        simp only [e1, e2, e3, if_true, if_false]
        exact aw
      · rw [h1]
        have e1 : ¬ ((2 : Int) = 0) := by omega
        have e2 : (0 : Int) ≥ 0 := by omega
        have e3 : (0 : Int) ≤ (a0.size : Int) := by omega
        simp only [e1, e2, e3, if_true, if_false]
        exact aw
  exact this.rounds
end Go.Proofs.YtlhllcbglfffdaaDoor.Pu
