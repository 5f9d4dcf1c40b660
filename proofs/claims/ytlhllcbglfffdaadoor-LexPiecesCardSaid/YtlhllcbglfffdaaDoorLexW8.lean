/- The walk of Tokens: the end. -/
import Derived.Test.YtlhllcbglfffdaaDoorLexW7
namespace Go.Proofs.YtlhllcbglfffdaaDoor.Lx
open Go.RowKit Go.Proofs.YtlhllcbglfffdaaDoor.Pr Go.Proofs.YtlhllcbglfffdaaDoorW.PrintWords Go.Proofs.YtlhllcbglfffdaaDoorW.PrintLast Go.Proofs.YtlhllcbglfffdaaDoorW.PrintMore
set_option linter.unusedVariables false
set_option linter.unusedSimpArgs false

/-- What Tokens hands back: the tokens, the fault. -/
def tokRes (s : ByteArray) (bad : Int) : List Tk × Int × Int :=
  let r := run s (btw s 0) []
  let b := match r.2 with
    | some j => min bad (j : Int)
    | none => bad
  if b ≤ (s.size : Int) then ([], 8, b) else (r.1, 0, 0)

set_option maxHeartbeats 4000000 in
set_option maxRecDepth 100000 in
theorem tokens_big (s : ByteArray) (w : World) (h : s.size > 3000) :
    Calls Tryd.prog 9 #[.string s] w fun e w' => e = .returned (.tuple #[.slice none 0 0, .agg #[.int .i64 2, .int .i64 0]]) ∧ Below w.heap.size w w' := by
  have h1 : decide (3000 < s.size) = true := decide_eq_true h
  have hu := Tryd.underlying26
  go_enter Tryd.func9, Tryd.ntmps9
  go_wp2
  exact bodyPost_ret (v := .tuple #[.slice none 0 0, .agg #[.int .i64 2, .int .i64 0]]) (by simp [results, Tryd.results9, go_sem]) rfl ⟨rfl, below_alloc (Below.refl _ _) _⟩
set_option maxHeartbeats 4000000 in
set_option maxRecDepth 100000 in
theorem tokens_calls (s : ByteArray) (k : Nat) (bad : Int) (w : World) (hL : Laid w) (h : s.size ≤ 3000) (hw : lex_wrong.f k s = some bad) (r1 : List Tk) (r2 r3 : Int) (hr : tokRes s bad = (r1, r2, r3)) :
    Calls Tryd.prog 9 #[.string s] w fun e w' => ∃ v0_ : Value, e = .returned (.tuple #[v0_, .agg #[.int .i64 r2, .int .i64 r3]]) ∧ Kd.R k31 31 w' w.heap.size (fun _ => True) v0_ r1 ∧ Below w.heap.size w w' := by
  have h1 : decide (3000 < s.size) = false := decide_eq_false (by omega)
  have h1i : decide ((3000 : Int) < (s.size : Int)) = false := decide_eq_false (by omega)
  have h1j : ¬ ((3000 : Int) < (s.size : Int)) := by omega
  have hu := Tryd.underlying26
  have HL := Aside0.mk hL
  have HW := Aside0.mk hw
  have HR := Aside0.mk hr
  have HS := Aside0.mk h
  clear hL hw hr h
  go_enter Tryd.func9, Tryd.ntmps9
  go_wp2_with fail
  refine (lex_wrong.calls k s bad _ ?_ HW.out).mono ?_
  · exact HL.out.below (by exact below_alloc (below_alloc (Below.refl _ _) _) _)
  rintro e w1 ⟨rfl, hb1⟩
  have hF1 : w1.heap[w.heap.size]? = some (.cells #[.int .i64 0, .int .i64 0] 26 (0, 0)) := by
    rw [hb1.block _ (by simp; omega)]
    exact blk_alloc (blk_new w _) _
  have hB1 : Blk w1 (w.heap.size + 1) s (0 : Nat) (.slice none 0 0) := by
    unfold Blk
    rw [hb1.block _ (by simp)]
    have := blk_new (w.alloc (.cells #[.int .i64 0, .int .i64 0] 26)) (.cells #[.string s, .int .i64 0, .slice none 0 0] 42)
    simpa using this
  have hW1 : Below w.heap.size w w1 := Below.trans (below_alloc (below_alloc (Below.refl _ _) _) _) (hb1.mono (by simp; omega))
  clear hb1
  have HB1 := Aside0.mk hB1
  have HF1 := Aside0.mk hF1
  have HW1 := Aside0.mk hW1
  clear hB1 hF1 hW1
  go_wp2_with fail
  refine (between_calls s 0 _ _ _ (by have := HS.out; omega) (Nat.zero_le _) HB1.out).mono ?_
  rintro e w2 ⟨rfl, hb2, hk2⟩
  have HB2 := Aside0.mk hb2
  have HF2 := Aside0.mk (hk2.k.blk HF1.out (by omega) (by simp))
  have HW2 := Aside0.mk (HW1.out.trans (hk2.b.mono (by omega)))
  clear hb2 hk2 HB1 HF1 HW1
  have hRR : tokRes s bad = tokRes s bad := rfl
  obtain ⟨RR, hRun⟩ : ∃ R, run s (btw s 0) [] = R := ⟨_, rfl⟩
  have HRun := Aside0.mk hRun
  clear hRR hRun
  go_wp2_with fail
  have HRun0 := HRun
  go_loopg [5] (s.size) (fun gk v5 w' => ∃ (i : Nat) (ts : List Tk) (L : Value), v5 = .int .i64 bad ∧ Aside0 (i ≤ s.size) ∧ Aside0 (run s i ts = RR) ∧ Aside0 (Blk w' (w.heap.size + 1) s i L) ∧ Aside0 (w'.heap[w.heap.size]? = some (.cells #[.int .i64 0, .int .i64 0] 26 (0, 0))) ∧ Aside0 (Below w.heap.size w w') ∧ Aside0 (Kd.R k31 31 w' (w.heap.size + 1) (fun k => k ≠ w.heap.size + 1) L ts) ∧ Aside0 (ts.length ≤ i) ∧ Aside0 (s.size - i ≤ gk))
  case atStart =>
    have hbl := btw_le s 0 (Nat.zero_le _)
    exact ⟨btw s 0, [], _, rfl, ⟨hbl.2⟩, HRun, HB2, HF2, HW2, ⟨Kd.R_nil _ _ _ _ _⟩, ⟨Nat.zero_le _⟩, ⟨by omega⟩⟩
  case round =>
    clear HRun HB2 HF2 HW2
    obtain ⟨i, ts, L, rfl, Hi, HRun, HB, HF, HW2, HO, HLn, HG⟩ := hrel
    have hi := Hi.out
    have c0 := HB.out.c0
    have c1 := HB.out.c1
    by_cases hlt : i < s.size
    · have e1 : decide (s.size ≤ i) = false := decide_eq_false (by omega)
      have e1i : decide ((s.size : Int) ≤ (i : Int)) = false := decide_eq_false (by omega)
      match htk : tokE s i with
      | none =>
        have hst := run_none s i ts hlt htk
        rw [HRun.out] at hst
        subst hst
        go_wp2_with (first | (go_at_call 16; refine (end_calls s i L _ _ HB.out).mono ?_; rintro e w' ⟨rfl, ⟨n, rfl⟩⟩))
        refine (token_nothing s i L ts _ (w.heap.size + 1) _ (by have := HS.out; omega) hlt (by exact blk_drewN HB.out _) (by exact Kd.R_drewN HO.out _) (Nat.le_refl _) (by have := HS.out; have := HLn.out; omega) htk).mono ?_
        rintro e w3 ⟨rfl, hb3, hw3⟩
        have c1 := hb3.c1
        have c0 := hb3.c0
        have c2 := hb3.c2
        have hF3 : w3.heap[w.heap.size]? = some (.cells #[.int .i64 0, .int .i64 0] 26 (0, 0)) := by
          rw [hw3.block _ (by omega)]
          exact HF.out
        have f0 := blk_frozen hF3 0
        have f1 := blk_frozen hF3 1
        have d0 := (blk_cell hF3 0).trans rfl
        have d1 := (blk_cell hF3 1).trans rfl
        have HW3 := Aside0.mk ((HW2.out.trans (pw_below_drewN (Below.refl _ _) _)).trans (hw3.mono (by omega)))
        have HR2 := HR.out
        unfold tokRes at HR2
        rw [HRun0.out] at HR2
        clear hF3
        by_cases hbad : min bad (i : Int) ≤ (s.size : Int)
        · have b1 : decide (min bad (i : Int) ≤ (s.size : Int)) = true := decide_eq_true hbad
          simp only [if_pos hbad, Prod.mk.injEq] at HR2
          obtain ⟨rfl, rfl, rfl⟩ := HR2
          go_wp2_with fail
          all_goals
            exact bodyPost_ret (v := .tuple #[.slice none 0 0, .agg #[.int .i64 8, .int .i64 (min bad (i : Int))]]) (by simp [results, Tryd.results9, go_sem, d0, d1, hu]) rfl ⟨_, rfl, Kd.R_nil _ _ _ _ _, (HW3.out.setCell (Nat.le_refl _) _).setCell (Nat.le_refl _) _⟩
        · exact absurd (by omega) hbad
      | some (t, j, true) =>
        go_wp2_with (first | (go_at_call 16; refine (end_calls s i L _ _ HB.out).mono ?_; rintro e w' ⟨rfl, ⟨n, rfl⟩⟩))
        refine (token_calls s i L ts _ (w.heap.size + 1) _ (by have := HS.out; omega) hlt (by exact blk_drewN HB.out _) (by exact Kd.R_drewN HO.out _) (Nat.le_refl _) (by have := HS.out; have := HLn.out; omega) htk).mono ?_
        rintro e w3 ⟨rfl, L3, hb3, ho3, hw3⟩
        have hj := tokE_ge s i hlt htk
        go_wp2_with fail
        refine (between_calls s j _ _ _ (by have := HS.out; omega) hj.2 (by exact hb3)).mono ?_
        rintro e w4 ⟨rfl, hb4, hk4⟩
        have hbl := btw_le s j hj.2
        go_wp2
        go_roundg (s.size - btw s j)
        case measure => have := HG.out; omega
        case rel =>
          refine ⟨btw s j, ts ++ [t], L3, rfl, ⟨by omega⟩, ⟨by rw [← HRun.out]; exact (run_go s i ts hlt htk).symm⟩, ⟨hb4⟩, ⟨?_⟩, ⟨?_⟩, ⟨?_⟩, ⟨by have := HLn.out; simp; omega⟩, ⟨Nat.le_refl _⟩⟩
          · refine hk4.k.blk ?_ (by omega) (by simp)
            rw [hw3.block _ (by omega)]
            exact HF.out
          · exact (HW2.out.trans (pw_below_drewN (Below.refl _ _) _)).trans ((hw3.mono (by omega)).trans (hk4.b.mono (by omega)))
          · exact Kd.R_keep ho3 hk4.k (fun k hk => hk)
      | some (t, j, false) =>
        have hst := run_bad s i ts hlt htk
        rw [HRun.out] at hst
        subst hst
        go_wp2_with (first | (go_at_call 16; refine (end_calls s i L _ _ HB.out).mono ?_; rintro e w' ⟨rfl, ⟨n, rfl⟩⟩))
        refine (token_calls s i L ts _ (w.heap.size + 1) _ (by have := HS.out; omega) hlt (by exact blk_drewN HB.out _) (by exact Kd.R_drewN HO.out _) (Nat.le_refl _) (by have := HS.out; have := HLn.out; omega) htk).mono ?_
        rintro e w3 ⟨rfl, L3, hb3, ho3, hw3⟩
        have c1 := hb3.c1
        have c0 := hb3.c0
        have c2 := hb3.c2
        have hF3 : w3.heap[w.heap.size]? = some (.cells #[.int .i64 0, .int .i64 0] 26 (0, 0)) := by
          rw [hw3.block _ (by omega)]
          exact HF.out
        have f0 := blk_frozen hF3 0
        have f1 := blk_frozen hF3 1
        have d0 := (blk_cell hF3 0).trans rfl
        have d1 := (blk_cell hF3 1).trans rfl
        have HW3 := Aside0.mk ((HW2.out.trans (pw_below_drewN (Below.refl _ _) _)).trans (hw3.mono (by omega)))
        have HR2 := HR.out
        unfold tokRes at HR2
        rw [HRun0.out] at HR2
        clear hF3
        by_cases hbad : min bad (j : Int) ≤ (s.size : Int)
        · have b1 : decide (min bad (j : Int) ≤ (s.size : Int)) = true := decide_eq_true hbad
          simp only [if_pos hbad, Prod.mk.injEq] at HR2
          obtain ⟨rfl, rfl, rfl⟩ := HR2
          go_wp2_with fail
          all_goals
            exact bodyPost_ret (v := .tuple #[.slice none 0 0, .agg #[.int .i64 8, .int .i64 (min bad (j : Int))]]) (by simp [results, Tryd.results9, go_sem, d0, d1, hu]) rfl ⟨_, rfl, Kd.R_nil _ _ _ _ _, (HW3.out.setCell (Nat.le_refl _) _).setCell (Nat.le_refl _) _⟩
        · have b1 : decide (min bad (j : Int) ≤ (s.size : Int)) = false := decide_eq_false hbad
          simp only [if_neg hbad, Prod.mk.injEq] at HR2
          obtain ⟨rfl, rfl, rfl⟩ := HR2
          go_wp2_with fail
          all_goals
            exact bodyPost_ret (v := .tuple #[L3, .agg #[.int .i64 0, .int .i64 0]]) (by simp [results, Tryd.results9, go_sem, d0, d1, hu]) rfl ⟨_, rfl, Kd.R_lower (Kd.R_mono (Kd.R_far (Kd.R_far (Kd.R_bound ho3) (p := ⟨w.heap.size, 0, none⟩) (fun k hk => Nat.ne_of_gt hk.2.1) _) (p := ⟨w.heap.size, 1, none⟩) (fun k hk => Nat.ne_of_gt hk.2.1) _) (fun _ _ => trivial)) (by omega), (HW3.out.setCell (Nat.le_refl _) _).setCell (Nat.le_refl _) _⟩
    · have e1 : decide (s.size ≤ i) = true := decide_eq_true (by omega)
      have e1i : decide ((s.size : Int) ≤ (i : Int)) = true := decide_eq_true (by omega)
      have hst := run_stop s i ts hlt
      rw [HRun.out] at hst
      subst hst
      have HR2 := HR.out
      unfold tokRes at HR2
      rw [HRun0.out] at HR2
      have c2 := HB.out.c2
      have f0 := blk_frozen HF.out 0
      have f1 := blk_frozen HF.out 1
      have d0 := (blk_cell HF.out 0).trans rfl
      have d1 := (blk_cell HF.out 1).trans rfl
      by_cases hbad : bad ≤ (s.size : Int)
      · have b1 : decide (bad ≤ (s.size : Int)) = true := decide_eq_true hbad
        simp only [if_pos hbad, Prod.mk.injEq] at HR2
        obtain ⟨rfl, rfl, rfl⟩ := HR2
        go_wp2_with (go_at_call 16; refine (end_calls s i L _ _ HB.out).mono ?_; rintro e w' ⟨rfl, ⟨n, rfl⟩⟩)
        all_goals
          exact bodyPost_ret (v := .tuple #[.slice none 0 0, .agg #[.int .i64 8, .int .i64 bad]]) (by simp [results, Tryd.results9, go_sem, d0, d1, hu]) rfl ⟨_, rfl, Kd.R_nil _ _ _ _ _, ((pw_below_drewN HW2.out _).setCell (Nat.le_refl _) _).setCell (Nat.le_refl _) _⟩
      · have b1 : decide (bad ≤ (s.size : Int)) = false := decide_eq_false hbad
        simp only [if_neg hbad, Prod.mk.injEq] at HR2
        obtain ⟨rfl, rfl, rfl⟩ := HR2
        go_wp2_with (go_at_call 16; refine (end_calls s i L _ _ HB.out).mono ?_; rintro e w' ⟨rfl, ⟨n, rfl⟩⟩)
        all_goals
          exact bodyPost_ret (v := .tuple #[L, .agg #[.int .i64 0, .int .i64 0]]) (by simp [results, Tryd.results9, go_sem, d0, d1, hu]) rfl ⟨_, rfl, Kd.R_lower (Kd.R_mono (Kd.R_far (Kd.R_far (Kd.R_bound (Kd.R_drewN HO.out _)) (p := ⟨w.heap.size, 0, none⟩) (fun k hk => Nat.ne_of_gt hk.2.1) _) (p := ⟨w.heap.size, 1, none⟩) (fun k hk => Nat.ne_of_gt hk.2.1) _) (fun _ _ => trivial)) (by omega), ((pw_below_drewN HW2.out _).setCell (Nat.le_refl _) _).setCell (Nat.le_refl _) _⟩
end Go.Proofs.YtlhllcbglfffdaaDoor.Lx
