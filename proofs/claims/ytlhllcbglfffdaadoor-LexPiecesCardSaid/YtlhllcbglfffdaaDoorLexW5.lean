/- The walk of token: strings, marks, nothing. -/
import Derived.Test.YtlhllcbglfffdaaDoorLexW4
import Derived.IntWalk
namespace Go.Proofs.YtlhllcbglfffdaaDoor.Lx
open Go.RowKit Go.Proofs.YtlhllcbglfffdaaDoor.Pr Go.Proofs.YtlhllcbglfffdaaDoorW.PrintWords Go.Proofs.YtlhllcbglfffdaaDoorW.PrintLast Go.Proofs.YtlhllcbglfffdaaDoorW.PrintMore
set_option linter.unusedVariables false
set_option linter.unusedSimpArgs false
set_option maxHeartbeats 4000000 in
set_option maxRecDepth 100000 in
theorem token_quote (s : ByteArray) (i : Nat) (L : Value) (ts : List Tk) (g base : Nat) (w : World) (hs : s.size ≤ 140737488351232) (hi : i < s.size) (hb : Blk w g s i L)
    (hO : Kd.R k31 31 w base (fun k => k ≠ g) L ts) (hbase : base ≤ g) (hts : ts.length ≤ 1000000000) (hl : pLetter (bt s i) = false) (q34 : bt s (i : Int) = 34) (ro : List Int) (rj : Nat) (rb : Bool) (hR : quoE s (i + 1) [] = (ro, rj, rb)) :
    Calls Tryd.prog 17 #[.pointer (some ⟨g, 0, none⟩)] w fun e w' =>
      e = .returned (.bool rb) ∧ ∃ L', Blk w' g s (rj : Nat) L' ∧ Kd.R k31 31 w' base (fun k => k ≠ g) L' (ts ++ [⟨2, i, strOfNums ro⟩]) ∧ Below base w w' := by
  have hg := blk_lt hb
  have c0 := hb.c0
  have c1 := hb.c1
  have hr := bt_range s (i : Int)
  have HLT := Aside0.mk (show ∀ W : World, Calls Tryd.prog 23 #[.int .u8 (bt s (i : Int))] W fun e w' => e = .returned (.bool false) ∧ Drawn0 W w' from fun W => lex_letter.calls _ _ W ((pLetter_some _ hr.1 hr.2).trans (by rw [hl])))
  have hlt2 : (i : Int) < (s.size : Int) := by omega
  have hx : ∀ h : i < s.size, ((s[i]'h).toNat : Int) = bt s (i : Int) := fun h => bt_at s (i : Int) h
  have b34 : (bt s (i : Int) == 34) = true := beq_iff_eq.mpr q34
  clear q34
  have HR := Aside0.mk hR
  clear hR
  have HB := Aside0.mk hb
  have HS := Aside0.mk hs
  have HO := Aside0.mk hO
  have HG0 := Aside0.mk hg
  have hu := Tryd.underlying31
  clear hb hO hl
  go_enter Tryd.func17, Tryd.ntmps17
  go_wp2
  go_quiet (fail)
  go_wp2_with fail
  refine (HLT.out _).mono ?_
  rintro e w' ⟨rfl, ⟨n, rfl⟩⟩
  have hne : w.heap.size ≠ g := by omega
  go_wp2_with fail
  refine (quoted_calls s i L g _ HS.out hi (by exact blk_far (blk_drewN (blk_alloc HB.out _) _) (Ne.symm hne) _) ro rj rb HR.out).mono ?_
  rintro e w1 ⟨rfl, hb1, hk1⟩
  have hT1 : w1.heap[w.heap.size]? = some (.cells #[.int .i64 2, .int .i64 i, .string ⟨#[]⟩] 31 (0, 0)) := hk1.k.blk (by exact blk_put (blk_drewN (blk_new w (.cells #[.int .i64 0, .int .i64 i, .string ⟨#[]⟩] 31)) _) 0 (.int .i64 2) rfl) hne (by simp)
  have t0 := (blk_cell hT1 0).trans rfl
  have t1 := (blk_cell hT1 1).trans rfl
  have t2 := (blk_cell hT1 2).trans rfl
  have tf2 := blk_frozen hT1 2
  have d0 := hb1.c0
  have d1 := hb1.c1
  have d2 := hb1.c2
  have df := hb1.fr 2
  have HT1 := Aside0.mk hT1
  have HB1 := Aside0.mk hb1
  have HK1 := Aside0.mk hk1
  clear hT1 hb1 hk1 c0 c1
  go_wp2
  have hT3 : (w1.setCell ⟨w.heap.size, 2, none⟩ (.string (strOfNums ro))).heap[w.heap.size]? = some (.cells #[.int .i64 2, .int .i64 i, .string (strOfNums ro)] 31 (0, 0)) := by
    have := blk_set HT1.out 2 (.string (strOfNums ro)); simpa using this
  have hB3 : Blk (w1.setCell ⟨w.heap.size, 2, none⟩ (.string (strOfNums ro))) g s (rj : Nat) L := blk_far HB1.out (Ne.symm hne) _
  have hO3 : Kd.R k31 31 (w1.setCell ⟨w.heap.size, 2, none⟩ (.string (strOfNums ro))) base (fun k => k ≠ g) L ts :=
    Kd.R_mono (Kd.R_far (Kd.R_keep (Kd.R_far (Kd.R_drewN (Kd.R_alloc (Kd.R_bound HO.out) _) _) (p := ⟨w.heap.size, 0, none⟩) (fun k hk => Nat.ne_of_lt hk.2.2.1) _) HK1.out.k (fun k hk => hk.1)) (p := ⟨w.heap.size, 2, none⟩) (fun k hk => Nat.ne_of_lt hk.2.2.1) _) (fun k hk => hk.1)
  have hW3 : Below base w (w1.setCell ⟨w.heap.size, 2, none⟩ (.string (strOfNums ro))) :=
    (((pw_below_drewN (below_alloc (Below.refl w.heap.size w) _) _).mono (by omega : base ≤ w.heap.size)).setCell (by simp; omega) _).trans (HK1.out.b.mono hbase) |>.setCell (by simp; omega) _
  clear t0 t1 t2 tf2 d0 d1 d2 df hne
  generalize (w1.setCell ⟨w.heap.size, 2, none⟩ (.string (strOfNums ro))) = W3 at hT3 hB3 hO3 hW3 ⊢
  have HT3 := Aside0.mk hT3
  have HB3 := Aside0.mk hB3
  have HO3 := Aside0.mk hO3
  have HW3 := Aside0.mk hW3
  have t0 := (blk_cell hT3 0).trans rfl
  have t1 := (blk_cell hT3 1).trans rfl
  have t2 := (blk_cell hT3 2).trans rfl
  have d2 := hB3.c2
  have df := hB3.fr 2
  have hg3 := blk_lt hB3
  have hb3 := blk_lt hT3
  have hne : g ≠ w.heap.size := by omega
  clear hT3 hB3 hO3 hW3
  have hbase3 : base ≤ W3.heap.size := by omega
  go_region_law ((refine app_tok base g (by rfl) (.tmp 84) (.tmp 86) rfl L ts (⟨2, i, strOfNums ro⟩ : Tk) ?aV ?aX ?aG ?aO ?aS ?aL ?_; (case aV => first | rfl | (simp [Act.eval])); (case aX => first | rfl | (simp [Act.eval])); (case aG => exact hg3); (case aO => exact HO3.out); (case aS => exact hbase3); (case aL => omega); intro v1 w1 ho hb1 hg1; obtain ⟨A1, k1, e1⟩ := Kd.R_slice ho; subst e1; have hB4 : Blk w1 g s (rj : Nat) L := blk_grown (blk_drew HB3.out) hg1 (Kd.R_away HO3.out (fun k hk => hk)); have f1' := hB4.fr 2; have c2' := hB4.c2; have HO4 := Aside0.mk ho; have HB4 := Aside0.mk hB4; have HW4 := Aside0.mk (HW3.out.trans hb1); clear ho hb1 hg1 hB4))
  all_goals
    go_wp2
    go_ret
    refine ⟨rfl, _, ?_, Kd.R_far HO4.out (fun k hk => hk) _, HW4.out.setCell (by simp; omega) _⟩
    have := blk_set HB4.out 2 (.slice A1 (ts ++ [(⟨2, i, strOfNums ro⟩ : Tk)]).length k1)
    simpa [Blk] using this
set_option maxHeartbeats 4000000 in
set_option maxRecDepth 100000 in
theorem token_none (s : ByteArray) (i : Nat) (L : Value) (ts : List Tk) (g base : Nat) (w : World) (hs : s.size ≤ 140737488351232) (hi : i < s.size) (hb : Blk w g s i L)
    (hO : Kd.R k31 31 w base (fun k => k ≠ g) L ts) (hbase : base ≤ g) (hts : ts.length ≤ 1000000000) (hl : pLetter (bt s i) = false) (n34 : bt s (i : Int) ≠ 34) (n40 : bt s (i : Int) ≠ 40) (n41 : bt s (i : Int) ≠ 41) (n59 : bt s (i : Int) ≠ 59) :
    Calls Tryd.prog 17 #[.pointer (some ⟨g, 0, none⟩)] w fun e w' =>
      e = .returned (.bool false) ∧ Blk w' g s (i : Nat) L ∧ Below base w w' := by
  have hg := blk_lt hb
  have c0 := hb.c0
  have c1 := hb.c1
  have hr := bt_range s (i : Int)
  have HLT := Aside0.mk (show ∀ W : World, Calls Tryd.prog 23 #[.int .u8 (bt s (i : Int))] W fun e w' => e = .returned (.bool false) ∧ Drawn0 W w' from fun W => lex_letter.calls _ _ W ((pLetter_some _ hr.1 hr.2).trans (by rw [hl])))
  have hlt2 : (i : Int) < (s.size : Int) := by omega
  have hx : ∀ h : i < s.size, ((s[i]'h).toNat : Int) = bt s (i : Int) := fun h => bt_at s (i : Int) h
  have b34 : (bt s (i : Int) == 34) = false := beq_eq_false_iff_ne.mpr n34
  have b40 : (bt s (i : Int) == 40) = false := beq_eq_false_iff_ne.mpr n40
  have b41 : (bt s (i : Int) == 41) = false := beq_eq_false_iff_ne.mpr n41
  have b59 : (bt s (i : Int) == 59) = false := beq_eq_false_iff_ne.mpr n59
  clear n34 n40 n41 n59
  have HB := Aside0.mk hb
  have HS := Aside0.mk hs
  have HO := Aside0.mk hO
  have HG0 := Aside0.mk hg
  have hu := Tryd.underlying31
  clear hb hO hl
  go_enter Tryd.func17, Tryd.ntmps17
  go_wp2
  go_quiet (fail)
  go_wp2_with fail
  refine (HLT.out _).mono ?_
  rintro e w' ⟨rfl, ⟨n, rfl⟩⟩
  go_wp2
  go_ret
  exact ⟨rfl, blk_drewN (blk_alloc HB.out _) _, (pw_below_drewN (below_alloc (Below.refl w.heap.size w) _) _).mono (by omega)⟩
end Go.Proofs.YtlhllcbglfffdaaDoor.Lx
