/- Of each Go function named below: a Lean function with the same answers, and the proof that a call comes to exactly these. Written by a program of this session. -/
import Derived.Test.YtlhllcbglfffdaaDoorPr0
import Derived.Test.YtlhllcbglfffdaaDoorPr4
import Derived.Test.YtlhllcbglfffdaaDoorPr5
namespace Go.Proofs.YtlhllcbglfffdaaDoor.Pr
open Go.RowKit Go.Proofs.YtlhllcbglfffdaaDoorW.PrintWords Go.Proofs.YtlhllcbglfffdaaDoorW.PrintLast Go.Proofs.YtlhllcbglfffdaaDoorW.PrintMore
attribute [local go_sem] max2_int min2_int max_two min_two max_three min_three max_four min_four   -- for this text's walks alone
set_option linter.unusedVariables false
set_option linter.unusedSimpArgs false

/-! ### parapetlaw19_LexPlaces: function 6 -/
mutual
def parapetlaw19_LexPlaces.l0 : Nat → ByteArray → List (S31) → Int → Int → Option (Bool)
  | 0, _, _, _, _ => none
  | k + 1, x0, x3, x5, x6 => if x6 < (x3.length : Int) then (if 0 ≤ x6 then (if ((rd_T31 x3 x6).f1) < x5 then (parapetlaw19_LexPlaces.j1 k x0 x3 x6 true ((rd_T31 x3 x6).f0) ((rd_T31 x3 x6).f1) ((rd_T31 x3 x6).f2)) else (parapetlaw19_LexPlaces.j1 k x0 x3 x6 (decide (((rd_T31 x3 x6).f1) ≥ (x0.size : Int))) ((rd_T31 x3 x6).f0) ((rd_T31 x3 x6).f1) ((rd_T31 x3 x6).f2))) else (none)) else ((parapetlaw19_awake.f k).bind fun t235 => (some t235))
def parapetlaw19_LexPlaces.j1 : Nat → ByteArray → List (S31) → Int → Bool → Int → Int → ByteArray → Option (Bool)
  | 0, _, _, _, _, _, _, _ => none
  | k + 1, x0, x3, x6, x54, x238000, x238001, x238002 => if x54 = true then (some false) else (if x238000 = 2 then ((lex_Quote.f k x238002).bind fun t238 => (if (wrap64 ((x0.size : Int) - x238001)) < (t238.size : Int) then (some false) else (if 0 ≤ x238001 then (if x238001 ≤ (wrap64 (x238001 + (t238.size : Int))) then (if (wrap64 (x238001 + (t238.size : Int))) ≤ (x0.size : Int) then (if (x0.extract (x238001 : Int).toNat ((wrap64 (x238001 + (t238.size : Int))) : Int).toNat).toList = t238.toList then (parapetlaw19_LexPlaces.l0 k x0 x3 (wrap64 (x238001 + (t238.size : Int))) (wrap64 (x6 + 1))) else (some false)) else (none)) else (none)) else (none)))) else (if (wrap64 ((x0.size : Int) - x238001)) < (x238002.size : Int) then (some false) else (if 0 ≤ x238001 then (if x238001 ≤ (wrap64 (x238001 + (x238002.size : Int))) then (if (wrap64 (x238001 + (x238002.size : Int))) ≤ (x0.size : Int) then (if (x0.extract (x238001 : Int).toNat ((wrap64 (x238001 + (x238002.size : Int))) : Int).toNat).toList = x238002.toList then (parapetlaw19_LexPlaces.l0 k x0 x3 (wrap64 (x238001 + (x238002.size : Int))) (wrap64 (x6 + 1))) else (some false)) else (none)) else (none)) else (none))))
end
def parapetlaw19_LexPlaces.f (k : Nat) (a0 : ByteArray) : Option (Bool) := if (a0.size : Int) > 4000 then ((parapetlaw19_awake.f k).bind fun t227 => (some t227)) else ((lex_Tokens.f k a0).bind fun bt228 => (if bt228.2.1 = 0 then (parapetlaw19_LexPlaces.l0 k a0 bt228.1 0 0) else (if bt228.2.2 ≥ 0 then (if bt228.2.2 ≤ (a0.size : Int) then ((parapetlaw19_awake.f k).bind fun t234 => (some t234)) else (some false)) else (some false))))
theorem parapetlaw19_LexPlaces.mono_l : ∀ k, (∀ y0 y1 y2 y3, LeO (parapetlaw19_LexPlaces.l0 k y0 y1 y2 y3) (parapetlaw19_LexPlaces.l0 (k + 1) y0 y1 y2 y3)) ∧ (∀ y0 y1 y2 y3 y4 y5 y6, LeO (parapetlaw19_LexPlaces.j1 k y0 y1 y2 y3 y4 y5 y6) (parapetlaw19_LexPlaces.j1 (k + 1) y0 y1 y2 y3 y4 y5 y6))
  | 0 => ⟨fun _ _ _ _ r h => by simp [parapetlaw19_LexPlaces.l0] at h, fun _ _ _ _ _ _ _ r h => by simp [parapetlaw19_LexPlaces.j1] at h⟩
  | k + 1 => by
    obtain ⟨ih0, ih1⟩ := parapetlaw19_LexPlaces.mono_l k
    refine ⟨?_, ?_⟩
    · intro y0 y1 y2 y3
      unfold parapetlaw19_LexPlaces.l0
      repeat' first
      | (with_reducible exact ih0 _ _ _ _)
      | (with_reducible exact ih1 _ _ _ _ _ _ _)
      | (with_reducible exact lex_Quote.mono _ _)
      | (with_reducible exact lex_Tokens.mono _ _)
      | (with_reducible exact parapetlaw19_awake.mono _)
      | (with_reducible exact LeO.refl _)
      | (with_reducible exact LeO.none _)
      | (with_reducible refine LeO.ite ?_ ?_)
      | (with_reducible refine LeO.bind ?_ (fun _ => ?_))
      | exact ih0 _ _ _ _
      | exact ih1 _ _ _ _ _ _ _
      | exact lex_Quote.mono _ _
      | exact lex_Tokens.mono _ _
      | exact parapetlaw19_awake.mono _
      | exact LeO.none _
      | refine LeO.ite ?_ ?_
      | refine LeO.bind ?_ (fun _ => ?_)
    · intro y0 y1 y2 y3 y4 y5 y6
      unfold parapetlaw19_LexPlaces.j1
      repeat' first
      | (with_reducible exact ih0 _ _ _ _)
      | (with_reducible exact ih1 _ _ _ _ _ _ _)
      | (with_reducible exact lex_Quote.mono _ _)
      | (with_reducible exact lex_Tokens.mono _ _)
      | (with_reducible exact parapetlaw19_awake.mono _)
      | (with_reducible exact LeO.refl _)
      | (with_reducible exact LeO.none _)
      | (with_reducible refine LeO.ite ?_ ?_)
      | (with_reducible refine LeO.bind ?_ (fun _ => ?_))
      | exact ih0 _ _ _ _
      | exact ih1 _ _ _ _ _ _ _
      | exact lex_Quote.mono _ _
      | exact lex_Tokens.mono _ _
      | exact parapetlaw19_awake.mono _
      | exact LeO.none _
      | refine LeO.ite ?_ ?_
      | refine LeO.bind ?_ (fun _ => ?_)
theorem parapetlaw19_LexPlaces.mono : ∀ a0 k, LeO (parapetlaw19_LexPlaces.f k a0) (parapetlaw19_LexPlaces.f (k + 1) a0) := by
  intro a0 k
  obtain ⟨ih0, ih1⟩ := parapetlaw19_LexPlaces.mono_l k
  unfold parapetlaw19_LexPlaces.f
  repeat' first
      | (with_reducible exact ih0 _ _ _ _)
      | (with_reducible exact ih1 _ _ _ _ _ _ _)
      | (with_reducible exact lex_Quote.mono _ _)
      | (with_reducible exact lex_Tokens.mono _ _)
      | (with_reducible exact parapetlaw19_awake.mono _)
      | (with_reducible exact LeO.refl _)
      | (with_reducible exact LeO.none _)
      | (with_reducible refine LeO.ite ?_ ?_)
      | (with_reducible refine LeO.bind ?_ (fun _ => ?_))
      | exact ih0 _ _ _ _
      | exact ih1 _ _ _ _ _ _ _
      | exact lex_Quote.mono _ _
      | exact lex_Tokens.mono _ _
      | exact parapetlaw19_awake.mono _
      | exact LeO.none _
      | refine LeO.ite ?_ ?_
      | refine LeO.bind ?_ (fun _ => ?_)
set_option maxHeartbeats 8000000 in
set_option maxRecDepth 100000 in
theorem parapetlaw19_LexPlaces.calls (k : Nat) (a0 : ByteArray) (r : Bool) (w : World) (hL : Laid w) (h : parapetlaw19_LexPlaces.f k a0 = some r) :
    Calls Tryd.prog 6 #[.string a0] w fun e w' => e = .returned (.bool r) ∧ Below w.heap.size w w' := by
  have hu26 := Tryd.underlying26
  have hu31 := Tryd.underlying31
  have HLD := Aside0.mk hL
  clear hL
  have HB := Aside0.mk (Below.refl w.heap.size w)
  have H : (if (a0.size : Int) > 4000 then ((parapetlaw19_awake.f k).bind fun t227 => (some t227)) else ((lex_Tokens.f k a0).bind fun bt228 => (if bt228.2.1 = 0 then (parapetlaw19_LexPlaces.l0 k a0 bt228.1 0 0) else (if bt228.2.2 ≥ 0 then (if bt228.2.2 ≤ (a0.size : Int) then ((parapetlaw19_awake.f k).bind fun t234 => (some t234)) else (some false)) else (some false))))) = some r := h
  clear h
  by_cases c2 : (a0.size : Int) > 4000
  · rw [if_pos c2] at H
    have c2b0 : decide (4000 < (a0.size : Int)) = true := decide_eq_true c2
    have c2b1 : decide (4000 < a0.size) = true := decide_eq_true (by omega)
    clear c2
    replace H := Option.bind_eq_some_iff.mp H
    obtain ⟨t227, A30, H⟩ := H
    replace H : (some t227) = some r := H
    have A3 := Aside0.mk A30
    clear A30
    obtain rfl := Option.some.inj H
    go_enter Tryd.func6, Tryd.ntmps6
    go_wp2_with (first | ((with_reducible refine gate_callee (f := 8) rfl ?_); refine goesL_ (some 12) rfl rfl Tryd.func8 (by kernel_rfl) rfl #[] rfl (by (try simp only [List.map_toArray, List.map_cons, List.map_nil]); first | done | rfl | (simp only [List.length_drop, List.length_take]; rfl)) ?_; (with_reducible refine (parapetlaw19_awake.calls k  t227 _ ?side1 A3.out).mono ?_); (case side1 => (first | exact HLD.out | exact Laid.below HLD.out (by repeat (first | (with_reducible first | exact HB.out | apply below_alloc | apply pw_below_drewN | apply below_drew1) | exact HB.out)))); rintro e w4 ⟨rfl, hb⟩; refine ⟨_, rfl, ?_⟩; have n0_ := Aside0.mk (below_step (by repeat (first | (with_reducible first | exact HB.out | apply below_alloc | apply pw_below_drewN | apply below_drew1) | exact HB.out)) hb); clear HB; have HB := n0_; clear n0_; (try clear hb); (try clear hb2); (try clear hk); (try clear hi)))
    go_ret
    exact ⟨by first | rfl | (simp [errW_none, errW_some] <;> rfl) | (simp [*, errW_none, errW_some] <;> rfl), by repeat (first | (with_reducible first | exact HB.out | apply below_alloc | apply pw_below_drewN | apply below_drew1) | exact HB.out)⟩
  · rw [if_neg c2] at H
    have c2b0 : decide (4000 < (a0.size : Int)) = false := decide_eq_false c2
    have c2b1 : decide (4000 < a0.size) = false := decide_eq_false (by omega)
    clear c2
    replace H := Option.bind_eq_some_iff.mp H
    obtain ⟨⟨t228, t231, t232⟩, A50, H⟩ := H
    replace H : (if t231 = 0 then (parapetlaw19_LexPlaces.l0 k a0 t228 0 0) else (if t232 ≥ 0 then (if t232 ≤ (a0.size : Int) then ((parapetlaw19_awake.f k).bind fun t234 => (some t234)) else (some false)) else (some false))) = some r := H
    have A5 := Aside0.mk A50
    clear A50
    by_cases c6 : t231 = 0
    · rw [if_pos c6] at H
      have c6b0 : (t231 == 0) = true := beq_iff_eq.mpr c6
      have c6b1 : (t231 != 0) = false := bne_eq_false_iff_eq.mpr c6
      clear c6
      have H' := Aside0.mk H
      clear H
      go_enter Tryd.func6, Tryd.ntmps6
      go_wp2_with (first | ((with_reducible refine gate_callee (f := 9) rfl ?_); refine goesL_ (some 15) rfl rfl Tryd.func9 (by kernel_rfl) rfl #[.string a0] rfl (by (try simp only [List.map_toArray, List.map_cons, List.map_nil]); first | done | rfl | (simp only [List.length_drop, List.length_take]; rfl)) ?_; (with_reducible refine (lex_Tokens.calls k a0 t228 t231 t232 _ ?side1 A5.out).mono ?_); (case side1 => (first | exact HLD.out | exact Laid.below HLD.out (by repeat (first | (with_reducible first | exact HB.out | apply below_alloc | apply pw_below_drewN | apply below_drew1) | exact HB.out)))); rintro e w7 ⟨v229, rfl, ho0, hb⟩; refine ⟨_, rfl, ?_⟩; have n0_ := Aside0.mk (Kd.R_lower ho0 (below_size (by repeat (first | (with_reducible first | exact HB.out | apply below_alloc | apply pw_below_drewN | apply below_drew1) | exact HB.out)))); have n1_ := Aside0.mk (below_step (by repeat (first | (with_reducible first | exact HB.out | apply below_alloc | apply pw_below_drewN | apply below_drew1) | exact HB.out)) hb); clear HB; have HO230 := n0_; have HB := n1_; clear n0_ n1_; (try clear hb); (try clear hb2); (try clear hk); (try clear hi); (try clear ho0)) | ((with_reducible refine gate_dst (N := 4) rfl ?_); (try (refine gate_guard (by rfl) ?_; dsimp only)); refine box_event ?hg (N := 4) ?hd (cs := #[.int .i64 0, .int .i64 0]) (t := 26) ?hr ?_; (case hd => rfl); (case hg => rfl); (case hr => first | (go_simp; done) | (go_simp; rfl)); intro gb233 hg w8 hbox hb; have n0_ := Aside0.mk (Kd.R_below (by (with_reducible repeat (first | apply Kd.R_alloc | apply Kd.R_drewN | apply Kd.R_drew)); exact HO230.out) hb); have n1_ := Aside0.mk (below_step (by repeat (first | (with_reducible first | exact HB.out | apply below_alloc | apply pw_below_drewN | apply below_drew1) | exact HB.out)) hb); have n2_ := Aside0.mk (hbox); have n3_ := Aside0.mk ((by rw [hg]; exact (below_size (by repeat (first | (with_reducible first | exact HB.out | apply below_alloc | apply pw_below_drewN | apply below_drew1) | exact HB.out))) : w.heap.size ≤ gb233)); have n4_ := Aside0.mk ((by rw [hg]; exact (below_size (by repeat (first | (with_reducible first | exact HB.out | apply below_alloc | apply pw_below_drewN | apply below_drew1) | exact HB.out))) : w.heap.size ≤ gb233)); clear HO230; clear HB; have HO230 := n0_; have HB := n1_; have BK233 := n2_; have GW233 := n3_; have GE233 := n4_; clear n0_ n1_ n2_ n3_ n4_; clear hb hbox hg; have hcz9_0 : w8.cell? ⟨gb233, 0, none⟩ = some (.int .i64 0) := (blk_cell BK233.out 0).trans rfl; have hcz9_1 : w8.cell? ⟨gb233, 1, none⟩ = some (.int .i64 0) := (blk_cell BK233.out 1).trans rfl; have hfz9_0 := blk_frozen BK233.out 0; have hfz9_1 := blk_frozen BK233.out 1))
      go_loopg [5, 6] k (fun kq v5 v6 w' => ∃ (x5_1 : Int) (x6_1 : Int), v5 = .int .i64 x5_1 ∧ v6 = .int .i64 x6_1 ∧ Aside0 (parapetlaw19_LexPlaces.l0 kq a0 t228 x5_1 x6_1 = some r) ∧ Aside0 (kq ≤ k) ∧ Aside0 (Kd.R k31 31 w' w.heap.size (fun _ => True) v229 t228) ∧ Aside0 (w'.heap[gb233]? = some (.cells #[.int .i64 t231, .int .i64 t232] 26 (0, 0))) ∧ Aside0 (Below w.heap.size w w'))
      case atStart => exact ⟨(0), (0), (by first | rfl | (simp; done) | (simp [*]; done)), (by first | rfl | (simp; done) | (simp [*]; done)), H', ⟨Nat.le_refl _⟩, ⟨by (with_reducible repeat (first | apply Kd.R_alloc | apply Kd.R_drewN | apply Kd.R_drew)); exact Kd.R_mono (Kd.R_far (p := ⟨gb233, 1, none⟩) (Kd.R_far (p := ⟨gb233, 0, none⟩) (Kd.R_types HO230.out BK233.out (by decide)) (fun _ hk => hk.2) (.int .i64 t231)) (fun _ hk => hk.2) (.int .i64 t232)) (fun _ hk => trivial)⟩, ⟨by (with_reducible repeat (first | refine blk_drewN ?_ _ | refine blk_drew ?_ | refine blk_alloc ?_ _)); refine blk_put (cs := #[.int .i64 t231, .int .i64 0]) ?_ 1 _ rfl; (with_reducible repeat (first | refine blk_drewN ?_ _ | refine blk_drew ?_ | refine blk_alloc ?_ _)); refine blk_put (cs := #[.int .i64 0, .int .i64 0]) ?_ 0 _ rfl; (with_reducible repeat (first | refine blk_drewN ?_ _ | refine blk_drew ?_ | refine blk_alloc ?_ _)); exact BK233.out⟩, ⟨by repeat (first | (with_reducible first | exact HB.out | apply below_alloc | apply pw_below_drewN | apply below_drew1 | refine below_set ?_ GE233.out) | exact HB.out)⟩⟩
      case round =>
        clear H'
        try clear c2
        try clear c2b0
        try clear c2b1
        try clear p2
        try clear c6
        try clear c6b0
        try clear c6b1
        try clear c8
        try clear c9
        try clear hcz9_0
        try clear hcz9_1
        try clear hfz9_0
        try clear hfz9_1
        obtain ⟨x5_1, x6_1, rfl, rfl, HA, HK1, HO_3, BK233, HB⟩ := hrel
        cases gk with
        | zero => exact absurd HA.out (by simp [parapetlaw19_LexPlaces.l0])
        | succ k1 =>
          have H := HA.out
          clear HA
          simp only [parapetlaw19_LexPlaces.l0] at H
          by_cases c10 : x6_1 < (t228.length : Int)
          · rw [if_pos c10] at H
            have c10b0 : decide (x6_1 < (t228.length : Int)) = true := decide_eq_true c10
            clear c10
            by_cases c11 : 0 ≤ x6_1
            · rw [if_pos c11] at H
              have c11b0 : decide (0 ≤ x6_1) = true := decide_eq_true c11
              clear c11
              have HC12 := Aside0.mk H
              clear H
              obtain ⟨Ao13, co13, eo13⟩ := Kd.R_slice HO_3.out
              subst eo13
              have p236 : 0 ≤ (x6_1 : Int) := of_decide_eq_true (by first | (with_reducible assumption) | assumption)
              have q236 : x6_1 < (t228.length : Int) := of_decide_eq_true (by first | (with_reducible assumption) | assumption)
              obtain ⟨ad236, e236, hx236_0, hx236_1, hx236_2⟩ := at_T31 (Kd.R_reads' HO_3.out).2.2 x6_1 p236 q236
              cases e236
              replace p236 := eq_true p236
              replace q236 := eq_true q236
              go_upto_region 11 with (first | ((with_reducible refine gate_dst (N := 7) rfl ?_); (try (refine gate_guard (by rfl) ?_; dsimp only)); refine box_event ?hg (N := 7) ?hd (cs := #[.int .i64 0, .int .i64 0, .string (⟨#[]⟩ : ByteArray)]) (t := 31) ?hr ?_; (case hd => rfl); (case hg => rfl); (case hr => first | (go_simp; done) | (go_simp; rfl)); intro gb237 hg w14 hbox hb; have n0_ := Aside0.mk (Kd.R_below (Kd.R_elderB (by (with_reducible repeat (first | apply Kd.R_alloc | apply Kd.R_drewN | apply Kd.R_drew)); exact HO_3.out) gb237 (Nat.le_of_eq hg.symm)) hb); have n1_ := Aside0.mk (blk_below (g := gb233) (o := .cells #[.int .i64 t231, .int .i64 t232] 26 (0, 0)) (by (with_reducible repeat (first | refine blk_drewN ?_ _ | refine blk_drew ?_ | refine blk_alloc ?_ _)); exact BK233.out) hb); have n2_ := Aside0.mk (below_step (by repeat (first | (with_reducible first | exact HB.out | apply below_alloc | apply pw_below_drewN | apply below_drew1 | refine below_set ?_ GE233.out) | exact HB.out)) hb); have n3_ := Aside0.mk (hbox); have n4_ := Aside0.mk ((by rw [hg]; exact (below_size (by repeat (first | (with_reducible first | exact HB.out | apply below_alloc | apply pw_below_drewN | apply below_drew1 | refine below_set ?_ GE233.out) | exact HB.out))) : w.heap.size ≤ gb237)); have n5_ := Aside0.mk ((by rw [hg]; exact (below_size (by repeat (first | (with_reducible first | exact HB.out | apply below_alloc | apply pw_below_drewN | apply below_drew1 | refine below_set ?_ GE233.out) | exact HB.out))) : w.heap.size ≤ gb237)); have n6_ := Aside0.mk ((by rw [hg]; exact Nat.ne_of_lt (blk_lt (g := gb233) (o := .cells #[.int .i64 t231, .int .i64 t232] 26 (0, 0)) (by (with_reducible repeat (first | refine blk_drewN ?_ _ | refine blk_drew ?_ | refine blk_alloc ?_ _)); exact BK233.out)) : gb233 ≠ gb237)); have n7_ := Aside0.mk ((by rw [hg]; exact Nat.ne_of_gt (blk_lt (g := gb233) (o := .cells #[.int .i64 t231, .int .i64 t232] 26 (0, 0)) (by (with_reducible repeat (first | refine blk_drewN ?_ _ | refine blk_drew ?_ | refine blk_alloc ?_ _)); exact BK233.out)) : gb237 ≠ gb233)); clear HO_3; clear BK233; clear HB; have HO_3 := n0_; have BK233 := n1_; have HB := n2_; have BK237 := n3_; have GW237 := n4_; have GE237 := n5_; have NB233_237 := n6_; have NB237_233 := n7_; clear n0_ n1_ n2_ n3_ n4_ n5_ n6_ n7_; clear hb hbox hg; have hnb15 := NB237_233.out; have hnc15 := NB233_237.out; have hcz16_0 : w14.cell? ⟨gb237, 0, none⟩ = some (.int .i64 0) := (blk_cell BK237.out 0).trans rfl; have hcz16_1 : w14.cell? ⟨gb237, 1, none⟩ = some (.int .i64 0) := (blk_cell BK237.out 1).trans rfl; have hcz16_2 : w14.cell? ⟨gb237, 2, none⟩ = some (.string (⟨#[]⟩ : ByteArray)) := (blk_cell BK237.out 2).trans rfl; have hfz16_0 := blk_frozen BK237.out 0; have hfz16_1 := blk_frozen BK237.out 1; have hfz16_2 := blk_frozen BK237.out 2))
              (try simp only [Act.put, List.setIfInBounds_toArray, List.set_cons_zero, List.set_cons_succ])
              go_cut [54] (fun v54 wc => ∃ (kq : Nat) (x54_11 : Bool), v54 = .bool x54_11 ∧ Aside0 (parapetlaw19_LexPlaces.j1 kq a0 t228 x6_1 x54_11 ((rd_T31 t228 x6_1).f0) ((rd_T31 t228 x6_1).f1) ((rd_T31 t228 x6_1).f2) = some r) ∧ Aside0 (kq ≤ k1) ∧ Aside0 (Kd.R k31 31 wc w.heap.size (fun k_ => k_ ≠ gb237) (.slice (some ad236) t228.length co13) t228) ∧ Aside0 (wc.heap[gb233]? = some (.cells #[.int .i64 t231, .int .i64 t232] 26 (0, 0))) ∧ Aside0 (wc.heap[gb237]? = some (.cells #[.int .i64 ((rd_T31 t228 x6_1).f0), .int .i64 ((rd_T31 t228 x6_1).f1), .string ((rd_T31 t228 x6_1).f2)] 31 (0, 0))) ∧ Aside0 (Below w.heap.size w wc))
              case first =>
                have H := HC12.out
                clear HC12
                by_cases c17 : ((rd_T31 t228 x6_1).f1) < x5_1
                · rw [if_pos c17] at H
                  have c17b0 : decide (((rd_T31 t228 x6_1).f1) < x5_1) = true := decide_eq_true c17
                  clear c17
                  (first | rw [c17b0] | (simp only [i64_w, i32_w]; rw [c17b0]) | skip)
                  have H' := Aside0.mk H
                  clear H
                  have hnb18 := NB237_233.out
                  have hnc18 := NB233_237.out
                  have hcz19_0 : w14.cell? ⟨gb237, 0, none⟩ = some (.int .i64 0) := (blk_cell BK237.out 0).trans rfl
                  have hcz19_1 : w14.cell? ⟨gb237, 1, none⟩ = some (.int .i64 0) := (blk_cell BK237.out 1).trans rfl
                  have hcz19_2 : w14.cell? ⟨gb237, 2, none⟩ = some (.string (⟨#[]⟩ : ByteArray)) := (blk_cell BK237.out 2).trans rfl
                  have hfz19_0 := blk_frozen BK237.out 0
                  have hfz19_1 := blk_frozen BK237.out 1
                  have hfz19_2 := blk_frozen BK237.out 2
                  go_wp2
                  go_meet
                  case rel => exact ⟨_, (true), (by first | rfl | (simp; done) | (simp [*]; done)), H', ⟨by have := HK1.out; first | omega | exact Nat.le_refl _⟩, ⟨by (with_reducible repeat (first | apply Kd.R_alloc | apply Kd.R_drewN | apply Kd.R_drew)); exact Kd.R_mono (Kd.R_far (p := ⟨gb237, 2, none⟩) (Kd.R_far (p := ⟨gb237, 1, none⟩) (Kd.R_far (p := ⟨gb237, 0, none⟩) (Kd.R_mono HO_3.out (fun k_ hk => (⟨hk, hk.2⟩ : _ ∧ k_ ≠ gb237))) (fun _ hk => hk.2) (.int .i64 ((rd_T31 t228 x6_1).f0))) (fun _ hk => hk.2) (.int .i64 ((rd_T31 t228 x6_1).f1))) (fun _ hk => hk.2) (.string ((rd_T31 t228 x6_1).f2))) (fun _ hk => hk.1.2)⟩, ⟨by (with_reducible repeat (first | refine blk_drewN ?_ _ | refine blk_drew ?_ | refine blk_alloc ?_ _)); refine blk_far ?_ NB233_237.out _; (with_reducible repeat (first | refine blk_drewN ?_ _ | refine blk_drew ?_ | refine blk_alloc ?_ _)); refine blk_far ?_ NB233_237.out _; (with_reducible repeat (first | refine blk_drewN ?_ _ | refine blk_drew ?_ | refine blk_alloc ?_ _)); refine blk_far ?_ NB233_237.out _; (with_reducible repeat (first | refine blk_drewN ?_ _ | refine blk_drew ?_ | refine blk_alloc ?_ _)); exact BK233.out⟩, ⟨by (with_reducible repeat (first | refine blk_drewN ?_ _ | refine blk_drew ?_ | refine blk_alloc ?_ _)); refine blk_put (cs := #[.int .i64 ((rd_T31 t228 x6_1).f0), .int .i64 ((rd_T31 t228 x6_1).f1), .string (⟨#[]⟩ : ByteArray)]) ?_ 2 _ rfl; (with_reducible repeat (first | refine blk_drewN ?_ _ | refine blk_drew ?_ | refine blk_alloc ?_ _)); refine blk_put (cs := #[.int .i64 ((rd_T31 t228 x6_1).f0), .int .i64 0, .string (⟨#[]⟩ : ByteArray)]) ?_ 1 _ rfl; (with_reducible repeat (first | refine blk_drewN ?_ _ | refine blk_drew ?_ | refine blk_alloc ?_ _)); refine blk_put (cs := #[.int .i64 0, .int .i64 0, .string (⟨#[]⟩ : ByteArray)]) ?_ 0 _ rfl; (with_reducible repeat (first | refine blk_drewN ?_ _ | refine blk_drew ?_ | refine blk_alloc ?_ _)); exact BK237.out⟩, ⟨by repeat (first | (with_reducible first | exact HB.out | apply below_alloc | apply pw_below_drewN | apply below_drew1 | refine below_set ?_ GE233.out | refine below_set ?_ GE237.out) | exact HB.out)⟩⟩
                · rw [if_neg c17] at H
                  have c17b0 : decide (((rd_T31 t228 x6_1).f1) < x5_1) = false := decide_eq_false c17
                  clear c17
                  (first | rw [c17b0] | (simp only [i64_w, i32_w]; rw [c17b0]) | skip)
                  have H' := Aside0.mk H
                  clear H
                  have hnb20 := NB237_233.out
                  have hnc20 := NB233_237.out
                  have hcz21_0 : w14.cell? ⟨gb237, 0, none⟩ = some (.int .i64 0) := (blk_cell BK237.out 0).trans rfl
                  have hcz21_1 : w14.cell? ⟨gb237, 1, none⟩ = some (.int .i64 0) := (blk_cell BK237.out 1).trans rfl
                  have hcz21_2 : w14.cell? ⟨gb237, 2, none⟩ = some (.string (⟨#[]⟩ : ByteArray)) := (blk_cell BK237.out 2).trans rfl
                  have hfz21_0 := blk_frozen BK237.out 0
                  have hfz21_1 := blk_frozen BK237.out 1
                  have hfz21_2 := blk_frozen BK237.out 2
                  go_wp2
                  go_meet
                  case rel => exact ⟨_, (decide (((rd_T31 t228 x6_1).f1) ≥ (a0.size : Int))), (by first | rfl | (simp; done) | (simp [*]; done)), H', ⟨by have := HK1.out; first | omega | exact Nat.le_refl _⟩, ⟨by (with_reducible repeat (first | apply Kd.R_alloc | apply Kd.R_drewN | apply Kd.R_drew)); exact Kd.R_mono (Kd.R_far (p := ⟨gb237, 2, none⟩) (Kd.R_far (p := ⟨gb237, 1, none⟩) (Kd.R_far (p := ⟨gb237, 0, none⟩) (Kd.R_mono HO_3.out (fun k_ hk => (⟨hk, hk.2⟩ : _ ∧ k_ ≠ gb237))) (fun _ hk => hk.2) (.int .i64 ((rd_T31 t228 x6_1).f0))) (fun _ hk => hk.2) (.int .i64 ((rd_T31 t228 x6_1).f1))) (fun _ hk => hk.2) (.string ((rd_T31 t228 x6_1).f2))) (fun _ hk => hk.1.2)⟩, ⟨by (with_reducible repeat (first | refine blk_drewN ?_ _ | refine blk_drew ?_ | refine blk_alloc ?_ _)); refine blk_far ?_ NB233_237.out _; (with_reducible repeat (first | refine blk_drewN ?_ _ | refine blk_drew ?_ | refine blk_alloc ?_ _)); refine blk_far ?_ NB233_237.out _; (with_reducible repeat (first | refine blk_drewN ?_ _ | refine blk_drew ?_ | refine blk_alloc ?_ _)); refine blk_far ?_ NB233_237.out _; (with_reducible repeat (first | refine blk_drewN ?_ _ | refine blk_drew ?_ | refine blk_alloc ?_ _)); exact BK233.out⟩, ⟨by (with_reducible repeat (first | refine blk_drewN ?_ _ | refine blk_drew ?_ | refine blk_alloc ?_ _)); refine blk_put (cs := #[.int .i64 ((rd_T31 t228 x6_1).f0), .int .i64 ((rd_T31 t228 x6_1).f1), .string (⟨#[]⟩ : ByteArray)]) ?_ 2 _ rfl; (with_reducible repeat (first | refine blk_drewN ?_ _ | refine blk_drew ?_ | refine blk_alloc ?_ _)); refine blk_put (cs := #[.int .i64 ((rd_T31 t228 x6_1).f0), .int .i64 0, .string (⟨#[]⟩ : ByteArray)]) ?_ 1 _ rfl; (with_reducible repeat (first | refine blk_drewN ?_ _ | refine blk_drew ?_ | refine blk_alloc ?_ _)); refine blk_put (cs := #[.int .i64 0, .int .i64 0, .string (⟨#[]⟩ : ByteArray)]) ?_ 0 _ rfl; (with_reducible repeat (first | refine blk_drewN ?_ _ | refine blk_drew ?_ | refine blk_alloc ?_ _)); exact BK237.out⟩, ⟨by repeat (first | (with_reducible first | exact HB.out | apply below_alloc | apply pw_below_drewN | apply below_drew1 | refine below_set ?_ GE233.out | refine below_set ?_ GE237.out) | exact HB.out)⟩⟩
              case rest =>
                clear HC12
                try clear c1
                try clear c2
                try clear c2b0
                try clear c2b1
                try clear p2
                try clear q2
                try clear hx2
                try clear c6
                try clear c6b0
                try clear c6b1
                try clear c8
                try clear c9
                try clear c10
                try clear c10b0
                try clear c11
                try clear c11b0
                try clear c15
                try clear c17
                try clear c17b0
                try clear c18
                try clear c20
                try clear hcz16_0
                try clear hcz16_1
                try clear hcz16_2
                try clear hcz19_0
                try clear hcz19_1
                try clear hcz19_2
                try clear hcz21_0
                try clear hcz21_1
                try clear hcz21_2
                try clear hcz9_0
                try clear hcz9_1
                try clear hfz16_0
                try clear hfz16_1
                try clear hfz16_2
                try clear hfz19_0
                try clear hfz19_1
                try clear hfz19_2
                try clear hfz21_0
                try clear hfz21_1
                try clear hfz21_2
                try clear hfz9_0
                try clear hfz9_1
                try clear hx236_0
                try clear hx236_1
                try clear hx236_2
                try clear p2
                try clear p236
                try clear q236
                obtain ⟨kq, x54_11, rfl, HA, HJ11, HO_3, BK233, BK237, HB⟩ := hcut
                cases kq with
                | zero => exact absurd HA.out (by simp [parapetlaw19_LexPlaces.j1])
                | succ kj11 =>
                  have H := HA.out
                  clear HA
                  simp only [parapetlaw19_LexPlaces.j1] at H
                  by_cases c22 : x54_11 = true
                  · subst c22
                    have H1 : (some false) = some r := by rw [if_pos rfl] at H; exact H
                    clear H
                    have H := H1
                    clear H1
                    obtain rfl := Option.some.inj H
                    go_wp2
                    go_ret
                    exact ⟨by first | rfl | (simp [errW_none, errW_some] <;> rfl) | (simp [*, errW_none, errW_some] <;> rfl), by repeat (first | (with_reducible first | exact HB.out | apply below_alloc | apply pw_below_drewN | apply below_drew1 | refine below_set ?_ GE233.out | refine below_set ?_ GE237.out) | exact HB.out)⟩
                  · replace c22 := Bool.eq_false_iff.mpr c22
                    subst c22
                    have H1 : (if ((rd_T31 t228 x6_1).f0) = 2 then ((lex_Quote.f kj11 ((rd_T31 t228 x6_1).f2)).bind fun t238 => (if (wrap64 ((a0.size : Int) - ((rd_T31 t228 x6_1).f1))) < (t238.size : Int) then (some false) else (if 0 ≤ ((rd_T31 t228 x6_1).f1) then (if ((rd_T31 t228 x6_1).f1) ≤ (wrap64 (((rd_T31 t228 x6_1).f1) + (t238.size : Int))) then (if (wrap64 (((rd_T31 t228 x6_1).f1) + (t238.size : Int))) ≤ (a0.size : Int) then (if (a0.extract (((rd_T31 t228 x6_1).f1) : Int).toNat ((wrap64 (((rd_T31 t228 x6_1).f1) + (t238.size : Int))) : Int).toNat).toList = t238.toList then (parapetlaw19_LexPlaces.l0 kj11 a0 t228 (wrap64 (((rd_T31 t228 x6_1).f1) + (t238.size : Int))) (wrap64 (x6_1 + 1))) else (some false)) else (none)) else (none)) else (none)))) else (if (wrap64 ((a0.size : Int) - ((rd_T31 t228 x6_1).f1))) < (((rd_T31 t228 x6_1).f2).size : Int) then (some false) else (if 0 ≤ ((rd_T31 t228 x6_1).f1) then (if ((rd_T31 t228 x6_1).f1) ≤ (wrap64 (((rd_T31 t228 x6_1).f1) + (((rd_T31 t228 x6_1).f2).size : Int))) then (if (wrap64 (((rd_T31 t228 x6_1).f1) + (((rd_T31 t228 x6_1).f2).size : Int))) ≤ (a0.size : Int) then (if (a0.extract (((rd_T31 t228 x6_1).f1) : Int).toNat ((wrap64 (((rd_T31 t228 x6_1).f1) + (((rd_T31 t228 x6_1).f2).size : Int))) : Int).toNat).toList = ((rd_T31 t228 x6_1).f2).toList then (parapetlaw19_LexPlaces.l0 kj11 a0 t228 (wrap64 (((rd_T31 t228 x6_1).f1) + (((rd_T31 t228 x6_1).f2).size : Int))) (wrap64 (x6_1 + 1))) else (some false)) else (none)) else (none)) else (none)))) = some r := by rw [if_neg (show ¬ (false = true) by decide)] at H; exact H
                    clear H
                    have H := H1
                    clear H1
                    by_cases c23 : ((rd_T31 t228 x6_1).f0) = 2
                    · rw [if_pos c23] at H
                      have c23b0 : (((rd_T31 t228 x6_1).f0) == 2) = true := beq_iff_eq.mpr c23
                      have c23b1 : (((rd_T31 t228 x6_1).f0) != 2) = false := bne_eq_false_iff_eq.mpr c23
                      clear c23
                      replace H := Option.bind_eq_some_iff.mp H
                      obtain ⟨t238, A240, H⟩ := H
                      replace H : (if (wrap64 ((a0.size : Int) - ((rd_T31 t228 x6_1).f1))) < (t238.size : Int) then (some false) else (if 0 ≤ ((rd_T31 t228 x6_1).f1) then (if ((rd_T31 t228 x6_1).f1) ≤ (wrap64 (((rd_T31 t228 x6_1).f1) + (t238.size : Int))) then (if (wrap64 (((rd_T31 t228 x6_1).f1) + (t238.size : Int))) ≤ (a0.size : Int) then (if (a0.extract (((rd_T31 t228 x6_1).f1) : Int).toNat ((wrap64 (((rd_T31 t228 x6_1).f1) + (t238.size : Int))) : Int).toNat).toList = t238.toList then (parapetlaw19_LexPlaces.l0 kj11 a0 t228 (wrap64 (((rd_T31 t228 x6_1).f1) + (t238.size : Int))) (wrap64 (x6_1 + 1))) else (some false)) else (none)) else (none)) else (none))) = some r := H
                      have A24 := Aside0.mk A240
                      clear A240
                      by_cases c25 : (wrap64 ((a0.size : Int) - ((rd_T31 t228 x6_1).f1))) < (t238.size : Int)
                      · rw [if_pos c25] at H
                        have c25b0 : decide ((wrap64 ((a0.size : Int) - ((rd_T31 t228 x6_1).f1))) < (t238.size : Int)) = true := decide_eq_true c25
                        clear c25
                        obtain rfl := Option.some.inj H
                        have hnb26 := NB237_233.out
                        have hnc26 := NB233_237.out
                        have hcz27_0 : wc.cell? ⟨gb237, 0, none⟩ = some (.int .i64 ((rd_T31 t228 x6_1).f0)) := (blk_cell BK237.out 0).trans rfl
                        have hcz27_1 : wc.cell? ⟨gb237, 1, none⟩ = some (.int .i64 ((rd_T31 t228 x6_1).f1)) := (blk_cell BK237.out 1).trans rfl
                        have hcz27_2 : wc.cell? ⟨gb237, 2, none⟩ = some (.string ((rd_T31 t228 x6_1).f2)) := (blk_cell BK237.out 2).trans rfl
                        have hfz27_0 := blk_frozen BK237.out 0
                        have hfz27_1 := blk_frozen BK237.out 1
                        have hfz27_2 := blk_frozen BK237.out 2
                        go_wp2_with (first | ((with_reducible refine gate_callee (f := 11) rfl ?_); refine goesL_ (some 62) rfl rfl Tryd.func11 (by kernel_rfl) rfl #[.string ((rd_T31 t228 x6_1).f2)] rfl (by (try simp only [List.map_toArray, List.map_cons, List.map_nil]); first | done | rfl | (simp only [List.length_drop, List.length_take]; rfl)) ?_; (with_reducible refine (lex_Quote.calls kj11 ((rd_T31 t228 x6_1).f2) t238 _ A24.out).mono ?_); rintro e w28 ⟨rfl, hb⟩; refine ⟨_, rfl, ?_⟩; have n0_ := Aside0.mk (Kd.R_below (by (with_reducible repeat (first | apply Kd.R_alloc | apply Kd.R_drewN | apply Kd.R_drew)); exact HO_3.out) hb); have n1_ := Aside0.mk (blk_below (g := gb233) (o := .cells #[.int .i64 t231, .int .i64 t232] 26 (0, 0)) (by (with_reducible repeat (first | refine blk_drewN ?_ _ | refine blk_drew ?_ | refine blk_alloc ?_ _)); exact BK233.out) hb); have n2_ := Aside0.mk (blk_below (g := gb237) (o := .cells #[.int .i64 ((rd_T31 t228 x6_1).f0), .int .i64 ((rd_T31 t228 x6_1).f1), .string ((rd_T31 t228 x6_1).f2)] 31 (0, 0)) (by (with_reducible repeat (first | refine blk_drewN ?_ _ | refine blk_drew ?_ | refine blk_alloc ?_ _)); exact BK237.out) hb); have n3_ := Aside0.mk (below_step (by repeat (first | (with_reducible first | exact HB.out | apply below_alloc | apply pw_below_drewN | apply below_drew1 | refine below_set ?_ GE233.out | refine below_set ?_ GE237.out) | exact HB.out)) hb); clear HO_3; clear BK233; clear BK237; clear HB; have HO_3 := n0_; have BK233 := n1_; have BK237 := n2_; have HB := n3_; clear n0_ n1_ n2_ n3_; (try clear hb); (try clear hb2); (try clear hk); (try clear hi); have hcz29_0 : w28.cell? ⟨gb237, 0, none⟩ = some (.int .i64 ((rd_T31 t228 x6_1).f0)) := (blk_cell BK237.out 0).trans rfl; have hcz29_1 : w28.cell? ⟨gb237, 1, none⟩ = some (.int .i64 ((rd_T31 t228 x6_1).f1)) := (blk_cell BK237.out 1).trans rfl; have hcz29_2 : w28.cell? ⟨gb237, 2, none⟩ = some (.string ((rd_T31 t228 x6_1).f2)) := (blk_cell BK237.out 2).trans rfl; have hfz29_0 := blk_frozen BK237.out 0; have hfz29_1 := blk_frozen BK237.out 1; have hfz29_2 := blk_frozen BK237.out 2))
                        go_ret
                        exact ⟨by first | rfl | (simp [errW_none, errW_some] <;> rfl) | (simp [*, errW_none, errW_some] <;> rfl), by repeat (first | (with_reducible first | exact HB.out | apply below_alloc | apply pw_below_drewN | apply below_drew1 | refine below_set ?_ GE233.out | refine below_set ?_ GE237.out) | exact HB.out)⟩
                      · rw [if_neg c25] at H
                        have c25b0 : decide ((wrap64 ((a0.size : Int) - ((rd_T31 t228 x6_1).f1))) < (t238.size : Int)) = false := decide_eq_false c25
                        clear c25
                        by_cases c30 : 0 ≤ ((rd_T31 t228 x6_1).f1)
                        · rw [if_pos c30] at H
                          have c30b0 := eq_true c30
                          have c30b1 : decide (0 ≤ ((rd_T31 t228 x6_1).f1)) = true := decide_eq_true c30
                          clear c30
                          by_cases c31 : ((rd_T31 t228 x6_1).f1) ≤ (wrap64 (((rd_T31 t228 x6_1).f1) + (t238.size : Int)))
                          · rw [if_pos c31] at H
                            have c31b0 := eq_true c31
                            have c31b1 : decide (((rd_T31 t228 x6_1).f1) ≤ (wrap64 (((rd_T31 t228 x6_1).f1) + (t238.size : Int)))) = true := decide_eq_true c31
                            by_cases c32 : (wrap64 (((rd_T31 t228 x6_1).f1) + (t238.size : Int))) ≤ (a0.size : Int)
                            · rw [if_pos c32] at H
                              have c32b0 := eq_true c32
                              have c32b1 : decide ((wrap64 (((rd_T31 t228 x6_1).f1) + (t238.size : Int))) ≤ (a0.size : Int)) = true := decide_eq_true c32
                              by_cases c33 : (a0.extract (((rd_T31 t228 x6_1).f1) : Int).toNat ((wrap64 (((rd_T31 t228 x6_1).f1) + (t238.size : Int))) : Int).toNat).toList = t238.toList
                              · rw [if_pos c33] at H
                                have c33b0 : ((a0.extract (((rd_T31 t228 x6_1).f1) : Int).toNat ((wrap64 (((rd_T31 t228 x6_1).f1) + (t238.size : Int))) : Int).toNat).toList == t238.toList) = true := beq_iff_eq.mpr c33
                                have c33b1 : ((a0.extract (((rd_T31 t228 x6_1).f1) : Int).toNat ((wrap64 (((rd_T31 t228 x6_1).f1) + (t238.size : Int))) : Int).toNat).toList != t238.toList) = false := bne_eq_false_iff_eq.mpr c33
                                clear c33
                                have H' := Aside0.mk H
                                clear H
                                have hnb34 := NB237_233.out
                                have hnc34 := NB233_237.out
                                have hcz35_0 : wc.cell? ⟨gb237, 0, none⟩ = some (.int .i64 ((rd_T31 t228 x6_1).f0)) := (blk_cell BK237.out 0).trans rfl
                                have hcz35_1 : wc.cell? ⟨gb237, 1, none⟩ = some (.int .i64 ((rd_T31 t228 x6_1).f1)) := (blk_cell BK237.out 1).trans rfl
                                have hcz35_2 : wc.cell? ⟨gb237, 2, none⟩ = some (.string ((rd_T31 t228 x6_1).f2)) := (blk_cell BK237.out 2).trans rfl
                                have hfz35_0 := blk_frozen BK237.out 0
                                have hfz35_1 := blk_frozen BK237.out 1
                                have hfz35_2 := blk_frozen BK237.out 2
                                go_wp2_with (first | ((with_reducible refine gate_callee (f := 11) rfl ?_); refine goesL_ (some 62) rfl rfl Tryd.func11 (by kernel_rfl) rfl #[.string ((rd_T31 t228 x6_1).f2)] rfl (by (try simp only [List.map_toArray, List.map_cons, List.map_nil]); first | done | rfl | (simp only [List.length_drop, List.length_take]; rfl)) ?_; (with_reducible refine (lex_Quote.calls kj11 ((rd_T31 t228 x6_1).f2) t238 _ A24.out).mono ?_); rintro e w36 ⟨rfl, hb⟩; refine ⟨_, rfl, ?_⟩; have n0_ := Aside0.mk (Kd.R_below (by (with_reducible repeat (first | apply Kd.R_alloc | apply Kd.R_drewN | apply Kd.R_drew)); exact HO_3.out) hb); have n1_ := Aside0.mk (blk_below (g := gb233) (o := .cells #[.int .i64 t231, .int .i64 t232] 26 (0, 0)) (by (with_reducible repeat (first | refine blk_drewN ?_ _ | refine blk_drew ?_ | refine blk_alloc ?_ _)); exact BK233.out) hb); have n2_ := Aside0.mk (blk_below (g := gb237) (o := .cells #[.int .i64 ((rd_T31 t228 x6_1).f0), .int .i64 ((rd_T31 t228 x6_1).f1), .string ((rd_T31 t228 x6_1).f2)] 31 (0, 0)) (by (with_reducible repeat (first | refine blk_drewN ?_ _ | refine blk_drew ?_ | refine blk_alloc ?_ _)); exact BK237.out) hb); have n3_ := Aside0.mk (below_step (by repeat (first | (with_reducible first | exact HB.out | apply below_alloc | apply pw_below_drewN | apply below_drew1 | refine below_set ?_ GE233.out | refine below_set ?_ GE237.out) | exact HB.out)) hb); clear HO_3; clear BK233; clear BK237; clear HB; have HO_3 := n0_; have BK233 := n1_; have BK237 := n2_; have HB := n3_; clear n0_ n1_ n2_ n3_; (try clear hb); (try clear hb2); (try clear hk); (try clear hi); have hcz37_0 : w36.cell? ⟨gb237, 0, none⟩ = some (.int .i64 ((rd_T31 t228 x6_1).f0)) := (blk_cell BK237.out 0).trans rfl; have hcz37_1 : w36.cell? ⟨gb237, 1, none⟩ = some (.int .i64 ((rd_T31 t228 x6_1).f1)) := (blk_cell BK237.out 1).trans rfl; have hcz37_2 : w36.cell? ⟨gb237, 2, none⟩ = some (.string ((rd_T31 t228 x6_1).f2)) := (blk_cell BK237.out 2).trans rfl; have hfz37_0 := blk_frozen BK237.out 0; have hfz37_1 := blk_frozen BK237.out 1; have hfz37_2 := blk_frozen BK237.out 2))
                                go_roundg kj11
                                case measure => have := HK1.out; have := HJ11.out; omega
                                case rel => exact ⟨(wrap64 (((rd_T31 t228 x6_1).f1) + (t238.size : Int))), (wrap64 (x6_1 + 1)), (by first | rfl | (simp; done) | (simp [*]; done)), (by first | rfl | (simp; done) | (simp [*]; done)), H', ⟨by have := HK1.out; have := HJ11.out; omega⟩, ⟨by (with_reducible repeat (first | apply Kd.R_alloc | apply Kd.R_drewN | apply Kd.R_drew)); exact Kd.R_mono HO_3.out (fun _ hk => trivial)⟩, ⟨by (with_reducible repeat (first | refine blk_drewN ?_ _ | refine blk_drew ?_ | refine blk_alloc ?_ _)); exact BK233.out⟩, ⟨by repeat (first | (with_reducible first | exact HB.out | apply below_alloc | apply pw_below_drewN | apply below_drew1 | refine below_set ?_ GE233.out | refine below_set ?_ GE237.out) | exact HB.out)⟩⟩
                              · rw [if_neg c33] at H
                                have c33b0 : ((a0.extract (((rd_T31 t228 x6_1).f1) : Int).toNat ((wrap64 (((rd_T31 t228 x6_1).f1) + (t238.size : Int))) : Int).toNat).toList == t238.toList) = false := beq_eq_false_iff_ne.mpr c33
                                have c33b1 : ((a0.extract (((rd_T31 t228 x6_1).f1) : Int).toNat ((wrap64 (((rd_T31 t228 x6_1).f1) + (t238.size : Int))) : Int).toNat).toList != t238.toList) = true := bne_iff_ne.mpr c33
                                obtain rfl := Option.some.inj H
                                have hnb38 := NB237_233.out
                                have hnc38 := NB233_237.out
                                have hcz39_0 : wc.cell? ⟨gb237, 0, none⟩ = some (.int .i64 ((rd_T31 t228 x6_1).f0)) := (blk_cell BK237.out 0).trans rfl
                                have hcz39_1 : wc.cell? ⟨gb237, 1, none⟩ = some (.int .i64 ((rd_T31 t228 x6_1).f1)) := (blk_cell BK237.out 1).trans rfl
                                have hcz39_2 : wc.cell? ⟨gb237, 2, none⟩ = some (.string ((rd_T31 t228 x6_1).f2)) := (blk_cell BK237.out 2).trans rfl
                                have hfz39_0 := blk_frozen BK237.out 0
                                have hfz39_1 := blk_frozen BK237.out 1
                                have hfz39_2 := blk_frozen BK237.out 2
                                go_wp2_with (first | ((with_reducible refine gate_callee (f := 11) rfl ?_); refine goesL_ (some 62) rfl rfl Tryd.func11 (by kernel_rfl) rfl #[.string ((rd_T31 t228 x6_1).f2)] rfl (by (try simp only [List.map_toArray, List.map_cons, List.map_nil]); first | done | rfl | (simp only [List.length_drop, List.length_take]; rfl)) ?_; (with_reducible refine (lex_Quote.calls kj11 ((rd_T31 t228 x6_1).f2) t238 _ A24.out).mono ?_); rintro e w40 ⟨rfl, hb⟩; refine ⟨_, rfl, ?_⟩; have n0_ := Aside0.mk (Kd.R_below (by (with_reducible repeat (first | apply Kd.R_alloc | apply Kd.R_drewN | apply Kd.R_drew)); exact HO_3.out) hb); have n1_ := Aside0.mk (blk_below (g := gb233) (o := .cells #[.int .i64 t231, .int .i64 t232] 26 (0, 0)) (by (with_reducible repeat (first | refine blk_drewN ?_ _ | refine blk_drew ?_ | refine blk_alloc ?_ _)); exact BK233.out) hb); have n2_ := Aside0.mk (blk_below (g := gb237) (o := .cells #[.int .i64 ((rd_T31 t228 x6_1).f0), .int .i64 ((rd_T31 t228 x6_1).f1), .string ((rd_T31 t228 x6_1).f2)] 31 (0, 0)) (by (with_reducible repeat (first | refine blk_drewN ?_ _ | refine blk_drew ?_ | refine blk_alloc ?_ _)); exact BK237.out) hb); have n3_ := Aside0.mk (below_step (by repeat (first | (with_reducible first | exact HB.out | apply below_alloc | apply pw_below_drewN | apply below_drew1 | refine below_set ?_ GE233.out | refine below_set ?_ GE237.out) | exact HB.out)) hb); clear HO_3; clear BK233; clear BK237; clear HB; have HO_3 := n0_; have BK233 := n1_; have BK237 := n2_; have HB := n3_; clear n0_ n1_ n2_ n3_; (try clear hb); (try clear hb2); (try clear hk); (try clear hi); have hcz41_0 : w40.cell? ⟨gb237, 0, none⟩ = some (.int .i64 ((rd_T31 t228 x6_1).f0)) := (blk_cell BK237.out 0).trans rfl; have hcz41_1 : w40.cell? ⟨gb237, 1, none⟩ = some (.int .i64 ((rd_T31 t228 x6_1).f1)) := (blk_cell BK237.out 1).trans rfl; have hcz41_2 : w40.cell? ⟨gb237, 2, none⟩ = some (.string ((rd_T31 t228 x6_1).f2)) := (blk_cell BK237.out 2).trans rfl; have hfz41_0 := blk_frozen BK237.out 0; have hfz41_1 := blk_frozen BK237.out 1; have hfz41_2 := blk_frozen BK237.out 2))
                                go_ret
                                exact ⟨by first | rfl | (simp [errW_none, errW_some] <;> rfl) | (simp [*, errW_none, errW_some] <;> rfl), by repeat (first | (with_reducible first | exact HB.out | apply below_alloc | apply pw_below_drewN | apply below_drew1 | refine below_set ?_ GE233.out | refine below_set ?_ GE237.out) | exact HB.out)⟩
                            · rw [if_neg c32] at H
                              exact absurd H (by simp)
                          · rw [if_neg c31] at H
                            exact absurd H (by simp)
                        · rw [if_neg c30] at H
                          exact absurd H (by simp)
                    · rw [if_neg c23] at H
                      have c23b0 : (((rd_T31 t228 x6_1).f0) == 2) = false := beq_eq_false_iff_ne.mpr c23
                      have c23b1 : (((rd_T31 t228 x6_1).f0) != 2) = true := bne_iff_ne.mpr c23
                      by_cases c42 : (wrap64 ((a0.size : Int) - ((rd_T31 t228 x6_1).f1))) < (((rd_T31 t228 x6_1).f2).size : Int)
                      · rw [if_pos c42] at H
                        have c42b0 : decide ((wrap64 ((a0.size : Int) - ((rd_T31 t228 x6_1).f1))) < (((rd_T31 t228 x6_1).f2).size : Int)) = true := decide_eq_true c42
                        clear c42
                        obtain rfl := Option.some.inj H
                        have hnb43 := NB237_233.out
                        have hnc43 := NB233_237.out
                        have hcz44_0 : wc.cell? ⟨gb237, 0, none⟩ = some (.int .i64 ((rd_T31 t228 x6_1).f0)) := (blk_cell BK237.out 0).trans rfl
                        have hcz44_1 : wc.cell? ⟨gb237, 1, none⟩ = some (.int .i64 ((rd_T31 t228 x6_1).f1)) := (blk_cell BK237.out 1).trans rfl
                        have hcz44_2 : wc.cell? ⟨gb237, 2, none⟩ = some (.string ((rd_T31 t228 x6_1).f2)) := (blk_cell BK237.out 2).trans rfl
                        have hfz44_0 := blk_frozen BK237.out 0
                        have hfz44_1 := blk_frozen BK237.out 1
                        have hfz44_2 := blk_frozen BK237.out 2
                        go_wp2
                        go_ret
                        exact ⟨by first | rfl | (simp [errW_none, errW_some] <;> rfl) | (simp [*, errW_none, errW_some] <;> rfl), by repeat (first | (with_reducible first | exact HB.out | apply below_alloc | apply pw_below_drewN | apply below_drew1 | refine below_set ?_ GE233.out | refine below_set ?_ GE237.out) | exact HB.out)⟩
                      · rw [if_neg c42] at H
                        have c42b0 : decide ((wrap64 ((a0.size : Int) - ((rd_T31 t228 x6_1).f1))) < (((rd_T31 t228 x6_1).f2).size : Int)) = false := decide_eq_false c42
                        clear c42
                        by_cases c45 : 0 ≤ ((rd_T31 t228 x6_1).f1)
                        · rw [if_pos c45] at H
                          have c45b0 := eq_true c45
                          have c45b1 : decide (0 ≤ ((rd_T31 t228 x6_1).f1)) = true := decide_eq_true c45
                          clear c45
                          by_cases c46 : ((rd_T31 t228 x6_1).f1) ≤ (wrap64 (((rd_T31 t228 x6_1).f1) + (((rd_T31 t228 x6_1).f2).size : Int)))
                          · rw [if_pos c46] at H
                            have c46b0 := eq_true c46
                            have c46b1 : decide (((rd_T31 t228 x6_1).f1) ≤ (wrap64 (((rd_T31 t228 x6_1).f1) + (((rd_T31 t228 x6_1).f2).size : Int)))) = true := decide_eq_true c46
                            by_cases c47 : (wrap64 (((rd_T31 t228 x6_1).f1) + (((rd_T31 t228 x6_1).f2).size : Int))) ≤ (a0.size : Int)
                            · rw [if_pos c47] at H
                              have c47b0 := eq_true c47
                              have c47b1 : decide ((wrap64 (((rd_T31 t228 x6_1).f1) + (((rd_T31 t228 x6_1).f2).size : Int))) ≤ (a0.size : Int)) = true := decide_eq_true c47
                              by_cases c48 : (a0.extract (((rd_T31 t228 x6_1).f1) : Int).toNat ((wrap64 (((rd_T31 t228 x6_1).f1) + (((rd_T31 t228 x6_1).f2).size : Int))) : Int).toNat).toList = ((rd_T31 t228 x6_1).f2).toList
                              · rw [if_pos c48] at H
                                have c48b0 : ((a0.extract (((rd_T31 t228 x6_1).f1) : Int).toNat ((wrap64 (((rd_T31 t228 x6_1).f1) + (((rd_T31 t228 x6_1).f2).size : Int))) : Int).toNat).toList == ((rd_T31 t228 x6_1).f2).toList) = true := beq_iff_eq.mpr c48
                                have c48b1 : ((a0.extract (((rd_T31 t228 x6_1).f1) : Int).toNat ((wrap64 (((rd_T31 t228 x6_1).f1) + (((rd_T31 t228 x6_1).f2).size : Int))) : Int).toNat).toList != ((rd_T31 t228 x6_1).f2).toList) = false := bne_eq_false_iff_eq.mpr c48
                                clear c48
                                have H' := Aside0.mk H
                                clear H
                                have hnb49 := NB237_233.out
                                have hnc49 := NB233_237.out
                                have hcz50_0 : wc.cell? ⟨gb237, 0, none⟩ = some (.int .i64 ((rd_T31 t228 x6_1).f0)) := (blk_cell BK237.out 0).trans rfl
                                have hcz50_1 : wc.cell? ⟨gb237, 1, none⟩ = some (.int .i64 ((rd_T31 t228 x6_1).f1)) := (blk_cell BK237.out 1).trans rfl
                                have hcz50_2 : wc.cell? ⟨gb237, 2, none⟩ = some (.string ((rd_T31 t228 x6_1).f2)) := (blk_cell BK237.out 2).trans rfl
                                have hfz50_0 := blk_frozen BK237.out 0
                                have hfz50_1 := blk_frozen BK237.out 1
                                have hfz50_2 := blk_frozen BK237.out 2
                                go_wp2
                                go_roundg kj11
                                case measure => have := HK1.out; have := HJ11.out; omega
                                case rel => exact ⟨(wrap64 (((rd_T31 t228 x6_1).f1) + (((rd_T31 t228 x6_1).f2).size : Int))), (wrap64 (x6_1 + 1)), (by first | rfl | (simp; done) | (simp [*]; done)), (by first | rfl | (simp; done) | (simp [*]; done)), H', ⟨by have := HK1.out; have := HJ11.out; omega⟩, ⟨by (with_reducible repeat (first | apply Kd.R_alloc | apply Kd.R_drewN | apply Kd.R_drew)); exact Kd.R_mono HO_3.out (fun _ hk => trivial)⟩, ⟨by (with_reducible repeat (first | refine blk_drewN ?_ _ | refine blk_drew ?_ | refine blk_alloc ?_ _)); exact BK233.out⟩, ⟨by repeat (first | (with_reducible first | exact HB.out | apply below_alloc | apply pw_below_drewN | apply below_drew1 | refine below_set ?_ GE233.out | refine below_set ?_ GE237.out) | exact HB.out)⟩⟩
                              · rw [if_neg c48] at H
                                have c48b0 : ((a0.extract (((rd_T31 t228 x6_1).f1) : Int).toNat ((wrap64 (((rd_T31 t228 x6_1).f1) + (((rd_T31 t228 x6_1).f2).size : Int))) : Int).toNat).toList == ((rd_T31 t228 x6_1).f2).toList) = false := beq_eq_false_iff_ne.mpr c48
                                have c48b1 : ((a0.extract (((rd_T31 t228 x6_1).f1) : Int).toNat ((wrap64 (((rd_T31 t228 x6_1).f1) + (((rd_T31 t228 x6_1).f2).size : Int))) : Int).toNat).toList != ((rd_T31 t228 x6_1).f2).toList) = true := bne_iff_ne.mpr c48
                                obtain rfl := Option.some.inj H
                                have hnb51 := NB237_233.out
                                have hnc51 := NB233_237.out
                                have hcz52_0 : wc.cell? ⟨gb237, 0, none⟩ = some (.int .i64 ((rd_T31 t228 x6_1).f0)) := (blk_cell BK237.out 0).trans rfl
                                have hcz52_1 : wc.cell? ⟨gb237, 1, none⟩ = some (.int .i64 ((rd_T31 t228 x6_1).f1)) := (blk_cell BK237.out 1).trans rfl
                                have hcz52_2 : wc.cell? ⟨gb237, 2, none⟩ = some (.string ((rd_T31 t228 x6_1).f2)) := (blk_cell BK237.out 2).trans rfl
                                have hfz52_0 := blk_frozen BK237.out 0
                                have hfz52_1 := blk_frozen BK237.out 1
                                have hfz52_2 := blk_frozen BK237.out 2
                                go_wp2
                                go_ret
                                exact ⟨by first | rfl | (simp [errW_none, errW_some] <;> rfl) | (simp [*, errW_none, errW_some] <;> rfl), by repeat (first | (with_reducible first | exact HB.out | apply below_alloc | apply pw_below_drewN | apply below_drew1 | refine below_set ?_ GE233.out | refine below_set ?_ GE237.out) | exact HB.out)⟩
                            · rw [if_neg c47] at H
                              exact absurd H (by simp)
                          · rw [if_neg c46] at H
                            exact absurd H (by simp)
                        · rw [if_neg c45] at H
                          exact absurd H (by simp)
            · rw [if_neg c11] at H
              exact absurd H (by simp)
          · rw [if_neg c10] at H
            have c10b0 : decide (x6_1 < (t228.length : Int)) = false := decide_eq_false c10
            clear c10
            replace H := Option.bind_eq_some_iff.mp H
            obtain ⟨t235, A530, H⟩ := H
            replace H : (some t235) = some r := H
            have A53 := Aside0.mk A530
            clear A530
            obtain rfl := Option.some.inj H
            obtain ⟨Ao54, co54, eo54⟩ := Kd.R_slice HO_3.out
            subst eo54
            go_wp2_with (first | ((with_reducible refine gate_callee (f := 8) rfl ?_); refine goesL_ (some 89) rfl rfl Tryd.func8 (by kernel_rfl) rfl #[] rfl (by (try simp only [List.map_toArray, List.map_cons, List.map_nil]); first | done | rfl | (simp only [List.length_drop, List.length_take]; rfl)) ?_; (with_reducible refine (parapetlaw19_awake.calls k1  t235 _ ?side1 A53.out).mono ?_); (case side1 => (first | exact HLD.out | exact Laid.below HLD.out (by repeat (first | (with_reducible first | exact HB.out | apply below_alloc | apply pw_below_drewN | apply below_drew1 | refine below_set ?_ GE233.out) | exact HB.out)))); rintro e w55 ⟨rfl, hb⟩; refine ⟨_, rfl, ?_⟩; have n0_ := Aside0.mk (Kd.R_below (by (with_reducible repeat (first | apply Kd.R_alloc | apply Kd.R_drewN | apply Kd.R_drew)); exact HO_3.out) hb); have n1_ := Aside0.mk (blk_below (g := gb233) (o := .cells #[.int .i64 t231, .int .i64 t232] 26 (0, 0)) (by (with_reducible repeat (first | refine blk_drewN ?_ _ | refine blk_drew ?_ | refine blk_alloc ?_ _)); exact BK233.out) hb); have n2_ := Aside0.mk (below_step (by repeat (first | (with_reducible first | exact HB.out | apply below_alloc | apply pw_below_drewN | apply below_drew1 | refine below_set ?_ GE233.out) | exact HB.out)) hb); clear HO_3; clear BK233; clear HB; have HO_3 := n0_; have BK233 := n1_; have HB := n2_; clear n0_ n1_ n2_; (try clear hb); (try clear hb2); (try clear hk); (try clear hi)))
            go_ret
            exact ⟨by first | rfl | (simp [errW_none, errW_some] <;> rfl) | (simp [*, errW_none, errW_some] <;> rfl), by repeat (first | (with_reducible first | exact HB.out | apply below_alloc | apply pw_below_drewN | apply below_drew1 | refine below_set ?_ GE233.out) | exact HB.out)⟩
    · rw [if_neg c6] at H
      have c6b0 : (t231 == 0) = false := beq_eq_false_iff_ne.mpr c6
      have c6b1 : (t231 != 0) = true := bne_iff_ne.mpr c6
      by_cases c56 : t232 ≥ 0
      · rw [if_pos c56] at H
        have c56b0 : decide (0 ≤ t232) = true := decide_eq_true c56
        clear c56
        by_cases c57 : t232 ≤ (a0.size : Int)
        · rw [if_pos c57] at H
          have c57b0 : decide (t232 ≤ (a0.size : Int)) = true := decide_eq_true c57
          clear c57
          replace H := Option.bind_eq_some_iff.mp H
          obtain ⟨t234, A580, H⟩ := H
          replace H : (some t234) = some r := H
          have A58 := Aside0.mk A580
          clear A580
          obtain rfl := Option.some.inj H
          go_enter Tryd.func6, Tryd.ntmps6
          go_wp2_with (first | ((with_reducible refine gate_callee (f := 9) rfl ?_); refine goesL_ (some 15) rfl rfl Tryd.func9 (by kernel_rfl) rfl #[.string a0] rfl (by (try simp only [List.map_toArray, List.map_cons, List.map_nil]); first | done | rfl | (simp only [List.length_drop, List.length_take]; rfl)) ?_; (with_reducible refine (lex_Tokens.calls k a0 t228 t231 t232 _ ?side1 A5.out).mono ?_); (case side1 => (first | exact HLD.out | exact Laid.below HLD.out (by repeat (first | (with_reducible first | exact HB.out | apply below_alloc | apply pw_below_drewN | apply below_drew1) | exact HB.out)))); rintro e w59 ⟨v229, rfl, ho0, hb⟩; refine ⟨_, rfl, ?_⟩; have n0_ := Aside0.mk (Kd.R_lower ho0 (below_size (by repeat (first | (with_reducible first | exact HB.out | apply below_alloc | apply pw_below_drewN | apply below_drew1) | exact HB.out)))); have n1_ := Aside0.mk (below_step (by repeat (first | (with_reducible first | exact HB.out | apply below_alloc | apply pw_below_drewN | apply below_drew1) | exact HB.out)) hb); clear HB; have HO230 := n0_; have HB := n1_; clear n0_ n1_; (try clear hb); (try clear hb2); (try clear hk); (try clear hi); (try clear ho0)) | ((with_reducible refine gate_dst (N := 4) rfl ?_); (try (refine gate_guard (by rfl) ?_; dsimp only)); refine box_event ?hg (N := 4) ?hd (cs := #[.int .i64 0, .int .i64 0]) (t := 26) ?hr ?_; (case hd => rfl); (case hg => rfl); (case hr => first | (go_simp; done) | (go_simp; rfl)); intro gb233 hg w60 hbox hb; have n0_ := Aside0.mk (Kd.R_below (by (with_reducible repeat (first | apply Kd.R_alloc | apply Kd.R_drewN | apply Kd.R_drew)); exact HO230.out) hb); have n1_ := Aside0.mk (below_step (by repeat (first | (with_reducible first | exact HB.out | apply below_alloc | apply pw_below_drewN | apply below_drew1) | exact HB.out)) hb); have n2_ := Aside0.mk (hbox); have n3_ := Aside0.mk ((by rw [hg]; exact (below_size (by repeat (first | (with_reducible first | exact HB.out | apply below_alloc | apply pw_below_drewN | apply below_drew1) | exact HB.out))) : w.heap.size ≤ gb233)); have n4_ := Aside0.mk ((by rw [hg]; exact (below_size (by repeat (first | (with_reducible first | exact HB.out | apply below_alloc | apply pw_below_drewN | apply below_drew1) | exact HB.out))) : w.heap.size ≤ gb233)); clear HO230; clear HB; have HO230 := n0_; have HB := n1_; have BK233 := n2_; have GW233 := n3_; have GE233 := n4_; clear n0_ n1_ n2_ n3_ n4_; clear hb hbox hg; have hcz61_0 : w60.cell? ⟨gb233, 0, none⟩ = some (.int .i64 0) := (blk_cell BK233.out 0).trans rfl; have hcz61_1 : w60.cell? ⟨gb233, 1, none⟩ = some (.int .i64 0) := (blk_cell BK233.out 1).trans rfl; have hfz61_0 := blk_frozen BK233.out 0; have hfz61_1 := blk_frozen BK233.out 1) | (go_at_call 8; (with_reducible refine (parapetlaw19_awake.calls k  t234 _ ?side1 A58.out).mono ?_); (case side1 => (first | exact HLD.out | exact Laid.below HLD.out (by repeat (first | (with_reducible first | exact HB.out | apply below_alloc | apply pw_below_drewN | apply below_drew1 | refine below_set ?_ GE233.out) | exact HB.out)))); rintro e w62 ⟨rfl, hb⟩; have n0_ := Aside0.mk (Kd.R_below (by (with_reducible repeat (first | apply Kd.R_alloc | apply Kd.R_drewN | apply Kd.R_drew)); exact (Kd.R_mono (Kd.R_far (p := ⟨gb233, 1, none⟩) (Kd.R_far (p := ⟨gb233, 0, none⟩) (Kd.R_types HO230.out BK233.out (by decide)) (fun _ hk => hk.2) (.int .i64 t231)) (fun _ hk => hk.2) (.int .i64 t232)) (fun _ h_ => h_.1))) hb); have n1_ := Aside0.mk (blk_below (g := gb233) (o := .cells #[.int .i64 t231, .int .i64 t232] 26 (0, 0)) (by (with_reducible repeat (first | refine blk_drewN ?_ _ | refine blk_drew ?_ | refine blk_alloc ?_ _)); refine blk_put (cs := #[.int .i64 t231, .int .i64 0]) ?_ 1 _ rfl; (with_reducible repeat (first | refine blk_drewN ?_ _ | refine blk_drew ?_ | refine blk_alloc ?_ _)); refine blk_put (cs := #[.int .i64 0, .int .i64 0]) ?_ 0 _ rfl; (with_reducible repeat (first | refine blk_drewN ?_ _ | refine blk_drew ?_ | refine blk_alloc ?_ _)); exact BK233.out) hb); have n2_ := Aside0.mk (below_step (by repeat (first | (with_reducible first | exact HB.out | apply below_alloc | apply pw_below_drewN | apply below_drew1 | refine below_set ?_ GE233.out) | exact HB.out)) hb); clear HO230; clear BK233; clear HB; have HO230 := n0_; have BK233 := n1_; have HB := n2_; clear n0_ n1_ n2_; (try clear hb); (try clear hb2); (try clear hk); (try clear hi)))
          go_ret
          exact ⟨by first | rfl | (simp [errW_none, errW_some] <;> rfl) | (simp [*, errW_none, errW_some] <;> rfl), by repeat (first | (with_reducible first | exact HB.out | apply below_alloc | apply pw_below_drewN | apply below_drew1 | refine below_set ?_ GE233.out) | exact HB.out)⟩
        · rw [if_neg c57] at H
          have c57b0 : decide (t232 ≤ (a0.size : Int)) = false := decide_eq_false c57
          clear c57
          obtain rfl := Option.some.inj H
          go_enter Tryd.func6, Tryd.ntmps6
          go_wp2_with (first | ((with_reducible refine gate_callee (f := 9) rfl ?_); refine goesL_ (some 15) rfl rfl Tryd.func9 (by kernel_rfl) rfl #[.string a0] rfl (by (try simp only [List.map_toArray, List.map_cons, List.map_nil]); first | done | rfl | (simp only [List.length_drop, List.length_take]; rfl)) ?_; (with_reducible refine (lex_Tokens.calls k a0 t228 t231 t232 _ ?side1 A5.out).mono ?_); (case side1 => (first | exact HLD.out | exact Laid.below HLD.out (by repeat (first | (with_reducible first | exact HB.out | apply below_alloc | apply pw_below_drewN | apply below_drew1) | exact HB.out)))); rintro e w63 ⟨v229, rfl, ho0, hb⟩; refine ⟨_, rfl, ?_⟩; have n0_ := Aside0.mk (Kd.R_lower ho0 (below_size (by repeat (first | (with_reducible first | exact HB.out | apply below_alloc | apply pw_below_drewN | apply below_drew1) | exact HB.out)))); have n1_ := Aside0.mk (below_step (by repeat (first | (with_reducible first | exact HB.out | apply below_alloc | apply pw_below_drewN | apply below_drew1) | exact HB.out)) hb); clear HB; have HO230 := n0_; have HB := n1_; clear n0_ n1_; (try clear hb); (try clear hb2); (try clear hk); (try clear hi); (try clear ho0)) | ((with_reducible refine gate_dst (N := 4) rfl ?_); (try (refine gate_guard (by rfl) ?_; dsimp only)); refine box_event ?hg (N := 4) ?hd (cs := #[.int .i64 0, .int .i64 0]) (t := 26) ?hr ?_; (case hd => rfl); (case hg => rfl); (case hr => first | (go_simp; done) | (go_simp; rfl)); intro gb233 hg w64 hbox hb; have n0_ := Aside0.mk (Kd.R_below (by (with_reducible repeat (first | apply Kd.R_alloc | apply Kd.R_drewN | apply Kd.R_drew)); exact HO230.out) hb); have n1_ := Aside0.mk (below_step (by repeat (first | (with_reducible first | exact HB.out | apply below_alloc | apply pw_below_drewN | apply below_drew1) | exact HB.out)) hb); have n2_ := Aside0.mk (hbox); have n3_ := Aside0.mk ((by rw [hg]; exact (below_size (by repeat (first | (with_reducible first | exact HB.out | apply below_alloc | apply pw_below_drewN | apply below_drew1) | exact HB.out))) : w.heap.size ≤ gb233)); have n4_ := Aside0.mk ((by rw [hg]; exact (below_size (by repeat (first | (with_reducible first | exact HB.out | apply below_alloc | apply pw_below_drewN | apply below_drew1) | exact HB.out))) : w.heap.size ≤ gb233)); clear HO230; clear HB; have HO230 := n0_; have HB := n1_; have BK233 := n2_; have GW233 := n3_; have GE233 := n4_; clear n0_ n1_ n2_ n3_ n4_; clear hb hbox hg; have hcz65_0 : w64.cell? ⟨gb233, 0, none⟩ = some (.int .i64 0) := (blk_cell BK233.out 0).trans rfl; have hcz65_1 : w64.cell? ⟨gb233, 1, none⟩ = some (.int .i64 0) := (blk_cell BK233.out 1).trans rfl; have hfz65_0 := blk_frozen BK233.out 0; have hfz65_1 := blk_frozen BK233.out 1))
          go_ret
          exact ⟨by first | rfl | (simp [errW_none, errW_some] <;> rfl) | (simp [*, errW_none, errW_some] <;> rfl), by repeat (first | (with_reducible first | exact HB.out | apply below_alloc | apply pw_below_drewN | apply below_drew1 | refine below_set ?_ GE233.out) | exact HB.out)⟩
      · rw [if_neg c56] at H
        have c56b0 : decide (0 ≤ t232) = false := decide_eq_false c56
        clear c56
        obtain rfl := Option.some.inj H
        go_enter Tryd.func6, Tryd.ntmps6
        go_wp2_with (first | ((with_reducible refine gate_callee (f := 9) rfl ?_); refine goesL_ (some 15) rfl rfl Tryd.func9 (by kernel_rfl) rfl #[.string a0] rfl (by (try simp only [List.map_toArray, List.map_cons, List.map_nil]); first | done | rfl | (simp only [List.length_drop, List.length_take]; rfl)) ?_; (with_reducible refine (lex_Tokens.calls k a0 t228 t231 t232 _ ?side1 A5.out).mono ?_); (case side1 => (first | exact HLD.out | exact Laid.below HLD.out (by repeat (first | (with_reducible first | exact HB.out | apply below_alloc | apply pw_below_drewN | apply below_drew1) | exact HB.out)))); rintro e w66 ⟨v229, rfl, ho0, hb⟩; refine ⟨_, rfl, ?_⟩; have n0_ := Aside0.mk (Kd.R_lower ho0 (below_size (by repeat (first | (with_reducible first | exact HB.out | apply below_alloc | apply pw_below_drewN | apply below_drew1) | exact HB.out)))); have n1_ := Aside0.mk (below_step (by repeat (first | (with_reducible first | exact HB.out | apply below_alloc | apply pw_below_drewN | apply below_drew1) | exact HB.out)) hb); clear HB; have HO230 := n0_; have HB := n1_; clear n0_ n1_; (try clear hb); (try clear hb2); (try clear hk); (try clear hi); (try clear ho0)) | ((with_reducible refine gate_dst (N := 4) rfl ?_); (try (refine gate_guard (by rfl) ?_; dsimp only)); refine box_event ?hg (N := 4) ?hd (cs := #[.int .i64 0, .int .i64 0]) (t := 26) ?hr ?_; (case hd => rfl); (case hg => rfl); (case hr => first | (go_simp; done) | (go_simp; rfl)); intro gb233 hg w67 hbox hb; have n0_ := Aside0.mk (Kd.R_below (by (with_reducible repeat (first | apply Kd.R_alloc | apply Kd.R_drewN | apply Kd.R_drew)); exact HO230.out) hb); have n1_ := Aside0.mk (below_step (by repeat (first | (with_reducible first | exact HB.out | apply below_alloc | apply pw_below_drewN | apply below_drew1) | exact HB.out)) hb); have n2_ := Aside0.mk (hbox); have n3_ := Aside0.mk ((by rw [hg]; exact (below_size (by repeat (first | (with_reducible first | exact HB.out | apply below_alloc | apply pw_below_drewN | apply below_drew1) | exact HB.out))) : w.heap.size ≤ gb233)); have n4_ := Aside0.mk ((by rw [hg]; exact (below_size (by repeat (first | (with_reducible first | exact HB.out | apply below_alloc | apply pw_below_drewN | apply below_drew1) | exact HB.out))) : w.heap.size ≤ gb233)); clear HO230; clear HB; have HO230 := n0_; have HB := n1_; have BK233 := n2_; have GW233 := n3_; have GE233 := n4_; clear n0_ n1_ n2_ n3_ n4_; clear hb hbox hg; have hcz68_0 : w67.cell? ⟨gb233, 0, none⟩ = some (.int .i64 0) := (blk_cell BK233.out 0).trans rfl; have hcz68_1 : w67.cell? ⟨gb233, 1, none⟩ = some (.int .i64 0) := (blk_cell BK233.out 1).trans rfl; have hfz68_0 := blk_frozen BK233.out 0; have hfz68_1 := blk_frozen BK233.out 1))
        go_ret
        exact ⟨by first | rfl | (simp [errW_none, errW_some] <;> rfl) | (simp [*, errW_none, errW_some] <;> rfl), by repeat (first | (with_reducible first | exact HB.out | apply below_alloc | apply pw_below_drewN | apply below_drew1 | refine below_set ?_ GE233.out) | exact HB.out)⟩

/-- THE ONE PURE STATEMENT of parapetlaw19_LexPlaces: yours. -/
def parapetlaw19_LexPlaces.Pure : Prop := ∀ (a0 : ByteArray), a0.size ≤ 140737488351232 → ∃ k, parapetlaw19_LexPlaces.f k a0 = some true
theorem parapetlaw19_LexPlaces.walk (P : parapetlaw19_LexPlaces.Pure) (a0 : ByteArray) (w : World) (w0 : a0.size ≤ 140737488351232) (hL : Laid w) :
    Calls Tryd.prog 6 #[.string a0] w fun e w' => e = .returned (.bool true) ∧ Below w.heap.size w w' := by
  obtain ⟨k, h⟩ := P a0 w0
  refine (parapetlaw19_LexPlaces.calls k a0 true w hL h).mono ?_
  rintro e w' ⟨rfl, hd⟩
  exact ⟨rfl, hd⟩

end Go.Proofs.YtlhllcbglfffdaaDoor.Pr
