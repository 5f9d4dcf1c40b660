/- 5 texts of the proof, put together, less what is not used; what a tool printed stands among them. -/
import Derived.KernelRfl
import Derived.SizedLaws
import Derived.ChangeSlices
import Derived.Test.YtngedmioeodmfaaDoorMDeep8
namespace Go.Proofs.YtngedmioeodmfaaDoor.Pr
open Go.RowKit Go.Proofs.YtngedmioeodmfaaDoorW.PrintWords Go.Proofs.YtngedmioeodmfaaDoorW.PrintLast Go.Proofs.YtngedmioeodmfaaDoorW.PrintMore
attribute [local go_sem] max2_int min2_int max_two min_two max_three min_three max_four min_four   -- for this text's walks alone
set_option linter.unusedVariables false
set_option linter.unusedSimpArgs false
attribute [local go_sem high] eqA30
mutual
def parse_Depth.l0 : Nat → Int → List (S49) → Int → Int → Option (Int)
  | 0, _, _, _, _ => none
  | k + 1, x3, x7, x8, x9 => if x9 < x8 then (if 0 ≤ x9 then (if x9 < (x7.length : Int) then ((parse_Depth.f k ((rd_T49 x7 x9).f0) ((rd_T49 x7 x9).f1.f0) ((rd_T49 x7 x9).f1.f1) ((rd_T49 x7 x9).f2)).bind fun t306 => (parse_Depth.l0 k (mx x3 t306) x7 x8 (wrap64 (x9 + 1)))) else (none)) else (none)) else (some (wrap64 (x3 + 1)))
def parse_Depth.f : Nat → Int → ByteArray → ByteArray → List (S49) → Option (Int)
  | 0, _, _, _, _ => none
  | k + 1, a0_0, a0_1, a0_2, l0_3 => parse_Depth.l0 k 0 l0_3 (l0_3.length : Int) 0
end
theorem parse_Depth.mono_l : ∀ k, (∀ y0 y1 y2 y3, LeO (parse_Depth.f k y0 y1 y2 y3) (parse_Depth.f (k + 1) y0 y1 y2 y3)) ∧ (∀ y0 y1 y2 y3, LeO (parse_Depth.l0 k y0 y1 y2 y3) (parse_Depth.l0 (k + 1) y0 y1 y2 y3))
  | 0 => ⟨fun _ _ _ _ r h => by simp [parse_Depth.f] at h, fun _ _ _ _ r h => by simp [parse_Depth.l0] at h⟩
  | k + 1 => by
    obtain ⟨ih0, ih1⟩ := parse_Depth.mono_l k
    refine ⟨?_, ?_⟩
    · intro y0 y1 y2 y3
      unfold parse_Depth.f
      repeat' first
      | (with_reducible exact ih0 _ _ _ _)
      | (with_reducible exact ih1 _ _ _ _)
      | (with_reducible exact LeO.refl _)
      | (with_reducible exact LeO.none _)
      | (with_reducible refine LeO.ite ?_ ?_)
      | (with_reducible refine LeO.bind ?_ (fun _ => ?_))
      | exact ih0 _ _ _ _
      | exact ih1 _ _ _ _
      | exact LeO.none _
      | refine LeO.ite ?_ ?_
      | refine LeO.bind ?_ (fun _ => ?_)
    · intro y0 y1 y2 y3
      unfold parse_Depth.l0
      repeat' first
      | (with_reducible exact ih0 _ _ _ _)
      | (with_reducible exact ih1 _ _ _ _)
      | (with_reducible exact LeO.refl _)
      | (with_reducible exact LeO.none _)
      | (with_reducible refine LeO.ite ?_ ?_)
      | (with_reducible refine LeO.bind ?_ (fun _ => ?_))
      | exact ih0 _ _ _ _
      | exact ih1 _ _ _ _
      | exact LeO.none _
      | refine LeO.ite ?_ ?_
      | refine LeO.bind ?_ (fun _ => ?_)
theorem parse_Depth.mono : ∀ a0 a1 a2 a3 k, LeO (parse_Depth.f k a0 a1 a2 a3) (parse_Depth.f (k + 1) a0 a1 a2 a3) := by
  intro a0 a1 a2 a3 k
  obtain ⟨ih0, ih1⟩ := parse_Depth.mono_l k
  exact ih0 a0 a1 a2 a3
set_option maxHeartbeats 8000000 in
set_option maxRecDepth 100000 in
theorem parse_Depth.calls (k : Nat) : ∀ (a0_0 : Int) (a0_1 : ByteArray) (a0_2 : ByteArray) (A0_3 : Option Addr) (c0_3 : Nat) (l0_3 : List (S49)) (r : Int) (w : World) (hr0_3 : Kd.C k49 w A0_3 l0_3.length l0_3) (hc0_3 : l0_3.length ≤ c0_3) (h : parse_Depth.f k a0_0 a0_1 a0_2 l0_3 = some r),
    Calls Tryd.prog 16 #[.agg #[.int .i64 a0_0, .string a0_1, .string a0_2, .slice A0_3 l0_3.length c0_3]] w fun e w' => e = .returned (.int .i64 r) ∧ Below w.heap.size w w' := by
  induction k using Nat.strongRecOn with
  | _ k ih =>
  intro a0_0 a0_1 a0_2 A0_3 c0_3 l0_3 r w hr0_3 hc0_3 h
  cases k with
  | zero => exact absurd h (by simp [parse_Depth.f])
  | succ k =>
  simp only [parse_Depth.f] at h
  have hu49 := Tryd.underlying49
  have HR0_3 := Aside0.mk hr0_3
  have HC0_3 := Aside0.mk hc0_3
  clear hr0_3 hc0_3
  have HB := Aside0.mk (Below.refl w.heap.size w)
  have H : (parse_Depth.l0 k 0 l0_3 (l0_3.length : Int) 0) = some r := h
  clear h
  have H' := Aside0.mk H
  clear H
  go_enter Tryd.func16, Tryd.ntmps16
  go_wp2_with (first | ((with_reducible refine gate_dst (N := 1) rfl ?_); refine box_event ?hg (N := 1) ?hd (cs := #[.int .i64 a0_0, .string a0_1, .string a0_2, .slice A0_3 l0_3.length c0_3]) (t := 49) ?hr ?_; (case hd => rfl); (case hg => rfl); (case hr => first | (go_simp; done) | (go_simp; rfl)); intro gb303 hg w2 hbox hb; have n0_ := Aside0.mk (below_step (by repeat (first | (with_reducible first | exact HB.out | apply below_alloc | apply pw_below_drewN | apply below_drew1) | exact HB.out)) hb); have n1_ := Aside0.mk (hbox); have n2_ := Aside0.mk ((by rw [hg]; exact (below_size (by repeat (first | (with_reducible first | exact HB.out | apply below_alloc | apply pw_below_drewN | apply below_drew1) | exact HB.out))) : w.heap.size ≤ gb303)); have n3_ := Aside0.mk ((by rw [hg]; exact (below_size (by repeat (first | (with_reducible first | exact HB.out | apply below_alloc | apply pw_below_drewN | apply below_drew1) | exact HB.out))) : w.heap.size ≤ gb303)); clear HB; have HB := n0_; have BK303 := n1_; have GW303 := n2_; have GE303 := n3_; clear n0_ n1_ n2_ n3_; clear hb hbox hg; have hcz3_0 : w2.cell? ⟨gb303, 0, none⟩ = some (.int .i64 a0_0) := (blk_cell BK303.out 0).trans rfl; have hcz3_1 : w2.cell? ⟨gb303, 1, none⟩ = some (.string a0_1) := (blk_cell BK303.out 1).trans rfl; have hcz3_2 : w2.cell? ⟨gb303, 2, none⟩ = some (.string a0_2) := (blk_cell BK303.out 2).trans rfl; have hcz3_3 : w2.cell? ⟨gb303, 3, none⟩ = some (.slice A0_3 l0_3.length c0_3) := (blk_cell BK303.out 3).trans rfl; have hfz3_0 := blk_frozen BK303.out 0; have hfz3_1 := blk_frozen BK303.out 1; have hfz3_2 := blk_frozen BK303.out 2; have hfz3_3 := blk_frozen BK303.out 3))
  go_loopg [3, 9] k (fun kq v3 v9 w' => ∃ (x3_1 : Int) (x9_1 : Int), v3 = .int .i64 x3_1 ∧ v9 = .int .i64 x9_1 ∧ Aside0 (parse_Depth.l0 kq x3_1 l0_3 (l0_3.length : Int) x9_1 = some r) ∧ Aside0 (kq ≤ k) ∧ Aside0 (w'.heap[gb303]? = some (.cells #[.int .i64 a0_0, .string a0_1, .string a0_2, (.slice A0_3 l0_3.length c0_3)] 49 (0, 0))) ∧ Aside0 (Below w.heap.size w w'))
  case atStart => exact ⟨(0), (0), (by first | rfl | (simp; done) | (simp [*]; done)), (by first | rfl | (simp; done) | (simp [*]; done)), H', ⟨Nat.le_refl _⟩, ⟨by (with_reducible repeat (first | refine blk_drewN ?_ _ | refine blk_drew ?_ | refine blk_alloc ?_ _)); exact BK303.out⟩, ⟨by repeat (first | (with_reducible first | exact HB.out | apply below_alloc | apply pw_below_drewN | apply below_drew1 | refine below_set ?_ GE303.out) | exact HB.out)⟩⟩
  case round =>
    clear H'
    try clear c1
    try clear p2
    try clear hcz3_0
    try clear hcz3_1
    try clear hcz3_2
    try clear hcz3_3
    try clear hfz3_0
    try clear hfz3_1
    try clear hfz3_2
    try clear hfz3_3
    obtain ⟨x3_1, x9_1, rfl, rfl, HA, HK1, BK303, HB⟩ := hrel
    cases gk with
    | zero => exact absurd HA.out (by simp [parse_Depth.l0])
    | succ k1 =>
      have H := HA.out
      clear HA
      simp only [parse_Depth.l0] at H
      by_cases c4 : x9_1 < (l0_3.length : Int)
      · rw [if_pos c4] at H
        have c4b0 : decide (x9_1 < (l0_3.length : Int)) = true := decide_eq_true c4
        clear c4
        by_cases c5 : 0 ≤ x9_1
        · rw [if_pos c5] at H
          have c5b0 : decide (0 ≤ x9_1) = true := decide_eq_true c5
          clear c5
          by_cases c6 : x9_1 < (l0_3.length : Int)
          · rw [if_pos c6] at H
            have c6b0 : decide (x9_1 < (l0_3.length : Int)) = true := decide_eq_true c6
            clear c6
            replace H := Option.bind_eq_some_iff.mp H
            obtain ⟨t306, A70, H⟩ := H
            replace H : (parse_Depth.l0 k1 (mx x3_1 t306) l0_3 (l0_3.length : Int) (wrap64 (x9_1 + 1))) = some r := H
            have A7 := Aside0.mk A70
            clear A70
            obtain ⟨ji8, hji8⟩ : ∃ j_ : Int, (mx x3_1 t306) = j_ := ⟨_, rfl⟩
            replace H : (parse_Depth.l0 k1 ji8 l0_3 (l0_3.length : Int) (wrap64 (x9_1 + 1))) = some r := by first | (rw [hji8] at H; exact H) | (simp only [hji8] at H ⊢; exact H)
            (try rw [hji8] at A7)
            have hji8_ : (if x3_1 < t306 then t306 else x3_1) = ji8 := hji8
            have H' := Aside0.mk H
            clear H
            have p304 : 0 ≤ (x9_1 : Int) := of_decide_eq_true (by first | (with_reducible assumption) | assumption)
            have q304 : x9_1 < (l0_3.length : Int) := of_decide_eq_true (by first | (with_reducible assumption) | assumption)
            obtain ⟨ad304, A304_3, c304_3, e304, hx304_0, hx304_1, hx304_2, hx304_3, hl304_3, hi304_3⟩ := at_T49 HR0_3.out x9_1 p304 q304
            cases e304
            replace hx304_0 := (HB.out.cell (World.block_lt_of_cell? w _ hx304_0)).trans hx304_0
            replace hx304_1 := (HB.out.cell (World.block_lt_of_cell? w _ hx304_1)).trans hx304_1
            replace hx304_2 := (HB.out.cell (World.block_lt_of_cell? w _ hx304_2)).trans hx304_2
            replace hx304_3 := (HB.out.cell (World.block_lt_of_cell? w _ hx304_3)).trans hx304_3
            have HR304_3 := Aside0.mk hi304_3
            have HC304_3 := Aside0.mk hl304_3
            clear hi304_3 hl304_3
            replace p304 := eq_true p304
            replace q304 := eq_true q304
            go_wp2_with (first | ((with_reducible refine gate_dst (N := 5) rfl ?_); refine box_event ?hg (N := 5) ?hd (cs := #[.int .i64 0, .string (⟨#[]⟩ : ByteArray), .string (⟨#[]⟩ : ByteArray), .slice none 0 0]) (t := 49) ?hr ?_; (case hd => rfl); (case hg => rfl); (case hr => first | (go_simp; done) | (go_simp; rfl)); intro gb305 hg w9 hbox hb; have n0_ := Aside0.mk (blk_below (g := gb303) (o := .cells #[.int .i64 a0_0, .string a0_1, .string a0_2, .slice (some ad304) l0_3.length c0_3] 49 (0, 0)) (by (with_reducible repeat (first | refine blk_drewN ?_ _ | refine blk_drew ?_ | refine blk_alloc ?_ _)); exact BK303.out) hb); have n1_ := Aside0.mk (below_step (by repeat (first | (with_reducible first | exact HB.out | apply below_alloc | apply pw_below_drewN | apply below_drew1 | refine below_set ?_ GE303.out) | exact HB.out)) hb); have n2_ := Aside0.mk (hbox); have n3_ := Aside0.mk ((by rw [hg]; exact (below_size (by repeat (first | (with_reducible first | exact HB.out | apply below_alloc | apply pw_below_drewN | apply below_drew1 | refine below_set ?_ GE303.out) | exact HB.out))) : w.heap.size ≤ gb305)); have n4_ := Aside0.mk ((by rw [hg]; exact (below_size (by repeat (first | (with_reducible first | exact HB.out | apply below_alloc | apply pw_below_drewN | apply below_drew1 | refine below_set ?_ GE303.out) | exact HB.out))) : w.heap.size ≤ gb305)); have n5_ := Aside0.mk ((by rw [hg]; exact Nat.ne_of_lt (blk_lt (g := gb303) (o := .cells #[.int .i64 a0_0, .string a0_1, .string a0_2, .slice (some ad304) l0_3.length c0_3] 49 (0, 0)) (by (with_reducible repeat (first | refine blk_drewN ?_ _ | refine blk_drew ?_ | refine blk_alloc ?_ _)); exact BK303.out)) : gb303 ≠ gb305)); have n6_ := Aside0.mk ((by rw [hg]; exact Nat.ne_of_gt (blk_lt (g := gb303) (o := .cells #[.int .i64 a0_0, .string a0_1, .string a0_2, .slice (some ad304) l0_3.length c0_3] 49 (0, 0)) (by (with_reducible repeat (first | refine blk_drewN ?_ _ | refine blk_drew ?_ | refine blk_alloc ?_ _)); exact BK303.out)) : gb305 ≠ gb303)); clear BK303; clear HB; have BK303 := n0_; have HB := n1_; have BK305 := n2_; have GW305 := n3_; have GE305 := n4_; have NB303_305 := n5_; have NB305_303 := n6_; clear n0_ n1_ n2_ n3_ n4_ n5_ n6_; clear hb hbox hg; have hnb10 := NB305_303.out; have hnc10 := NB303_305.out; have hcz11_0 : w9.cell? ⟨gb305, 0, none⟩ = some (.int .i64 0) := (blk_cell BK305.out 0).trans rfl; have hcz11_1 : w9.cell? ⟨gb305, 1, none⟩ = some (.string (⟨#[]⟩ : ByteArray)) := (blk_cell BK305.out 1).trans rfl; have hcz11_2 : w9.cell? ⟨gb305, 2, none⟩ = some (.string (⟨#[]⟩ : ByteArray)) := (blk_cell BK305.out 2).trans rfl; have hcz11_3 : w9.cell? ⟨gb305, 3, none⟩ = some (.slice none 0 0) := (blk_cell BK305.out 3).trans rfl; have hfz11_0 := blk_frozen BK305.out 0; have hfz11_1 := blk_frozen BK305.out 1; have hfz11_2 := blk_frozen BK305.out 2; have hfz11_3 := blk_frozen BK305.out 3) | ((with_reducible refine gate_callee (f := 16) rfl ?_); refine goesL_ (some 15) rfl rfl Tryd.func16 (by kernel_rfl) rfl #[.agg #[.int .i64 ((rd_T49 l0_3 x9_1).f0), .string ((rd_T49 l0_3 x9_1).f1.f0), .string ((rd_T49 l0_3 x9_1).f1.f1), .slice A304_3 ((rd_T49 l0_3 x9_1).f2).length c304_3]] rfl (by (try simp only [List.map_toArray, List.map_cons, List.map_nil]); first | done | rfl | (simp only [List.length_drop, List.length_take]; rfl)) ?_; (with_reducible refine (ih k1 (by have := HK1.out; omega) ((rd_T49 l0_3 x9_1).f0) ((rd_T49 l0_3 x9_1).f1.f0) ((rd_T49 l0_3 x9_1).f1.f1) _ _ ((rd_T49 l0_3 x9_1).f2) t306 _ ?side1 ?side2 A7.out).mono ?_); (case side1 => exact Kd.C_below HR304_3.out (by repeat (first | (with_reducible first | exact HB.out | apply below_alloc | apply pw_below_drewN | apply below_drew1 | refine below_set ?_ GE303.out | refine below_set ?_ GE305.out) | exact HB.out))); (case side2 => exact HC304_3.out); rintro e w12 ⟨rfl, hb⟩; refine ⟨_, rfl, ?_⟩; have n0_ := Aside0.mk (blk_below (g := gb303) (o := .cells #[.int .i64 a0_0, .string a0_1, .string a0_2, .slice (some ad304) l0_3.length c0_3] 49 (0, 0)) (by (with_reducible repeat (first | refine blk_drewN ?_ _ | refine blk_drew ?_ | refine blk_alloc ?_ _)); refine blk_far ?_ NB303_305.out _; (with_reducible repeat (first | refine blk_drewN ?_ _ | refine blk_drew ?_ | refine blk_alloc ?_ _)); refine blk_far ?_ NB303_305.out _; (with_reducible repeat (first | refine blk_drewN ?_ _ | refine blk_drew ?_ | refine blk_alloc ?_ _)); refine blk_far ?_ NB303_305.out _; (with_reducible repeat (first | refine blk_drewN ?_ _ | refine blk_drew ?_ | refine blk_alloc ?_ _)); refine blk_far ?_ NB303_305.out _; (with_reducible repeat (first | refine blk_drewN ?_ _ | refine blk_drew ?_ | refine blk_alloc ?_ _)); exact BK303.out) hb); have n1_ := Aside0.mk (blk_below (g := gb305) (o := .cells #[.int .i64 ((rd_T49 l0_3 x9_1).f0), .string ((rd_T49 l0_3 x9_1).f1.f0), .string ((rd_T49 l0_3 x9_1).f1.f1), .slice A304_3 ((rd_T49 l0_3 x9_1).f2).length c304_3] 49 (0, 0)) (by (with_reducible repeat (first | refine blk_drewN ?_ _ | refine blk_drew ?_ | refine blk_alloc ?_ _)); refine blk_put (cs := #[.int .i64 ((rd_T49 l0_3 x9_1).f0), .string ((rd_T49 l0_3 x9_1).f1.f0), .string ((rd_T49 l0_3 x9_1).f1.f1), .slice none 0 0]) ?_ 3 _ rfl; (with_reducible repeat (first | refine blk_drewN ?_ _ | refine blk_drew ?_ | refine blk_alloc ?_ _)); refine blk_put (cs := #[.int .i64 ((rd_T49 l0_3 x9_1).f0), .string ((rd_T49 l0_3 x9_1).f1.f0), .string (⟨#[]⟩ : ByteArray), .slice none 0 0]) ?_ 2 _ rfl; (with_reducible repeat (first | refine blk_drewN ?_ _ | refine blk_drew ?_ | refine blk_alloc ?_ _)); refine blk_put (cs := #[.int .i64 ((rd_T49 l0_3 x9_1).f0), .string (⟨#[]⟩ : ByteArray), .string (⟨#[]⟩ : ByteArray), .slice none 0 0]) ?_ 1 _ rfl; (with_reducible repeat (first | refine blk_drewN ?_ _ | refine blk_drew ?_ | refine blk_alloc ?_ _)); refine blk_put (cs := #[.int .i64 0, .string (⟨#[]⟩ : ByteArray), .string (⟨#[]⟩ : ByteArray), .slice none 0 0]) ?_ 0 _ rfl; (with_reducible repeat (first | refine blk_drewN ?_ _ | refine blk_drew ?_ | refine blk_alloc ?_ _)); exact BK305.out) hb); have n2_ := Aside0.mk (below_step (by repeat (first | (with_reducible first | exact HB.out | apply below_alloc | apply pw_below_drewN | apply below_drew1 | refine below_set ?_ GE303.out | refine below_set ?_ GE305.out) | exact HB.out)) hb); clear BK303; clear BK305; clear HB; have BK303 := n0_; have BK305 := n1_; have HB := n2_; clear n0_ n1_ n2_; (try clear hb); (try clear hb2); (try clear hk); (try clear hi)))
            go_roundg k1
            case measure => have := HK1.out; omega
            case rel => exact ⟨(ji8), (wrap64 (x9_1 + 1)), (by first | rfl | (simp; done) | (simp only [← hji8] <;> (first | rfl | simp)) | (simp [*]; done)), (by first | rfl | (simp; done) | (simp [*]; done)), H', ⟨by have := HK1.out; omega⟩, ⟨by (with_reducible repeat (first | refine blk_drewN ?_ _ | refine blk_drew ?_ | refine blk_alloc ?_ _)); exact BK303.out⟩, ⟨by repeat (first | (with_reducible first | exact HB.out | apply below_alloc | apply pw_below_drewN | apply below_drew1 | refine below_set ?_ GE303.out | refine below_set ?_ GE305.out) | exact HB.out)⟩⟩
          · rw [if_neg c6] at H
            exact absurd H (by simp)
        · rw [if_neg c5] at H
          exact absurd H (by simp)
      · rw [if_neg c4] at H
        have c4b0 : decide (x9_1 < (l0_3.length : Int)) = false := decide_eq_false c4
        clear c4
        obtain rfl := Option.some.inj H
        go_wp2
        go_ret
        exact ⟨by first | rfl | (simp [errW_none, errW_some] <;> rfl) | (simp [*, errW_none, errW_some] <;> rfl), by repeat (first | (with_reducible first | exact HB.out | apply below_alloc | apply pw_below_drewN | apply below_drew1 | refine below_set ?_ GE303.out) | exact HB.out)⟩
mutual
def parapetlaw20_ParseDeep.l0 : Nat → List Bool → ByteArray → ByteArray → Int → Int → Option (Bool)
  | 0, _, _, _, _, _ => none
  | k + 1, x0, x3, x4, x5, x6 => if x6 < (x0.length : Int) then (if x6 = 30 then (if 0 ≤ x6 then (if rdOf false x0 x6 = true then (if x3.size + 4 ≤ 9223372036854775807 then (parapetlaw20_ParseDeep.l0 k x0 (x3 ++ (⟨#[110, 111, 116, 32]⟩ : ByteArray)) x4 (x3.size : Int) (wrap64 (x6 + 1))) else (none)) else (if x3.size + 2 ≤ 9223372036854775807 then (if x4.size + 2 ≤ 9223372036854775807 then (parapetlaw20_ParseDeep.l0 k x0 (x3 ++ (⟨#[40, 32]⟩ : ByteArray)) (x4 ++ (⟨#[32, 41]⟩ : ByteArray)) (x3.size : Int) (wrap64 (x6 + 1))) else (none)) else (none))) else (none)) else (if 0 ≤ x6 then (if rdOf false x0 x6 = true then (if x3.size + 4 ≤ 9223372036854775807 then (parapetlaw20_ParseDeep.l0 k x0 (x3 ++ (⟨#[110, 111, 116, 32]⟩ : ByteArray)) x4 x5 (wrap64 (x6 + 1))) else (none)) else (if x3.size + 2 ≤ 9223372036854775807 then (if x4.size + 2 ≤ 9223372036854775807 then (parapetlaw20_ParseDeep.l0 k x0 (x3 ++ (⟨#[40, 32]⟩ : ByteArray)) (x4 ++ (⟨#[32, 41]⟩ : ByteArray)) x5 (wrap64 (x6 + 1))) else (none)) else (none))) else (none))) else (if x3.size + 4 ≤ 9223372036854775807 then (if (x3 ++ (⟨#[99, 111, 114, 115]⟩ : ByteArray)).size + x4.size ≤ 9223372036854775807 then (if ((x3 ++ (⟨#[99, 111, 114, 115]⟩ : ByteArray)) ++ x4).size + 1 ≤ 9223372036854775807 then ((parse_Policy.f k (((x3 ++ (⟨#[99, 111, 114, 115]⟩ : ByteArray)) ++ x4) ++ (⟨#[59]⟩ : ByteArray))).bind fun bt310 => (if (x0.length : Int) > 30 then (if (bt310.2.2.2.2.2.1 == 2 && (bt310.2.2.2.2.2.2 == x5)) = true then ((parapetlaw20_awake.f k).bind fun t325 => (some t325)) else (some false)) else (parapetlaw20_ParseDeep.l1 k x0 1 0 bt310.1 bt310.2.1 bt310.2.2.1 bt310.2.2.2.1 bt310.2.2.2.2.1 bt310.2.2.2.2.2.1 bt310.2.2.2.2.2.2))) else (none)) else (none)) else (none))
def parapetlaw20_ParseDeep.l1 : Nat → List Bool → Int → Int → List ByteArray → List (S44) → ByteArray → List (S51) → Bool → Int → Int → Option (Bool)
  | 0, _, _, _, _, _, _, _, _, _, _ => none
  | k + 1, x0, x9, x10, x324000, x324001, x324002, x324003, x324004, x325000, x325001 => if x10 < (x0.length : Int) then (if 0 ≤ x10 then (if rdOf false x0 x10 = true then (parapetlaw20_ParseDeep.l1 k x0 (wrap64 (x9 + 1)) (wrap64 (x10 + 1)) x324000 x324001 x324002 x324003 x324004 x325000 x325001) else (parapetlaw20_ParseDeep.l1 k x0 x9 (wrap64 (x10 + 1)) x324000 x324001 x324002 x324003 x324004 x325000 x325001)) else (none)) else (if x325000 = 0 then (if (x324003.length : Int) = 1 then (if 0 < (x324003.length : Int) then ((parse_Depth.f k ((rd_T51 x324003 0).f1.f0) ((rd_T51 x324003 0).f1.f1.f0) ((rd_T51 x324003 0).f1.f1.f1) ((rd_T51 x324003 0).f1.f2)).bind fun t328 => (if t328 = x9 then ((parapetlaw20_awake.f k).bind fun t329 => (some t329)) else (some false))) else (none)) else (some false)) else (some false))
end
def parapetlaw20_ParseDeep.f (k : Nat) (l0 : List Bool) : Option (Bool) := if (l0.length : Int) > 40 then ((parapetlaw20_awake.f k).bind fun t307 => (some t307)) else (parapetlaw20_ParseDeep.l0 k l0 (⟨#[100, 101, 110, 121, 32, 105, 102, 32]⟩ : ByteArray) (⟨#[]⟩ : ByteArray) 0 0)
theorem parapetlaw20_ParseDeep.mono_l : ∀ k, (∀ y0 y1 y2 y3 y4, LeO (parapetlaw20_ParseDeep.l0 k y0 y1 y2 y3 y4) (parapetlaw20_ParseDeep.l0 (k + 1) y0 y1 y2 y3 y4)) ∧ (∀ y0 y1 y2 y3 y4 y5 y6 y7 y8 y9, LeO (parapetlaw20_ParseDeep.l1 k y0 y1 y2 y3 y4 y5 y6 y7 y8 y9) (parapetlaw20_ParseDeep.l1 (k + 1) y0 y1 y2 y3 y4 y5 y6 y7 y8 y9))
  | 0 => ⟨fun _ _ _ _ _ r h => by simp [parapetlaw20_ParseDeep.l0] at h, fun _ _ _ _ _ _ _ _ _ _ r h => by simp [parapetlaw20_ParseDeep.l1] at h⟩
  | k + 1 => by
    obtain ⟨ih0, ih1⟩ := parapetlaw20_ParseDeep.mono_l k
    refine ⟨?_, ?_⟩
    · intro y0 y1 y2 y3 y4
      unfold parapetlaw20_ParseDeep.l0
      repeat' first
      | (with_reducible exact ih0 _ _ _ _ _)
      | (with_reducible exact ih1 _ _ _ _ _ _ _ _ _ _)
      | (with_reducible exact parapetlaw20_awake.mono _)
      | (with_reducible exact parse_Depth.mono _ _ _ _ _)
      | (with_reducible exact parse_Policy.mono _ _)
      | (with_reducible exact LeO.refl _)
      | (with_reducible exact LeO.none _)
      | (with_reducible refine LeO.ite ?_ ?_)
      | (with_reducible refine LeO.bind ?_ (fun _ => ?_))
      | exact ih0 _ _ _ _ _
      | exact ih1 _ _ _ _ _ _ _ _ _ _
      | exact parapetlaw20_awake.mono _
      | exact parse_Depth.mono _ _ _ _ _
      | exact parse_Policy.mono _ _
      | exact LeO.none _
      | refine LeO.ite ?_ ?_
      | refine LeO.bind ?_ (fun _ => ?_)
    · intro y0 y1 y2 y3 y4 y5 y6 y7 y8 y9
      unfold parapetlaw20_ParseDeep.l1
      repeat' first
      | (with_reducible exact ih0 _ _ _ _ _)
      | (with_reducible exact ih1 _ _ _ _ _ _ _ _ _ _)
      | (with_reducible exact parapetlaw20_awake.mono _)
      | (with_reducible exact parse_Depth.mono _ _ _ _ _)
      | (with_reducible exact parse_Policy.mono _ _)
      | (with_reducible exact LeO.refl _)
      | (with_reducible exact LeO.none _)
      | (with_reducible refine LeO.ite ?_ ?_)
      | (with_reducible refine LeO.bind ?_ (fun _ => ?_))
      | exact ih0 _ _ _ _ _
      | exact ih1 _ _ _ _ _ _ _ _ _ _
      | exact parapetlaw20_awake.mono _
      | exact parse_Depth.mono _ _ _ _ _
      | exact parse_Policy.mono _ _
      | exact LeO.none _
      | refine LeO.ite ?_ ?_
      | refine LeO.bind ?_ (fun _ => ?_)
theorem parapetlaw20_ParseDeep.mono : ∀ a0 k, LeO (parapetlaw20_ParseDeep.f k a0) (parapetlaw20_ParseDeep.f (k + 1) a0) := by
  intro a0 k
  obtain ⟨ih0, ih1⟩ := parapetlaw20_ParseDeep.mono_l k
  unfold parapetlaw20_ParseDeep.f
  repeat' first
      | (with_reducible exact ih0 _ _ _ _ _)
      | (with_reducible exact ih1 _ _ _ _ _ _ _ _ _ _)
      | (with_reducible exact parapetlaw20_awake.mono _)
      | (with_reducible exact parse_Depth.mono _ _ _ _ _)
      | (with_reducible exact parse_Policy.mono _ _)
      | (with_reducible exact LeO.refl _)
      | (with_reducible exact LeO.none _)
      | (with_reducible refine LeO.ite ?_ ?_)
      | (with_reducible refine LeO.bind ?_ (fun _ => ?_))
      | exact ih0 _ _ _ _ _
      | exact ih1 _ _ _ _ _ _ _ _ _ _
      | exact parapetlaw20_awake.mono _
      | exact parse_Depth.mono _ _ _ _ _
      | exact parse_Policy.mono _ _
      | exact LeO.none _
      | refine LeO.ite ?_ ?_
      | refine LeO.bind ?_ (fun _ => ?_)
set_option maxHeartbeats 8000000 in
set_option maxRecDepth 100000 in
theorem parapetlaw20_ParseDeep.calls (k : Nat) (A0 : Option Addr) (c0 : Nat) (l0 : List Bool) (r : Bool) (w : World) (hr0 : Kd.C Kd.bool w A0 l0.length l0) (hc0 : l0.length ≤ c0) (hL : Laid w) (h : parapetlaw20_ParseDeep.f k l0 = some r) :
    Calls Tryd.prog 8 #[.slice A0 l0.length c0] w fun e w' => e = .returned (.bool r) ∧ Below w.heap.size w w' := by
  have hu27 := Tryd.underlying27
  have hu30 := Tryd.underlying30
  have hu49 := Tryd.underlying49
  have HLD := Aside0.mk hL
  clear hL
  have HR0 := Aside0.mk hr0
  have HC0 := Aside0.mk hc0
  clear hr0 hc0
  have HB := Aside0.mk (Below.refl w.heap.size w)
  have H : (if (l0.length : Int) > 40 then ((parapetlaw20_awake.f k).bind fun t307 => (some t307)) else (parapetlaw20_ParseDeep.l0 k l0 (⟨#[100, 101, 110, 121, 32, 105, 102, 32]⟩ : ByteArray) (⟨#[]⟩ : ByteArray) 0 0)) = some r := h
  clear h
  by_cases c2 : (l0.length : Int) > 40
  · rw [if_pos c2] at H
    have c2b0 : decide (40 < (l0.length : Int)) = true := decide_eq_true c2
    have c2b1 : decide (40 < l0.length) = true := decide_eq_true (by omega)
    clear c2
    replace H := Option.bind_eq_some_iff.mp H
    obtain ⟨t307, A30, H⟩ := H
    replace H : (some t307) = some r := H
    have A3 := Aside0.mk A30
    clear A30
    obtain rfl := Option.some.inj H
    go_enter Tryd.func8, Tryd.ntmps8
    go_wp2_with (first | ((with_reducible refine gate_callee (f := 11) rfl ?_); refine goesL_ (some 14) rfl rfl Tryd.func11 (by kernel_rfl) rfl #[] rfl (by (try simp only [List.map_toArray, List.map_cons, List.map_nil]); first | done | rfl | (simp only [List.length_drop, List.length_take]; rfl)) ?_; (with_reducible refine (parapetlaw20_awake.calls k  t307 _ ?side1 A3.out).mono ?_); (case side1 => (first | (with_reducible exact HLD.out) | exact Laid.below HLD.out (by repeat (first | (with_reducible first | exact HB.out | apply below_alloc | apply pw_below_drewN | apply below_drew1) | exact HB.out)))); rintro e w4 ⟨rfl, hb⟩; refine ⟨_, rfl, ?_⟩; have n0_ := Aside0.mk (below_step (by repeat (first | (with_reducible first | exact HB.out | apply below_alloc | apply pw_below_drewN | apply below_drew1) | exact HB.out)) hb); clear HB; have HB := n0_; clear n0_; (try clear hb); (try clear hb2); (try clear hk); (try clear hi)))
    go_ret
    exact ⟨by first | rfl | (simp [errW_none, errW_some] <;> rfl) | (simp [*, errW_none, errW_some] <;> rfl), by repeat (first | (with_reducible first | exact HB.out | apply below_alloc | apply pw_below_drewN | apply below_drew1) | exact HB.out)⟩
  · rw [if_neg c2] at H
    have c2b0 : decide (40 < (l0.length : Int)) = false := decide_eq_false c2
    have c2b1 : decide (40 < l0.length) = false := decide_eq_false (by omega)
    clear c2
    have H' := Aside0.mk H
    clear H
    go_enter Tryd.func8, Tryd.ntmps8
    go_wp2
    go_loopg [3, 4, 5, 6] k (fun kq v3 v4 v5 v6 w' => ∃ (x3_1 : ByteArray) (x4_1 : ByteArray) (x5_1 : Int) (x6_1 : Int), v3 = .string x3_1 ∧ v4 = .string x4_1 ∧ v5 = .int .i64 x5_1 ∧ v6 = .int .i64 x6_1 ∧ Aside0 (parapetlaw20_ParseDeep.l0 kq l0 x3_1 x4_1 x5_1 x6_1 = some r) ∧ Aside0 (kq ≤ k) ∧ Aside0 (Below w.heap.size w w'))
    case atStart => exact ⟨((⟨#[100, 101, 110, 121, 32, 105, 102, 32]⟩ : ByteArray)), ((⟨#[]⟩ : ByteArray)), (0), (0), (by first | rfl | (simp; done) | (simp [*]; done)), (by first | rfl | (simp; done) | (simp [*]; done)), (by first | rfl | (simp; done) | (simp [*]; done)), (by first | rfl | (simp; done) | (simp [*]; done)), H', ⟨Nat.le_refl _⟩, ⟨by repeat (first | (with_reducible first | exact HB.out | apply below_alloc | apply pw_below_drewN | apply below_drew1) | exact HB.out)⟩⟩
    case round =>
      clear H'
      try clear c1
      try clear c2
      try clear c2b0
      try clear c2b1
      try clear p2
      obtain ⟨x3_1, x4_1, x5_1, x6_1, rfl, rfl, rfl, rfl, HA, HK1, HB⟩ := hrel
      cases gk with
      | zero => exact absurd HA.out (by simp [parapetlaw20_ParseDeep.l0])
      | succ k1 =>
        have H := HA.out
        clear HA
        simp only [parapetlaw20_ParseDeep.l0] at H
        by_cases c5 : x6_1 < (l0.length : Int)
        · rw [if_pos c5] at H
          have c5b0 : decide (x6_1 < (l0.length : Int)) = true := decide_eq_true c5
          clear c5
          by_cases c6 : x6_1 = 30
          · rw [if_pos c6] at H
            have c6b0 : (x6_1 == 30) = true := beq_iff_eq.mpr c6
            have c6b1 : (x6_1 != 30) = false := bne_eq_false_iff_eq.mpr c6
            clear c6
            by_cases c7 : 0 ≤ x6_1
            · rw [if_pos c7] at H
              have c7b0 : decide (0 ≤ x6_1) = true := decide_eq_true c7
              clear c7
              obtain ⟨bq8, hbq8⟩ : ∃ b_ : Bool, b_ = (rdOf false l0 x6_1) := ⟨_, rfl⟩
              replace H : (if bq8 = true then (if x3_1.size + 4 ≤ 9223372036854775807 then (parapetlaw20_ParseDeep.l0 k1 l0 (x3_1 ++ (⟨#[110, 111, 116, 32]⟩ : ByteArray)) x4_1 (x3_1.size : Int) (wrap64 (x6_1 + 1))) else (none)) else (if x3_1.size + 2 ≤ 9223372036854775807 then (if x4_1.size + 2 ≤ 9223372036854775807 then (parapetlaw20_ParseDeep.l0 k1 l0 (x3_1 ++ (⟨#[40, 32]⟩ : ByteArray)) (x4_1 ++ (⟨#[32, 41]⟩ : ByteArray)) (x3_1.size : Int) (wrap64 (x6_1 + 1))) else (none)) else (none))) = some r := by rw [← hbq8] at H; exact H
              have Nbq8 := Aside0.mk hbq8
              clear hbq8
              by_cases c9 : bq8 = true
              · subst c9
                have H1 : (if x3_1.size + 4 ≤ 9223372036854775807 then (parapetlaw20_ParseDeep.l0 k1 l0 (x3_1 ++ (⟨#[110, 111, 116, 32]⟩ : ByteArray)) x4_1 (x3_1.size : Int) (wrap64 (x6_1 + 1))) else (none)) = some r := by rw [if_pos rfl] at H; exact H
                clear H
                have H := H1
                clear H1
                by_cases c10 : x3_1.size + 4 ≤ 9223372036854775807
                · rw [if_pos c10] at H
                  have c10b0 := eq_true c10
                  have c10b1 : decide (x3_1.size + 4 ≤ 9223372036854775807) = true := decide_eq_true c10
                  try have c10b2 : (9223372036854775807 < x3_1.size + 4) = False := eq_false (Nat.not_lt.2 c10)
                  have H' := Aside0.mk H
                  clear H
                  have p308 : 0 ≤ (x6_1 : Int) := of_decide_eq_true (by first | (with_reducible assumption) | assumption)
                  have q308 : x6_1 < (l0.length : Int) := of_decide_eq_true (by first | (with_reducible assumption) | assumption)
                  obtain ⟨ad308, e308, hx308_0⟩ := Kd.at_bool HR0.out x6_1 p308 q308
                  (try rw [← Nbq8.out] at hx308_0)
                  cases e308
                  replace hx308_0 := (HB.out.cell (World.block_lt_of_cell? w _ hx308_0)).trans hx308_0
                  replace p308 := eq_true p308
                  replace q308 := eq_true q308
                  go_wp2
                  go_roundg k1
                  case measure => have := HK1.out; omega
                  case rel => exact ⟨(x3_1 ++ (⟨#[110, 111, 116, 32]⟩ : ByteArray)), (x4_1), ((x3_1.size : Int)), (wrap64 (x6_1 + 1)), (by first | rfl | (simp; done) | (simp [*]; done)), (by first | rfl | (simp; done) | (simp [*]; done)), (by first | rfl | (simp; done) | (simp [*]; done)), (by first | rfl | (simp; done) | (simp [*]; done)), H', ⟨by have := HK1.out; omega⟩, ⟨by repeat (first | (with_reducible first | exact HB.out | apply below_alloc | apply pw_below_drewN | apply below_drew1) | exact HB.out)⟩⟩
                · rw [if_neg c10] at H
                  exact absurd H (by simp)
              · replace c9 := Bool.eq_false_iff.mpr c9
                subst c9
                have H1 : (if x3_1.size + 2 ≤ 9223372036854775807 then (if x4_1.size + 2 ≤ 9223372036854775807 then (parapetlaw20_ParseDeep.l0 k1 l0 (x3_1 ++ (⟨#[40, 32]⟩ : ByteArray)) (x4_1 ++ (⟨#[32, 41]⟩ : ByteArray)) (x3_1.size : Int) (wrap64 (x6_1 + 1))) else (none)) else (none)) = some r := by rw [if_neg (show ¬ (false = true) by decide)] at H; exact H
                clear H
                have H := H1
                clear H1
                by_cases c11 : x3_1.size + 2 ≤ 9223372036854775807
                · rw [if_pos c11] at H
                  have c11b0 := eq_true c11
                  have c11b1 : decide (x3_1.size + 2 ≤ 9223372036854775807) = true := decide_eq_true c11
                  try have c11b2 : (9223372036854775807 < x3_1.size + 2) = False := eq_false (Nat.not_lt.2 c11)
                  by_cases c12 : x4_1.size + 2 ≤ 9223372036854775807
                  · rw [if_pos c12] at H
                    have c12b0 := eq_true c12
                    have c12b1 : decide (x4_1.size + 2 ≤ 9223372036854775807) = true := decide_eq_true c12
                    try have c12b2 : (9223372036854775807 < x4_1.size + 2) = False := eq_false (Nat.not_lt.2 c12)
                    have H' := Aside0.mk H
                    clear H
                    have p308 : 0 ≤ (x6_1 : Int) := of_decide_eq_true (by first | (with_reducible assumption) | assumption)
                    have q308 : x6_1 < (l0.length : Int) := of_decide_eq_true (by first | (with_reducible assumption) | assumption)
                    obtain ⟨ad308, e308, hx308_0⟩ := Kd.at_bool HR0.out x6_1 p308 q308
                    (try rw [← Nbq8.out] at hx308_0)
                    cases e308
                    replace hx308_0 := (HB.out.cell (World.block_lt_of_cell? w _ hx308_0)).trans hx308_0
                    replace p308 := eq_true p308
                    replace q308 := eq_true q308
                    go_wp2
                    go_roundg k1
                    case measure => have := HK1.out; omega
                    case rel => exact ⟨(x3_1 ++ (⟨#[40, 32]⟩ : ByteArray)), (x4_1 ++ (⟨#[32, 41]⟩ : ByteArray)), ((x3_1.size : Int)), (wrap64 (x6_1 + 1)), (by first | rfl | (simp; done) | (simp [*]; done)), (by first | rfl | (simp; done) | (simp [*]; done)), (by first | rfl | (simp; done) | (simp [*]; done)), (by first | rfl | (simp; done) | (simp [*]; done)), H', ⟨by have := HK1.out; omega⟩, ⟨by repeat (first | (with_reducible first | exact HB.out | apply below_alloc | apply pw_below_drewN | apply below_drew1) | exact HB.out)⟩⟩
                  · rw [if_neg c12] at H
                    exact absurd H (by simp)
                · rw [if_neg c11] at H
                  exact absurd H (by simp)
            · rw [if_neg c7] at H
              exact absurd H (by simp)
          · rw [if_neg c6] at H
            have c6b0 : (x6_1 == 30) = false := beq_eq_false_iff_ne.mpr c6
            have c6b1 : (x6_1 != 30) = true := bne_iff_ne.mpr c6
            by_cases c13 : 0 ≤ x6_1
            · rw [if_pos c13] at H
              have c13b0 : decide (0 ≤ x6_1) = true := decide_eq_true c13
              clear c13
              obtain ⟨bq14, hbq14⟩ : ∃ b_ : Bool, b_ = (rdOf false l0 x6_1) := ⟨_, rfl⟩
              replace H : (if bq14 = true then (if x3_1.size + 4 ≤ 9223372036854775807 then (parapetlaw20_ParseDeep.l0 k1 l0 (x3_1 ++ (⟨#[110, 111, 116, 32]⟩ : ByteArray)) x4_1 x5_1 (wrap64 (x6_1 + 1))) else (none)) else (if x3_1.size + 2 ≤ 9223372036854775807 then (if x4_1.size + 2 ≤ 9223372036854775807 then (parapetlaw20_ParseDeep.l0 k1 l0 (x3_1 ++ (⟨#[40, 32]⟩ : ByteArray)) (x4_1 ++ (⟨#[32, 41]⟩ : ByteArray)) x5_1 (wrap64 (x6_1 + 1))) else (none)) else (none))) = some r := by rw [← hbq14] at H; exact H
              have Nbq14 := Aside0.mk hbq14
              clear hbq14
              by_cases c15 : bq14 = true
              · subst c15
                have H1 : (if x3_1.size + 4 ≤ 9223372036854775807 then (parapetlaw20_ParseDeep.l0 k1 l0 (x3_1 ++ (⟨#[110, 111, 116, 32]⟩ : ByteArray)) x4_1 x5_1 (wrap64 (x6_1 + 1))) else (none)) = some r := by rw [if_pos rfl] at H; exact H
                clear H
                have H := H1
                clear H1
                by_cases c16 : x3_1.size + 4 ≤ 9223372036854775807
                · rw [if_pos c16] at H
                  have c16b0 := eq_true c16
                  have c16b1 : decide (x3_1.size + 4 ≤ 9223372036854775807) = true := decide_eq_true c16
                  try have c16b2 : (9223372036854775807 < x3_1.size + 4) = False := eq_false (Nat.not_lt.2 c16)
                  have H' := Aside0.mk H
                  clear H
                  have p309 : 0 ≤ (x6_1 : Int) := of_decide_eq_true (by first | (with_reducible assumption) | assumption)
                  have q309 : x6_1 < (l0.length : Int) := of_decide_eq_true (by first | (with_reducible assumption) | assumption)
                  obtain ⟨ad309, e309, hx309_0⟩ := Kd.at_bool HR0.out x6_1 p309 q309
                  (try rw [← Nbq14.out] at hx309_0)
                  cases e309
                  replace hx309_0 := (HB.out.cell (World.block_lt_of_cell? w _ hx309_0)).trans hx309_0
                  replace p309 := eq_true p309
                  replace q309 := eq_true q309
                  go_wp2
                  go_roundg k1
                  case measure => have := HK1.out; omega
                  case rel => exact ⟨(x3_1 ++ (⟨#[110, 111, 116, 32]⟩ : ByteArray)), (x4_1), (x5_1), (wrap64 (x6_1 + 1)), (by first | rfl | (simp; done) | (simp [*]; done)), (by first | rfl | (simp; done) | (simp [*]; done)), (by first | rfl | (simp; done) | (simp [*]; done)), (by first | rfl | (simp; done) | (simp [*]; done)), H', ⟨by have := HK1.out; omega⟩, ⟨by repeat (first | (with_reducible first | exact HB.out | apply below_alloc | apply pw_below_drewN | apply below_drew1) | exact HB.out)⟩⟩
                · rw [if_neg c16] at H
                  exact absurd H (by simp)
              · replace c15 := Bool.eq_false_iff.mpr c15
                subst c15
                have H1 : (if x3_1.size + 2 ≤ 9223372036854775807 then (if x4_1.size + 2 ≤ 9223372036854775807 then (parapetlaw20_ParseDeep.l0 k1 l0 (x3_1 ++ (⟨#[40, 32]⟩ : ByteArray)) (x4_1 ++ (⟨#[32, 41]⟩ : ByteArray)) x5_1 (wrap64 (x6_1 + 1))) else (none)) else (none)) = some r := by rw [if_neg (show ¬ (false = true) by decide)] at H; exact H
                clear H
                have H := H1
                clear H1
                by_cases c17 : x3_1.size + 2 ≤ 9223372036854775807
                · rw [if_pos c17] at H
                  have c17b0 := eq_true c17
                  have c17b1 : decide (x3_1.size + 2 ≤ 9223372036854775807) = true := decide_eq_true c17
                  try have c17b2 : (9223372036854775807 < x3_1.size + 2) = False := eq_false (Nat.not_lt.2 c17)
                  by_cases c18 : x4_1.size + 2 ≤ 9223372036854775807
                  · rw [if_pos c18] at H
                    have c18b0 := eq_true c18
                    have c18b1 : decide (x4_1.size + 2 ≤ 9223372036854775807) = true := decide_eq_true c18
                    try have c18b2 : (9223372036854775807 < x4_1.size + 2) = False := eq_false (Nat.not_lt.2 c18)
                    have H' := Aside0.mk H
                    clear H
                    have p309 : 0 ≤ (x6_1 : Int) := of_decide_eq_true (by first | (with_reducible assumption) | assumption)
                    have q309 : x6_1 < (l0.length : Int) := of_decide_eq_true (by first | (with_reducible assumption) | assumption)
                    obtain ⟨ad309, e309, hx309_0⟩ := Kd.at_bool HR0.out x6_1 p309 q309
                    (try rw [← Nbq14.out] at hx309_0)
                    cases e309
                    replace hx309_0 := (HB.out.cell (World.block_lt_of_cell? w _ hx309_0)).trans hx309_0
                    replace p309 := eq_true p309
                    replace q309 := eq_true q309
                    go_wp2
                    go_roundg k1
                    case measure => have := HK1.out; omega
                    case rel => exact ⟨(x3_1 ++ (⟨#[40, 32]⟩ : ByteArray)), (x4_1 ++ (⟨#[32, 41]⟩ : ByteArray)), (x5_1), (wrap64 (x6_1 + 1)), (by first | rfl | (simp; done) | (simp [*]; done)), (by first | rfl | (simp; done) | (simp [*]; done)), (by first | rfl | (simp; done) | (simp [*]; done)), (by first | rfl | (simp; done) | (simp [*]; done)), H', ⟨by have := HK1.out; omega⟩, ⟨by repeat (first | (with_reducible first | exact HB.out | apply below_alloc | apply pw_below_drewN | apply below_drew1) | exact HB.out)⟩⟩
                  · rw [if_neg c18] at H
                    exact absurd H (by simp)
                · rw [if_neg c17] at H
                  exact absurd H (by simp)
            · rw [if_neg c13] at H
              exact absurd H (by simp)
        · rw [if_neg c5] at H
          have c5b0 : decide (x6_1 < (l0.length : Int)) = false := decide_eq_false c5
          clear c5
          by_cases c19 : x3_1.size + 4 ≤ 9223372036854775807
          · rw [if_pos c19] at H
            have c19b0 := eq_true c19
            have c19b1 : decide (x3_1.size + 4 ≤ 9223372036854775807) = true := decide_eq_true c19
            try have c19b2 : (9223372036854775807 < x3_1.size + 4) = False := eq_false (Nat.not_lt.2 c19)
            by_cases c20 : (x3_1 ++ (⟨#[99, 111, 114, 115]⟩ : ByteArray)).size + x4_1.size ≤ 9223372036854775807
            · rw [if_pos c20] at H
              have c20b0 := eq_true c20
              have c20b1 : decide ((x3_1 ++ (⟨#[99, 111, 114, 115]⟩ : ByteArray)).size + x4_1.size ≤ 9223372036854775807) = true := decide_eq_true c20
              have c20z := c20
              (try simp only [ByteArray.size_append, show (⟨#[99, 111, 114, 115]⟩ : ByteArray).size = 4 from rfl] at c20z)
              have c20z0 := eq_true c20z
              have c20z1 := decide_eq_true c20z
              try have c20z2 := eq_false (Nat.not_lt.2 c20z)
              try have c20b2 : (9223372036854775807 < (x3_1 ++ (⟨#[99, 111, 114, 115]⟩ : ByteArray)).size + x4_1.size) = False := eq_false (Nat.not_lt.2 c20)
              by_cases c21 : ((x3_1 ++ (⟨#[99, 111, 114, 115]⟩ : ByteArray)) ++ x4_1).size + 1 ≤ 9223372036854775807
              · rw [if_pos c21] at H
                have c21b0 := eq_true c21
                have c21b1 : decide (((x3_1 ++ (⟨#[99, 111, 114, 115]⟩ : ByteArray)) ++ x4_1).size + 1 ≤ 9223372036854775807) = true := decide_eq_true c21
                have c21z := c21
                (try simp only [ByteArray.size_append, show (⟨#[99, 111, 114, 115]⟩ : ByteArray).size = 4 from rfl] at c21z)
                have c21z0 := eq_true c21z
                have c21z1 := decide_eq_true c21z
                try have c21z2 := eq_false (Nat.not_lt.2 c21z)
                try have c21b2 : (9223372036854775807 < ((x3_1 ++ (⟨#[99, 111, 114, 115]⟩ : ByteArray)) ++ x4_1).size + 1) = False := eq_false (Nat.not_lt.2 c21)
                replace H := Option.bind_eq_some_iff.mp H
                obtain ⟨⟨t310, t313, t316, t317, t320, t321, t322⟩, A220, H⟩ := H
                replace H : (if (l0.length : Int) > 30 then (if (t321 == 2 && (t322 == x5_1)) = true then ((parapetlaw20_awake.f k1).bind fun t325 => (some t325)) else (some false)) else (parapetlaw20_ParseDeep.l1 k1 l0 1 0 t310 t313 t316 t317 t320 t321 t322)) = some r := H
                have A22 := Aside0.mk A220
                clear A220
                by_cases c23 : (l0.length : Int) > 30
                · rw [if_pos c23] at H
                  have c23b0 : decide (30 < (l0.length : Int)) = true := decide_eq_true c23
                  have c23b1 : decide (30 < l0.length) = true := decide_eq_true (by omega)
                  clear c23
                  by_cases c24 : (t321 == 2 && (t322 == x5_1)) = true
                  · rw [if_pos c24] at H
                    have c24b0 : (t321 == 2 && (t322 == x5_1)) = true := c24
                    (try (have c24b1 : decide (t321 = 2 && (t322 == x5_1)) = true := by simpa using c24))
                    (try (have c24b2 : (t321 == 2 && (t322 == x5_1)) = true := by simpa using c24))
                    clear c24
                    replace H := Option.bind_eq_some_iff.mp H
                    obtain ⟨t325, A250, H⟩ := H
                    replace H : (some t325) = some r := H
                    have A25 := Aside0.mk A250
                    clear A250
                    obtain rfl := Option.some.inj H
                    go_wp2_with (first | ((with_reducible refine gate_callee (f := 12) rfl ?_); refine goesL_ (some 41) rfl rfl Tryd.func12 (by kernel_rfl) rfl #[.string (((x3_1 ++ (⟨#[99, 111, 114, 115]⟩ : ByteArray)) ++ x4_1) ++ (⟨#[59]⟩ : ByteArray))] rfl (by (try simp only [List.map_toArray, List.map_cons, List.map_nil]); first | done | rfl | (simp only [List.length_drop, List.length_take]; rfl)) ?_; (with_reducible refine (parse_Policy.calls k1 (((x3_1 ++ (⟨#[99, 111, 114, 115]⟩ : ByteArray)) ++ x4_1) ++ (⟨#[59]⟩ : ByteArray)) t310 t313 t316 t317 t320 t321 t322 _ ?side1 A22.out).mono ?_); (case side1 => (first | (with_reducible exact HLD.out) | exact Laid.below HLD.out (by repeat (first | (with_reducible first | exact HB.out | apply below_alloc | apply pw_below_drewN | apply below_drew1) | exact HB.out)))); rintro e w26 ⟨v311, v314, v318, rfl, ho0, ho1, ho2, hb⟩; refine ⟨_, rfl, ?_⟩; have n0_ := Aside0.mk (Kd.R_lower ho0 (below_size (by repeat (first | (with_reducible first | exact HB.out | apply below_alloc | apply pw_below_drewN | apply below_drew1) | exact HB.out)))); have n1_ := Aside0.mk (Kd.R_lower ho1 (below_size (by repeat (first | (with_reducible first | exact HB.out | apply below_alloc | apply pw_below_drewN | apply below_drew1) | exact HB.out)))); have n2_ := Aside0.mk (Kd.R_lower ho2 (below_size (by repeat (first | (with_reducible first | exact HB.out | apply below_alloc | apply pw_below_drewN | apply below_drew1) | exact HB.out)))); have n3_ := Aside0.mk (below_step (by repeat (first | (with_reducible first | exact HB.out | apply below_alloc | apply pw_below_drewN | apply below_drew1) | exact HB.out)) hb); clear HB; have HO312 := n0_; have HO315 := n1_; have HO319 := n2_; have HB := n3_; clear n0_ n1_ n2_ n3_; (try clear hb); (try clear hb2); (try clear hk); (try clear hi); (try clear ho0); (try clear ho1); (try clear ho2)) | ((with_reducible refine gate_dst (N := 7) rfl ?_); (try (refine gate_guard (by rfl) ?_; dsimp only)); refine box_event ?hg (N := 7) ?hd (cs := #[.slice none 0 0, .slice none 0 0, .string (⟨#[]⟩ : ByteArray), .slice none 0 0, .bool false]) (t := 27) ?hr ?_; (case hd => rfl); (case hg => rfl); (case hr => first | (go_simp; done) | (go_simp; rfl)); intro gb323 hg w27 hbox hb; have n0_ := Aside0.mk (Kd.R_below (by (with_reducible repeat (first | apply Kd.R_alloc | apply Kd.R_drewN | apply Kd.R_drew)); exact HO312.out) hb); have n1_ := Aside0.mk (Kd.R_below (by (with_reducible repeat (first | apply Kd.R_alloc | apply Kd.R_drewN | apply Kd.R_drew)); exact HO315.out) hb); have n2_ := Aside0.mk (Kd.R_below (by (with_reducible repeat (first | apply Kd.R_alloc | apply Kd.R_drewN | apply Kd.R_drew)); exact HO319.out) hb); have n3_ := Aside0.mk (below_step (by repeat (first | (with_reducible first | exact HB.out | apply below_alloc | apply pw_below_drewN | apply below_drew1) | exact HB.out)) hb); have n4_ := Aside0.mk (hbox); have n5_ := Aside0.mk ((by rw [hg]; exact (below_size (by repeat (first | (with_reducible first | exact HB.out | apply below_alloc | apply pw_below_drewN | apply below_drew1) | exact HB.out))) : w.heap.size ≤ gb323)); have n6_ := Aside0.mk ((by rw [hg]; exact (below_size (by repeat (first | (with_reducible first | exact HB.out | apply below_alloc | apply pw_below_drewN | apply below_drew1) | exact HB.out))) : w.heap.size ≤ gb323)); clear HO312; clear HO315; clear HO319; clear HB; have HO312 := n0_; have HO315 := n1_; have HO319 := n2_; have HB := n3_; have BK323 := n4_; have GW323 := n5_; have GE323 := n6_; clear n0_ n1_ n2_ n3_ n4_ n5_ n6_; clear hb hbox hg) | ((with_reducible refine gate_dst (N := 8) rfl ?_); (try (refine gate_guard (by rfl) ?_; dsimp only)); refine box_event ?hg (N := 8) ?hd (cs := #[.int .i64 0, .int .i64 0]) (t := 30) ?hr ?_; (case hd => rfl); (case hg => rfl); (case hr => first | (go_simp; done) | (go_simp; rfl)); intro gb324 hg w28 hbox hb; have n0_ := Aside0.mk (Kd.R_below (by (with_reducible repeat (first | apply Kd.R_alloc | apply Kd.R_drewN | apply Kd.R_drew)); exact HO312.out) hb); have n1_ := Aside0.mk (Kd.R_below (by (with_reducible repeat (first | apply Kd.R_alloc | apply Kd.R_drewN | apply Kd.R_drew)); exact HO315.out) hb); have n2_ := Aside0.mk (Kd.R_below (by (with_reducible repeat (first | apply Kd.R_alloc | apply Kd.R_drewN | apply Kd.R_drew)); exact HO319.out) hb); have n3_ := Aside0.mk (blk_below (g := gb323) (o := .cells #[.slice none 0 0, .slice none 0 0, .string (⟨#[]⟩ : ByteArray), .slice none 0 0, .bool false] 27 (0, 0)) (by (with_reducible repeat (first | refine blk_drewN ?_ _ | refine blk_drew ?_ | refine blk_alloc ?_ _)); exact BK323.out) hb); have n4_ := Aside0.mk (below_step (by repeat (first | (with_reducible first | exact HB.out | apply below_alloc | apply pw_below_drewN | apply below_drew1 | refine below_set ?_ GE323.out) | exact HB.out)) hb); have n5_ := Aside0.mk (hbox); have n6_ := Aside0.mk ((by rw [hg]; exact (below_size (by repeat (first | (with_reducible first | exact HB.out | apply below_alloc | apply pw_below_drewN | apply below_drew1 | refine below_set ?_ GE323.out) | exact HB.out))) : w.heap.size ≤ gb324)); have n7_ := Aside0.mk ((by rw [hg]; exact (below_size (by repeat (first | (with_reducible first | exact HB.out | apply below_alloc | apply pw_below_drewN | apply below_drew1 | refine below_set ?_ GE323.out) | exact HB.out))) : w.heap.size ≤ gb324)); have n8_ := Aside0.mk ((by rw [hg]; exact Nat.ne_of_lt (blk_lt (g := gb323) (o := .cells #[.slice none 0 0, .slice none 0 0, .string (⟨#[]⟩ : ByteArray), .slice none 0 0, .bool false] 27 (0, 0)) (by (with_reducible repeat (first | refine blk_drewN ?_ _ | refine blk_drew ?_ | refine blk_alloc ?_ _)); exact BK323.out)) : gb323 ≠ gb324)); have n9_ := Aside0.mk ((by rw [hg]; exact Nat.ne_of_gt (blk_lt (g := gb323) (o := .cells #[.slice none 0 0, .slice none 0 0, .string (⟨#[]⟩ : ByteArray), .slice none 0 0, .bool false] 27 (0, 0)) (by (with_reducible repeat (first | refine blk_drewN ?_ _ | refine blk_drew ?_ | refine blk_alloc ?_ _)); exact BK323.out)) : gb324 ≠ gb323)); clear HO312; clear HO315; clear HO319; clear BK323; clear HB; have HO312 := n0_; have HO315 := n1_; have HO319 := n2_; have BK323 := n3_; have HB := n4_; have BK324 := n5_; have GW324 := n6_; have GE324 := n7_; have NB323_324 := n8_; have NB324_323 := n9_; clear n0_ n1_ n2_ n3_ n4_ n5_ n6_ n7_ n8_ n9_; clear hb hbox hg; obtain ⟨Ao29, co29, eo29⟩ := Kd.R_slice HO312.out; subst eo29; have hnb30 := NB323_324.out; have hnc30 := NB324_323.out; have hcz31_0 : w28.cell? ⟨gb323, 0, none⟩ = some (.slice none 0 0) := (blk_cell BK323.out 0).trans rfl; have hcz31_1 : w28.cell? ⟨gb323, 1, none⟩ = some (.slice none 0 0) := (blk_cell BK323.out 1).trans rfl; have hcz31_2 : w28.cell? ⟨gb323, 2, none⟩ = some (.string (⟨#[]⟩ : ByteArray)) := (blk_cell BK323.out 2).trans rfl; have hcz31_3 : w28.cell? ⟨gb323, 3, none⟩ = some (.slice none 0 0) := (blk_cell BK323.out 3).trans rfl; have hcz31_4 : w28.cell? ⟨gb323, 4, none⟩ = some (.bool false) := (blk_cell BK323.out 4).trans rfl; have hfz31_0 := blk_frozen BK323.out 0; have hfz31_1 := blk_frozen BK323.out 1; have hfz31_2 := blk_frozen BK323.out 2; have hfz31_3 := blk_frozen BK323.out 3; have hfz31_4 := blk_frozen BK323.out 4; obtain ⟨Ao32, co32, eo32⟩ := Kd.R_slice HO315.out; subst eo32; obtain ⟨Ao33, co33, eo33⟩ := Kd.R_slice HO319.out; subst eo33; have hcz34_0 : w28.cell? ⟨gb324, 0, none⟩ = some (.int .i64 0) := (blk_cell BK324.out 0).trans rfl; have hcz34_1 : w28.cell? ⟨gb324, 1, none⟩ = some (.int .i64 0) := (blk_cell BK324.out 1).trans rfl; have hfz34_0 := blk_frozen BK324.out 0; have hfz34_1 := blk_frozen BK324.out 1) | (go_at_call 11; (with_reducible refine (parapetlaw20_awake.calls k1  t325 _ ?side1 A25.out).mono ?_); (case side1 => (first | (with_reducible exact HLD.out) | exact Laid.below HLD.out (by repeat (first | (with_reducible first | exact HB.out | apply below_alloc | apply pw_below_drewN | apply below_drew1 | refine below_set ?_ GE323.out | refine below_set ?_ GE324.out) | exact HB.out)))); rintro e w35 ⟨rfl, hb⟩; have n0_ := Aside0.mk (Kd.R_below (by (with_reducible repeat (first | apply Kd.R_alloc | apply Kd.R_drewN | apply Kd.R_drew)); exact (Kd.R_mono (Kd.R_mono (Kd.R_far (p := ⟨gb324, 1, none⟩) (Kd.R_far (p := ⟨gb324, 0, none⟩) (Kd.R_far (p := ⟨gb323, 4, none⟩) (Kd.R_far (p := ⟨gb323, 3, none⟩) (Kd.R_far (p := ⟨gb323, 2, none⟩) (Kd.R_far (p := ⟨gb323, 1, none⟩) (Kd.R_far (p := ⟨gb323, 0, none⟩) (Kd.R_types (Kd.R_types HO312.out BK323.out (by decide)) BK324.out (by decide)) (fun _ hk => hk.1.2) (.slice Ao29 t310.length co29)) (fun _ hk => hk.1.2) (.slice Ao32 t313.length co32)) (fun _ hk => hk.1.2) (.string t316)) (fun _ hk => hk.1.2) (.slice Ao33 t317.length co33)) (fun _ hk => hk.1.2) (.bool t320)) (fun _ hk => hk.2) (.int .i64 t321)) (fun _ hk => hk.2) (.int .i64 t322)) (fun _ h_ => h_.1)) (fun _ h_ => h_.1))) hb); have n1_ := Aside0.mk (Kd.R_below (by (with_reducible repeat (first | apply Kd.R_alloc | apply Kd.R_drewN | apply Kd.R_drew)); exact (Kd.R_mono (Kd.R_mono (Kd.R_far (p := ⟨gb324, 1, none⟩) (Kd.R_far (p := ⟨gb324, 0, none⟩) (Kd.R_far (p := ⟨gb323, 4, none⟩) (Kd.R_far (p := ⟨gb323, 3, none⟩) (Kd.R_far (p := ⟨gb323, 2, none⟩) (Kd.R_far (p := ⟨gb323, 1, none⟩) (Kd.R_far (p := ⟨gb323, 0, none⟩) (Kd.R_types (Kd.R_types HO315.out BK323.out (by decide)) BK324.out (by decide)) (fun _ hk => hk.1.2) (.slice Ao29 t310.length co29)) (fun _ hk => hk.1.2) (.slice Ao32 t313.length co32)) (fun _ hk => hk.1.2) (.string t316)) (fun _ hk => hk.1.2) (.slice Ao33 t317.length co33)) (fun _ hk => hk.1.2) (.bool t320)) (fun _ hk => hk.2) (.int .i64 t321)) (fun _ hk => hk.2) (.int .i64 t322)) (fun _ h_ => h_.1)) (fun _ h_ => h_.1))) hb); have n2_ := Aside0.mk (Kd.R_below (by (with_reducible repeat (first | apply Kd.R_alloc | apply Kd.R_drewN | apply Kd.R_drew)); exact (Kd.R_mono (Kd.R_mono (Kd.R_far (p := ⟨gb324, 1, none⟩) (Kd.R_far (p := ⟨gb324, 0, none⟩) (Kd.R_far (p := ⟨gb323, 4, none⟩) (Kd.R_far (p := ⟨gb323, 3, none⟩) (Kd.R_far (p := ⟨gb323, 2, none⟩) (Kd.R_far (p := ⟨gb323, 1, none⟩) (Kd.R_far (p := ⟨gb323, 0, none⟩) (Kd.R_types (Kd.R_types HO319.out BK323.out (by decide)) BK324.out (by decide)) (fun _ hk => hk.1.2) (.slice Ao29 t310.length co29)) (fun _ hk => hk.1.2) (.slice Ao32 t313.length co32)) (fun _ hk => hk.1.2) (.string t316)) (fun _ hk => hk.1.2) (.slice Ao33 t317.length co33)) (fun _ hk => hk.1.2) (.bool t320)) (fun _ hk => hk.2) (.int .i64 t321)) (fun _ hk => hk.2) (.int .i64 t322)) (fun _ h_ => h_.1)) (fun _ h_ => h_.1))) hb); have n3_ := Aside0.mk (blk_below (g := gb323) (o := .cells #[.slice Ao29 t310.length co29, .slice Ao32 t313.length co32, .string t316, .slice Ao33 t317.length co33, .bool t320] 27 (0, 0)) (by (with_reducible repeat (first | refine blk_drewN ?_ _ | refine blk_drew ?_ | refine blk_alloc ?_ _)); refine blk_far ?_ NB323_324.out _; (with_reducible repeat (first | refine blk_drewN ?_ _ | refine blk_drew ?_ | refine blk_alloc ?_ _)); refine blk_far ?_ NB323_324.out _; (with_reducible repeat (first | refine blk_drewN ?_ _ | refine blk_drew ?_ | refine blk_alloc ?_ _)); refine blk_put (cs := #[.slice Ao29 t310.length co29, .slice Ao32 t313.length co32, .string t316, .slice Ao33 t317.length co33, .bool false]) ?_ 4 _ rfl; (with_reducible repeat (first | refine blk_drewN ?_ _ | refine blk_drew ?_ | refine blk_alloc ?_ _)); refine blk_put (cs := #[.slice Ao29 t310.length co29, .slice Ao32 t313.length co32, .string t316, .slice none 0 0, .bool false]) ?_ 3 _ rfl; (with_reducible repeat (first | refine blk_drewN ?_ _ | refine blk_drew ?_ | refine blk_alloc ?_ _)); refine blk_put (cs := #[.slice Ao29 t310.length co29, .slice Ao32 t313.length co32, .string (⟨#[]⟩ : ByteArray), .slice none 0 0, .bool false]) ?_ 2 _ rfl; (with_reducible repeat (first | refine blk_drewN ?_ _ | refine blk_drew ?_ | refine blk_alloc ?_ _)); refine blk_put (cs := #[.slice Ao29 t310.length co29, .slice none 0 0, .string (⟨#[]⟩ : ByteArray), .slice none 0 0, .bool false]) ?_ 1 _ rfl; (with_reducible repeat (first | refine blk_drewN ?_ _ | refine blk_drew ?_ | refine blk_alloc ?_ _)); refine blk_put (cs := #[.slice none 0 0, .slice none 0 0, .string (⟨#[]⟩ : ByteArray), .slice none 0 0, .bool false]) ?_ 0 _ rfl; (with_reducible repeat (first | refine blk_drewN ?_ _ | refine blk_drew ?_ | refine blk_alloc ?_ _)); exact BK323.out) hb); have n4_ := Aside0.mk (blk_below (g := gb324) (o := .cells #[.int .i64 t321, .int .i64 t322] 30 (0, 0)) (by (with_reducible repeat (first | refine blk_drewN ?_ _ | refine blk_drew ?_ | refine blk_alloc ?_ _)); refine blk_put (cs := #[.int .i64 t321, .int .i64 0]) ?_ 1 _ rfl; (with_reducible repeat (first | refine blk_drewN ?_ _ | refine blk_drew ?_ | refine blk_alloc ?_ _)); refine blk_put (cs := #[.int .i64 0, .int .i64 0]) ?_ 0 _ rfl; (with_reducible repeat (first | refine blk_drewN ?_ _ | refine blk_drew ?_ | refine blk_alloc ?_ _)); refine blk_far ?_ NB324_323.out _; (with_reducible repeat (first | refine blk_drewN ?_ _ | refine blk_drew ?_ | refine blk_alloc ?_ _)); refine blk_far ?_ NB324_323.out _; (with_reducible repeat (first | refine blk_drewN ?_ _ | refine blk_drew ?_ | refine blk_alloc ?_ _)); refine blk_far ?_ NB324_323.out _; (with_reducible repeat (first | refine blk_drewN ?_ _ | refine blk_drew ?_ | refine blk_alloc ?_ _)); refine blk_far ?_ NB324_323.out _; (with_reducible repeat (first | refine blk_drewN ?_ _ | refine blk_drew ?_ | refine blk_alloc ?_ _)); refine blk_far ?_ NB324_323.out _; (with_reducible repeat (first | refine blk_drewN ?_ _ | refine blk_drew ?_ | refine blk_alloc ?_ _)); exact BK324.out) hb); have n5_ := Aside0.mk (below_step (by repeat (first | (with_reducible first | exact HB.out | apply below_alloc | apply pw_below_drewN | apply below_drew1 | refine below_set ?_ GE323.out | refine below_set ?_ GE324.out) | exact HB.out)) hb); clear HO312; clear HO315; clear HO319; clear BK323; clear BK324; clear HB; have HO312 := n0_; have HO315 := n1_; have HO319 := n2_; have BK323 := n3_; have BK324 := n4_; have HB := n5_; clear n0_ n1_ n2_ n3_ n4_ n5_; (try clear hb); (try clear hb2); (try clear hk); (try clear hi)))
                    go_ret
                    exact ⟨by first | rfl | (simp [errW_none, errW_some] <;> rfl) | (simp [*, errW_none, errW_some] <;> rfl), by repeat (first | (with_reducible first | exact HB.out | apply below_alloc | apply pw_below_drewN | apply below_drew1 | refine below_set ?_ GE323.out | refine below_set ?_ GE324.out) | exact HB.out)⟩
                  · rw [if_neg c24] at H
                    have c24b0 : (t321 == 2 && (t322 == x5_1)) = false := by simpa using c24
                    (try (have c24b1 : decide (t321 = 2 && (t322 == x5_1)) = false := by simpa using c24))
                    (try (have c24b2 : (t321 == 2 && (t322 == x5_1)) = false := by simpa using c24))
                    (try (have c24b3 : ¬ (t321 = 2 && (t322 == x5_1)) := by simpa using c24))
                    clear c24
                    obtain rfl := Option.some.inj H
                    go_wp2_with (first | ((with_reducible refine gate_callee (f := 12) rfl ?_); refine goesL_ (some 41) rfl rfl Tryd.func12 (by kernel_rfl) rfl #[.string (((x3_1 ++ (⟨#[99, 111, 114, 115]⟩ : ByteArray)) ++ x4_1) ++ (⟨#[59]⟩ : ByteArray))] rfl (by (try simp only [List.map_toArray, List.map_cons, List.map_nil]); first | done | rfl | (simp only [List.length_drop, List.length_take]; rfl)) ?_; (with_reducible refine (parse_Policy.calls k1 (((x3_1 ++ (⟨#[99, 111, 114, 115]⟩ : ByteArray)) ++ x4_1) ++ (⟨#[59]⟩ : ByteArray)) t310 t313 t316 t317 t320 t321 t322 _ ?side1 A22.out).mono ?_); (case side1 => (first | (with_reducible exact HLD.out) | exact Laid.below HLD.out (by repeat (first | (with_reducible first | exact HB.out | apply below_alloc | apply pw_below_drewN | apply below_drew1) | exact HB.out)))); rintro e w36 ⟨v311, v314, v318, rfl, ho0, ho1, ho2, hb⟩; refine ⟨_, rfl, ?_⟩; have n0_ := Aside0.mk (Kd.R_lower ho0 (below_size (by repeat (first | (with_reducible first | exact HB.out | apply below_alloc | apply pw_below_drewN | apply below_drew1) | exact HB.out)))); have n1_ := Aside0.mk (Kd.R_lower ho1 (below_size (by repeat (first | (with_reducible first | exact HB.out | apply below_alloc | apply pw_below_drewN | apply below_drew1) | exact HB.out)))); have n2_ := Aside0.mk (Kd.R_lower ho2 (below_size (by repeat (first | (with_reducible first | exact HB.out | apply below_alloc | apply pw_below_drewN | apply below_drew1) | exact HB.out)))); have n3_ := Aside0.mk (below_step (by repeat (first | (with_reducible first | exact HB.out | apply below_alloc | apply pw_below_drewN | apply below_drew1) | exact HB.out)) hb); clear HB; have HO312 := n0_; have HO315 := n1_; have HO319 := n2_; have HB := n3_; clear n0_ n1_ n2_ n3_; (try clear hb); (try clear hb2); (try clear hk); (try clear hi); (try clear ho0); (try clear ho1); (try clear ho2)) | ((with_reducible refine gate_dst (N := 7) rfl ?_); (try (refine gate_guard (by rfl) ?_; dsimp only)); refine box_event ?hg (N := 7) ?hd (cs := #[.slice none 0 0, .slice none 0 0, .string (⟨#[]⟩ : ByteArray), .slice none 0 0, .bool false]) (t := 27) ?hr ?_; (case hd => rfl); (case hg => rfl); (case hr => first | (go_simp; done) | (go_simp; rfl)); intro gb323 hg w37 hbox hb; have n0_ := Aside0.mk (Kd.R_below (by (with_reducible repeat (first | apply Kd.R_alloc | apply Kd.R_drewN | apply Kd.R_drew)); exact HO312.out) hb); have n1_ := Aside0.mk (Kd.R_below (by (with_reducible repeat (first | apply Kd.R_alloc | apply Kd.R_drewN | apply Kd.R_drew)); exact HO315.out) hb); have n2_ := Aside0.mk (Kd.R_below (by (with_reducible repeat (first | apply Kd.R_alloc | apply Kd.R_drewN | apply Kd.R_drew)); exact HO319.out) hb); have n3_ := Aside0.mk (below_step (by repeat (first | (with_reducible first | exact HB.out | apply below_alloc | apply pw_below_drewN | apply below_drew1) | exact HB.out)) hb); have n4_ := Aside0.mk (hbox); have n5_ := Aside0.mk ((by rw [hg]; exact (below_size (by repeat (first | (with_reducible first | exact HB.out | apply below_alloc | apply pw_below_drewN | apply below_drew1) | exact HB.out))) : w.heap.size ≤ gb323)); have n6_ := Aside0.mk ((by rw [hg]; exact (below_size (by repeat (first | (with_reducible first | exact HB.out | apply below_alloc | apply pw_below_drewN | apply below_drew1) | exact HB.out))) : w.heap.size ≤ gb323)); clear HO312; clear HO315; clear HO319; clear HB; have HO312 := n0_; have HO315 := n1_; have HO319 := n2_; have HB := n3_; have BK323 := n4_; have GW323 := n5_; have GE323 := n6_; clear n0_ n1_ n2_ n3_ n4_ n5_ n6_; clear hb hbox hg) | ((with_reducible refine gate_dst (N := 8) rfl ?_); (try (refine gate_guard (by rfl) ?_; dsimp only)); refine box_event ?hg (N := 8) ?hd (cs := #[.int .i64 0, .int .i64 0]) (t := 30) ?hr ?_; (case hd => rfl); (case hg => rfl); (case hr => first | (go_simp; done) | (go_simp; rfl)); intro gb324 hg w38 hbox hb; have n0_ := Aside0.mk (Kd.R_below (by (with_reducible repeat (first | apply Kd.R_alloc | apply Kd.R_drewN | apply Kd.R_drew)); exact HO312.out) hb); have n1_ := Aside0.mk (Kd.R_below (by (with_reducible repeat (first | apply Kd.R_alloc | apply Kd.R_drewN | apply Kd.R_drew)); exact HO315.out) hb); have n2_ := Aside0.mk (Kd.R_below (by (with_reducible repeat (first | apply Kd.R_alloc | apply Kd.R_drewN | apply Kd.R_drew)); exact HO319.out) hb); have n3_ := Aside0.mk (blk_below (g := gb323) (o := .cells #[.slice none 0 0, .slice none 0 0, .string (⟨#[]⟩ : ByteArray), .slice none 0 0, .bool false] 27 (0, 0)) (by (with_reducible repeat (first | refine blk_drewN ?_ _ | refine blk_drew ?_ | refine blk_alloc ?_ _)); exact BK323.out) hb); have n4_ := Aside0.mk (below_step (by repeat (first | (with_reducible first | exact HB.out | apply below_alloc | apply pw_below_drewN | apply below_drew1 | refine below_set ?_ GE323.out) | exact HB.out)) hb); have n5_ := Aside0.mk (hbox); have n6_ := Aside0.mk ((by rw [hg]; exact (below_size (by repeat (first | (with_reducible first | exact HB.out | apply below_alloc | apply pw_below_drewN | apply below_drew1 | refine below_set ?_ GE323.out) | exact HB.out))) : w.heap.size ≤ gb324)); have n7_ := Aside0.mk ((by rw [hg]; exact (below_size (by repeat (first | (with_reducible first | exact HB.out | apply below_alloc | apply pw_below_drewN | apply below_drew1 | refine below_set ?_ GE323.out) | exact HB.out))) : w.heap.size ≤ gb324)); have n8_ := Aside0.mk ((by rw [hg]; exact Nat.ne_of_lt (blk_lt (g := gb323) (o := .cells #[.slice none 0 0, .slice none 0 0, .string (⟨#[]⟩ : ByteArray), .slice none 0 0, .bool false] 27 (0, 0)) (by (with_reducible repeat (first | refine blk_drewN ?_ _ | refine blk_drew ?_ | refine blk_alloc ?_ _)); exact BK323.out)) : gb323 ≠ gb324)); have n9_ := Aside0.mk ((by rw [hg]; exact Nat.ne_of_gt (blk_lt (g := gb323) (o := .cells #[.slice none 0 0, .slice none 0 0, .string (⟨#[]⟩ : ByteArray), .slice none 0 0, .bool false] 27 (0, 0)) (by (with_reducible repeat (first | refine blk_drewN ?_ _ | refine blk_drew ?_ | refine blk_alloc ?_ _)); exact BK323.out)) : gb324 ≠ gb323)); clear HO312; clear HO315; clear HO319; clear BK323; clear HB; have HO312 := n0_; have HO315 := n1_; have HO319 := n2_; have BK323 := n3_; have HB := n4_; have BK324 := n5_; have GW324 := n6_; have GE324 := n7_; have NB323_324 := n8_; have NB324_323 := n9_; clear n0_ n1_ n2_ n3_ n4_ n5_ n6_ n7_ n8_ n9_; clear hb hbox hg; obtain ⟨Ao39, co39, eo39⟩ := Kd.R_slice HO312.out; subst eo39; have hnb40 := NB323_324.out; have hnc40 := NB324_323.out; have hcz41_0 : w38.cell? ⟨gb323, 0, none⟩ = some (.slice none 0 0) := (blk_cell BK323.out 0).trans rfl; have hcz41_1 : w38.cell? ⟨gb323, 1, none⟩ = some (.slice none 0 0) := (blk_cell BK323.out 1).trans rfl; have hcz41_2 : w38.cell? ⟨gb323, 2, none⟩ = some (.string (⟨#[]⟩ : ByteArray)) := (blk_cell BK323.out 2).trans rfl; have hcz41_3 : w38.cell? ⟨gb323, 3, none⟩ = some (.slice none 0 0) := (blk_cell BK323.out 3).trans rfl; have hcz41_4 : w38.cell? ⟨gb323, 4, none⟩ = some (.bool false) := (blk_cell BK323.out 4).trans rfl; have hfz41_0 := blk_frozen BK323.out 0; have hfz41_1 := blk_frozen BK323.out 1; have hfz41_2 := blk_frozen BK323.out 2; have hfz41_3 := blk_frozen BK323.out 3; have hfz41_4 := blk_frozen BK323.out 4; obtain ⟨Ao42, co42, eo42⟩ := Kd.R_slice HO315.out; subst eo42; obtain ⟨Ao43, co43, eo43⟩ := Kd.R_slice HO319.out; subst eo43; have hcz44_0 : w38.cell? ⟨gb324, 0, none⟩ = some (.int .i64 0) := (blk_cell BK324.out 0).trans rfl; have hcz44_1 : w38.cell? ⟨gb324, 1, none⟩ = some (.int .i64 0) := (blk_cell BK324.out 1).trans rfl; have hfz44_0 := blk_frozen BK324.out 0; have hfz44_1 := blk_frozen BK324.out 1))
                    go_ret
                    exact ⟨by first | rfl | (simp [errW_none, errW_some] <;> rfl) | (simp [*, errW_none, errW_some] <;> rfl), by repeat (first | (with_reducible first | exact HB.out | apply below_alloc | apply pw_below_drewN | apply below_drew1 | refine below_set ?_ GE323.out | refine below_set ?_ GE324.out) | exact HB.out)⟩
                · rw [if_neg c23] at H
                  have c23b0 : decide (30 < (l0.length : Int)) = false := decide_eq_false c23
                  have c23b1 : decide (30 < l0.length) = false := decide_eq_false (by omega)
                  clear c23
                  have H' := Aside0.mk H
                  clear H
                  go_wp2_with (first | ((with_reducible refine gate_callee (f := 12) rfl ?_); refine goesL_ (some 41) rfl rfl Tryd.func12 (by kernel_rfl) rfl #[.string (((x3_1 ++ (⟨#[99, 111, 114, 115]⟩ : ByteArray)) ++ x4_1) ++ (⟨#[59]⟩ : ByteArray))] rfl (by (try simp only [List.map_toArray, List.map_cons, List.map_nil]); first | done | rfl | (simp only [List.length_drop, List.length_take]; rfl)) ?_; (with_reducible refine (parse_Policy.calls k1 (((x3_1 ++ (⟨#[99, 111, 114, 115]⟩ : ByteArray)) ++ x4_1) ++ (⟨#[59]⟩ : ByteArray)) t310 t313 t316 t317 t320 t321 t322 _ ?side1 A22.out).mono ?_); (case side1 => (first | (with_reducible exact HLD.out) | exact Laid.below HLD.out (by repeat (first | (with_reducible first | exact HB.out | apply below_alloc | apply pw_below_drewN | apply below_drew1) | exact HB.out)))); rintro e w45 ⟨v311, v314, v318, rfl, ho0, ho1, ho2, hb⟩; refine ⟨_, rfl, ?_⟩; have n0_ := Aside0.mk (Kd.R_lower ho0 (below_size (by repeat (first | (with_reducible first | exact HB.out | apply below_alloc | apply pw_below_drewN | apply below_drew1) | exact HB.out)))); have n1_ := Aside0.mk (Kd.R_lower ho1 (below_size (by repeat (first | (with_reducible first | exact HB.out | apply below_alloc | apply pw_below_drewN | apply below_drew1) | exact HB.out)))); have n2_ := Aside0.mk (Kd.R_lower ho2 (below_size (by repeat (first | (with_reducible first | exact HB.out | apply below_alloc | apply pw_below_drewN | apply below_drew1) | exact HB.out)))); have n3_ := Aside0.mk (below_step (by repeat (first | (with_reducible first | exact HB.out | apply below_alloc | apply pw_below_drewN | apply below_drew1) | exact HB.out)) hb); clear HB; have HO312 := n0_; have HO315 := n1_; have HO319 := n2_; have HB := n3_; clear n0_ n1_ n2_ n3_; (try clear hb); (try clear hb2); (try clear hk); (try clear hi); (try clear ho0); (try clear ho1); (try clear ho2)) | ((with_reducible refine gate_dst (N := 7) rfl ?_); (try (refine gate_guard (by rfl) ?_; dsimp only)); refine box_event ?hg (N := 7) ?hd (cs := #[.slice none 0 0, .slice none 0 0, .string (⟨#[]⟩ : ByteArray), .slice none 0 0, .bool false]) (t := 27) ?hr ?_; (case hd => rfl); (case hg => rfl); (case hr => first | (go_simp; done) | (go_simp; rfl)); intro gb323 hg w46 hbox hb; have n0_ := Aside0.mk (Kd.R_below (by (with_reducible repeat (first | apply Kd.R_alloc | apply Kd.R_drewN | apply Kd.R_drew)); exact HO312.out) hb); have n1_ := Aside0.mk (Kd.R_below (by (with_reducible repeat (first | apply Kd.R_alloc | apply Kd.R_drewN | apply Kd.R_drew)); exact HO315.out) hb); have n2_ := Aside0.mk (Kd.R_below (by (with_reducible repeat (first | apply Kd.R_alloc | apply Kd.R_drewN | apply Kd.R_drew)); exact HO319.out) hb); have n3_ := Aside0.mk (below_step (by repeat (first | (with_reducible first | exact HB.out | apply below_alloc | apply pw_below_drewN | apply below_drew1) | exact HB.out)) hb); have n4_ := Aside0.mk (hbox); have n5_ := Aside0.mk ((by rw [hg]; exact (below_size (by repeat (first | (with_reducible first | exact HB.out | apply below_alloc | apply pw_below_drewN | apply below_drew1) | exact HB.out))) : w.heap.size ≤ gb323)); have n6_ := Aside0.mk ((by rw [hg]; exact (below_size (by repeat (first | (with_reducible first | exact HB.out | apply below_alloc | apply pw_below_drewN | apply below_drew1) | exact HB.out))) : w.heap.size ≤ gb323)); clear HO312; clear HO315; clear HO319; clear HB; have HO312 := n0_; have HO315 := n1_; have HO319 := n2_; have HB := n3_; have BK323 := n4_; have GW323 := n5_; have GE323 := n6_; clear n0_ n1_ n2_ n3_ n4_ n5_ n6_; clear hb hbox hg) | ((with_reducible refine gate_dst (N := 8) rfl ?_); (try (refine gate_guard (by rfl) ?_; dsimp only)); refine box_event ?hg (N := 8) ?hd (cs := #[.int .i64 0, .int .i64 0]) (t := 30) ?hr ?_; (case hd => rfl); (case hg => rfl); (case hr => first | (go_simp; done) | (go_simp; rfl)); intro gb324 hg w47 hbox hb; have n0_ := Aside0.mk (Kd.R_below (by (with_reducible repeat (first | apply Kd.R_alloc | apply Kd.R_drewN | apply Kd.R_drew)); exact HO312.out) hb); have n1_ := Aside0.mk (Kd.R_below (by (with_reducible repeat (first | apply Kd.R_alloc | apply Kd.R_drewN | apply Kd.R_drew)); exact HO315.out) hb); have n2_ := Aside0.mk (Kd.R_below (by (with_reducible repeat (first | apply Kd.R_alloc | apply Kd.R_drewN | apply Kd.R_drew)); exact HO319.out) hb); have n3_ := Aside0.mk (blk_below (g := gb323) (o := .cells #[.slice none 0 0, .slice none 0 0, .string (⟨#[]⟩ : ByteArray), .slice none 0 0, .bool false] 27 (0, 0)) (by (with_reducible repeat (first | refine blk_drewN ?_ _ | refine blk_drew ?_ | refine blk_alloc ?_ _)); exact BK323.out) hb); have n4_ := Aside0.mk (below_step (by repeat (first | (with_reducible first | exact HB.out | apply below_alloc | apply pw_below_drewN | apply below_drew1 | refine below_set ?_ GE323.out) | exact HB.out)) hb); have n5_ := Aside0.mk (hbox); have n6_ := Aside0.mk ((by rw [hg]; exact (below_size (by repeat (first | (with_reducible first | exact HB.out | apply below_alloc | apply pw_below_drewN | apply below_drew1 | refine below_set ?_ GE323.out) | exact HB.out))) : w.heap.size ≤ gb324)); have n7_ := Aside0.mk ((by rw [hg]; exact (below_size (by repeat (first | (with_reducible first | exact HB.out | apply below_alloc | apply pw_below_drewN | apply below_drew1 | refine below_set ?_ GE323.out) | exact HB.out))) : w.heap.size ≤ gb324)); have n8_ := Aside0.mk ((by rw [hg]; exact Nat.ne_of_lt (blk_lt (g := gb323) (o := .cells #[.slice none 0 0, .slice none 0 0, .string (⟨#[]⟩ : ByteArray), .slice none 0 0, .bool false] 27 (0, 0)) (by (with_reducible repeat (first | refine blk_drewN ?_ _ | refine blk_drew ?_ | refine blk_alloc ?_ _)); exact BK323.out)) : gb323 ≠ gb324)); have n9_ := Aside0.mk ((by rw [hg]; exact Nat.ne_of_gt (blk_lt (g := gb323) (o := .cells #[.slice none 0 0, .slice none 0 0, .string (⟨#[]⟩ : ByteArray), .slice none 0 0, .bool false] 27 (0, 0)) (by (with_reducible repeat (first | refine blk_drewN ?_ _ | refine blk_drew ?_ | refine blk_alloc ?_ _)); exact BK323.out)) : gb324 ≠ gb323)); clear HO312; clear HO315; clear HO319; clear BK323; clear HB; have HO312 := n0_; have HO315 := n1_; have HO319 := n2_; have BK323 := n3_; have HB := n4_; have BK324 := n5_; have GW324 := n6_; have GE324 := n7_; have NB323_324 := n8_; have NB324_323 := n9_; clear n0_ n1_ n2_ n3_ n4_ n5_ n6_ n7_ n8_ n9_; clear hb hbox hg; obtain ⟨Ao48, co48, eo48⟩ := Kd.R_slice HO312.out; subst eo48; have hnb49 := NB323_324.out; have hnc49 := NB324_323.out; have hcz50_0 : w47.cell? ⟨gb323, 0, none⟩ = some (.slice none 0 0) := (blk_cell BK323.out 0).trans rfl; have hcz50_1 : w47.cell? ⟨gb323, 1, none⟩ = some (.slice none 0 0) := (blk_cell BK323.out 1).trans rfl; have hcz50_2 : w47.cell? ⟨gb323, 2, none⟩ = some (.string (⟨#[]⟩ : ByteArray)) := (blk_cell BK323.out 2).trans rfl; have hcz50_3 : w47.cell? ⟨gb323, 3, none⟩ = some (.slice none 0 0) := (blk_cell BK323.out 3).trans rfl; have hcz50_4 : w47.cell? ⟨gb323, 4, none⟩ = some (.bool false) := (blk_cell BK323.out 4).trans rfl; have hfz50_0 := blk_frozen BK323.out 0; have hfz50_1 := blk_frozen BK323.out 1; have hfz50_2 := blk_frozen BK323.out 2; have hfz50_3 := blk_frozen BK323.out 3; have hfz50_4 := blk_frozen BK323.out 4; obtain ⟨Ao51, co51, eo51⟩ := Kd.R_slice HO315.out; subst eo51; obtain ⟨Ao52, co52, eo52⟩ := Kd.R_slice HO319.out; subst eo52; have hcz53_0 : w47.cell? ⟨gb324, 0, none⟩ = some (.int .i64 0) := (blk_cell BK324.out 0).trans rfl; have hcz53_1 : w47.cell? ⟨gb324, 1, none⟩ = some (.int .i64 0) := (blk_cell BK324.out 1).trans rfl; have hfz53_0 := blk_frozen BK324.out 0; have hfz53_1 := blk_frozen BK324.out 1))
                  go_loopg [9, 10] k1 (fun kq v9 v10 w' => ∃ (x9_2 : Int) (x10_2 : Int), v9 = .int .i64 x9_2 ∧ v10 = .int .i64 x10_2 ∧ Aside0 (parapetlaw20_ParseDeep.l1 kq l0 x9_2 x10_2 t310 t313 t316 t317 t320 t321 t322 = some r) ∧ Aside0 (kq ≤ k1) ∧ Aside0 (Kd.R Kd.string 9 w' w.heap.size (fun _ => True) (.slice Ao48 t310.length co48) t310) ∧ Aside0 (Kd.R k44 44 w' w.heap.size (fun k_ => some k_ ≠ ((.slice Ao48 t310.length co48) : Value).ownBlock) (.slice Ao51 t313.length co51) t313) ∧ Aside0 (Kd.R k51 51 w' w.heap.size (fun _ => True) (.slice Ao52 t317.length co52) t317) ∧ Aside0 (w'.heap[gb323]? = some (.cells #[(.slice Ao48 t310.length co48), (.slice Ao51 t313.length co51), .string t316, (.slice Ao52 t317.length co52), .bool t320] 27 (0, 0))) ∧ Aside0 (w'.heap[gb324]? = some (.cells #[.int .i64 t321, .int .i64 t322] 30 (0, 0))) ∧ Aside0 (Below w.heap.size w w'))
                  case atStart => exact ⟨(1), (0), (by first | rfl | (simp; done) | (simp [*]; done)), (by first | rfl | (simp; done) | (simp [*]; done)), H', ⟨Nat.le_refl _⟩, ⟨by (with_reducible repeat (first | apply Kd.R_alloc | apply Kd.R_drewN | apply Kd.R_drew)); exact Kd.R_mono (Kd.R_far (p := ⟨gb324, 1, none⟩) (Kd.R_far (p := ⟨gb324, 0, none⟩) (Kd.R_far (p := ⟨gb323, 4, none⟩) (Kd.R_far (p := ⟨gb323, 3, none⟩) (Kd.R_far (p := ⟨gb323, 2, none⟩) (Kd.R_far (p := ⟨gb323, 1, none⟩) (Kd.R_far (p := ⟨gb323, 0, none⟩) (Kd.R_types (Kd.R_types HO312.out BK323.out (by decide)) BK324.out (by decide)) (fun _ hk => hk.1.2) (.slice Ao48 t310.length co48)) (fun _ hk => hk.1.2) (.slice Ao51 t313.length co51)) (fun _ hk => hk.1.2) (.string t316)) (fun _ hk => hk.1.2) (.slice Ao52 t317.length co52)) (fun _ hk => hk.1.2) (.bool t320)) (fun _ hk => hk.2) (.int .i64 t321)) (fun _ hk => hk.2) (.int .i64 t322)) (fun _ hk => trivial)⟩, ⟨by (with_reducible repeat (first | apply Kd.R_alloc | apply Kd.R_drewN | apply Kd.R_drew)); exact Kd.R_mono (Kd.R_far (p := ⟨gb324, 1, none⟩) (Kd.R_far (p := ⟨gb324, 0, none⟩) (Kd.R_far (p := ⟨gb323, 4, none⟩) (Kd.R_far (p := ⟨gb323, 3, none⟩) (Kd.R_far (p := ⟨gb323, 2, none⟩) (Kd.R_far (p := ⟨gb323, 1, none⟩) (Kd.R_far (p := ⟨gb323, 0, none⟩) (Kd.R_types (Kd.R_types HO315.out BK323.out (by decide)) BK324.out (by decide)) (fun _ hk => hk.1.2) (.slice Ao48 t310.length co48)) (fun _ hk => hk.1.2) (.slice Ao51 t313.length co51)) (fun _ hk => hk.1.2) (.string t316)) (fun _ hk => hk.1.2) (.slice Ao52 t317.length co52)) (fun _ hk => hk.1.2) (.bool t320)) (fun _ hk => hk.2) (.int .i64 t321)) (fun _ hk => hk.2) (.int .i64 t322)) (fun _ hk => hk.1.1)⟩, ⟨by (with_reducible repeat (first | apply Kd.R_alloc | apply Kd.R_drewN | apply Kd.R_drew)); exact Kd.R_mono (Kd.R_far (p := ⟨gb324, 1, none⟩) (Kd.R_far (p := ⟨gb324, 0, none⟩) (Kd.R_far (p := ⟨gb323, 4, none⟩) (Kd.R_far (p := ⟨gb323, 3, none⟩) (Kd.R_far (p := ⟨gb323, 2, none⟩) (Kd.R_far (p := ⟨gb323, 1, none⟩) (Kd.R_far (p := ⟨gb323, 0, none⟩) (Kd.R_types (Kd.R_types HO319.out BK323.out (by decide)) BK324.out (by decide)) (fun _ hk => hk.1.2) (.slice Ao48 t310.length co48)) (fun _ hk => hk.1.2) (.slice Ao51 t313.length co51)) (fun _ hk => hk.1.2) (.string t316)) (fun _ hk => hk.1.2) (.slice Ao52 t317.length co52)) (fun _ hk => hk.1.2) (.bool t320)) (fun _ hk => hk.2) (.int .i64 t321)) (fun _ hk => hk.2) (.int .i64 t322)) (fun _ hk => trivial)⟩, ⟨by (with_reducible repeat (first | refine blk_drewN ?_ _ | refine blk_drew ?_ | refine blk_alloc ?_ _)); refine blk_far ?_ NB323_324.out _; (with_reducible repeat (first | refine blk_drewN ?_ _ | refine blk_drew ?_ | refine blk_alloc ?_ _)); refine blk_far ?_ NB323_324.out _; (with_reducible repeat (first | refine blk_drewN ?_ _ | refine blk_drew ?_ | refine blk_alloc ?_ _)); refine blk_put (cs := #[.slice Ao48 t310.length co48, .slice Ao51 t313.length co51, .string t316, .slice Ao52 t317.length co52, .bool false]) ?_ 4 _ rfl; (with_reducible repeat (first | refine blk_drewN ?_ _ | refine blk_drew ?_ | refine blk_alloc ?_ _)); refine blk_put (cs := #[.slice Ao48 t310.length co48, .slice Ao51 t313.length co51, .string t316, .slice none 0 0, .bool false]) ?_ 3 _ rfl; (with_reducible repeat (first | refine blk_drewN ?_ _ | refine blk_drew ?_ | refine blk_alloc ?_ _)); refine blk_put (cs := #[.slice Ao48 t310.length co48, .slice Ao51 t313.length co51, .string (⟨#[]⟩ : ByteArray), .slice none 0 0, .bool false]) ?_ 2 _ rfl; (with_reducible repeat (first | refine blk_drewN ?_ _ | refine blk_drew ?_ | refine blk_alloc ?_ _)); refine blk_put (cs := #[.slice Ao48 t310.length co48, .slice none 0 0, .string (⟨#[]⟩ : ByteArray), .slice none 0 0, .bool false]) ?_ 1 _ rfl; (with_reducible repeat (first | refine blk_drewN ?_ _ | refine blk_drew ?_ | refine blk_alloc ?_ _)); refine blk_put (cs := #[.slice none 0 0, .slice none 0 0, .string (⟨#[]⟩ : ByteArray), .slice none 0 0, .bool false]) ?_ 0 _ rfl; (with_reducible repeat (first | refine blk_drewN ?_ _ | refine blk_drew ?_ | refine blk_alloc ?_ _)); exact BK323.out⟩, ⟨by (with_reducible repeat (first | refine blk_drewN ?_ _ | refine blk_drew ?_ | refine blk_alloc ?_ _)); refine blk_put (cs := #[.int .i64 t321, .int .i64 0]) ?_ 1 _ rfl; (with_reducible repeat (first | refine blk_drewN ?_ _ | refine blk_drew ?_ | refine blk_alloc ?_ _)); refine blk_put (cs := #[.int .i64 0, .int .i64 0]) ?_ 0 _ rfl; (with_reducible repeat (first | refine blk_drewN ?_ _ | refine blk_drew ?_ | refine blk_alloc ?_ _)); refine blk_far ?_ NB324_323.out _; (with_reducible repeat (first | refine blk_drewN ?_ _ | refine blk_drew ?_ | refine blk_alloc ?_ _)); refine blk_far ?_ NB324_323.out _; (with_reducible repeat (first | refine blk_drewN ?_ _ | refine blk_drew ?_ | refine blk_alloc ?_ _)); refine blk_far ?_ NB324_323.out _; (with_reducible repeat (first | refine blk_drewN ?_ _ | refine blk_drew ?_ | refine blk_alloc ?_ _)); refine blk_far ?_ NB324_323.out _; (with_reducible repeat (first | refine blk_drewN ?_ _ | refine blk_drew ?_ | refine blk_alloc ?_ _)); refine blk_far ?_ NB324_323.out _; (with_reducible repeat (first | refine blk_drewN ?_ _ | refine blk_drew ?_ | refine blk_alloc ?_ _)); exact BK324.out⟩, ⟨by repeat (first | (with_reducible first | exact HB.out | apply below_alloc | apply pw_below_drewN | apply below_drew1 | refine below_set ?_ GE323.out | refine below_set ?_ GE324.out) | exact HB.out)⟩⟩
                  case round =>
                    clear H'
                    try clear c1
                    try clear q1
                    try clear c2
                    try clear c2b0
                    try clear c2b1
                    try clear p2
                    try clear c3
                    try clear p3
                    try clear q3
                    try clear hx3
                    try clear c4
                    try clear c5
                    try clear c5b0
                    try clear c6
                    try clear c6b0
                    try clear c6b1
                    try clear p6
                    try clear c7
                    try clear c7b0
                    try clear c8
                    try clear q8
                    try clear c9
                    try clear c10
                    try clear c10b0
                    try clear c10b1
                    try clear c10b2
                    try clear c11
                    try clear c11b0
                    try clear c11b1
                    try clear c11b2
                    try clear c12
                    try clear c12b0
                    try clear c12b1
                    try clear c12b2
                    try clear c13
                    try clear c13b0
                    try clear q14
                    try clear c15
                    try clear c16
                    try clear c16b0
                    try clear c16b1
                    try clear c16b2
                    try clear c17
                    try clear c17b0
                    try clear c17b1
                    try clear c17b2
                    try clear c18
                    try clear c18b0
                    try clear c18b1
                    try clear c18b2
                    try clear c19
                    try clear c19b0
                    try clear c19b1
                    try clear c19b2
                    try clear c20
                    try clear c20b0
                    try clear c20b1
                    try clear c20b2
                    try clear c21
                    try clear c21b0
                    try clear c21b1
                    try clear c21b2
                    try clear c23
                    try clear c23b0
                    try clear c23b1
                    try clear c24
                    try clear c24b0
                    try clear c24b1
                    try clear c24b2
                    try clear c30
                    try clear p30
                    try clear q30
                    try clear hx30
                    try clear c40
                    try clear c49
                    try clear hcz31_0
                    try clear hcz31_1
                    try clear hcz31_2
                    try clear hcz31_3
                    try clear hcz31_4
                    try clear hcz34_0
                    try clear hcz34_1
                    try clear hcz41_0
                    try clear hcz41_1
                    try clear hcz41_2
                    try clear hcz41_3
                    try clear hcz41_4
                    try clear hcz44_0
                    try clear hcz44_1
                    try clear hcz50_0
                    try clear hcz50_1
                    try clear hcz50_2
                    try clear hcz50_3
                    try clear hcz50_4
                    try clear hcz53_0
                    try clear hcz53_1
                    try clear hfz31_0
                    try clear hfz31_1
                    try clear hfz31_2
                    try clear hfz31_3
                    try clear hfz31_4
                    try clear hfz34_0
                    try clear hfz34_1
                    try clear hfz41_0
                    try clear hfz41_1
                    try clear hfz41_2
                    try clear hfz41_3
                    try clear hfz41_4
                    try clear hfz44_0
                    try clear hfz44_1
                    try clear hfz50_0
                    try clear hfz50_1
                    try clear hfz50_2
                    try clear hfz50_3
                    try clear hfz50_4
                    try clear hfz53_0
                    try clear hfz53_1
                    try clear hx308_0
                    try clear hx309_0
                    try clear p2
                    try clear p308
                    try clear p309
                    try clear q308
                    try clear q309
                    obtain ⟨x9_2, x10_2, rfl, rfl, HA, HK2, HO_324000, HO_324001, HO_324003, BK323, BK324, HB⟩ := hrel
                    cases gk with
                    | zero => exact absurd HA.out (by simp [parapetlaw20_ParseDeep.l1])
                    | succ k2 =>
                      have H := HA.out
                      clear HA
                      simp only [parapetlaw20_ParseDeep.l1] at H
                      by_cases c54 : x10_2 < (l0.length : Int)
                      · rw [if_pos c54] at H
                        have c54b0 : decide (x10_2 < (l0.length : Int)) = true := decide_eq_true c54
                        clear c54
                        by_cases c55 : 0 ≤ x10_2
                        · rw [if_pos c55] at H
                          have c55b0 : decide (0 ≤ x10_2) = true := decide_eq_true c55
                          clear c55
                          obtain ⟨bq56, hbq56⟩ : ∃ b_ : Bool, b_ = (rdOf false l0 x10_2) := ⟨_, rfl⟩
                          replace H : (if bq56 = true then (parapetlaw20_ParseDeep.l1 k2 l0 (wrap64 (x9_2 + 1)) (wrap64 (x10_2 + 1)) t310 t313 t316 t317 t320 t321 t322) else (parapetlaw20_ParseDeep.l1 k2 l0 x9_2 (wrap64 (x10_2 + 1)) t310 t313 t316 t317 t320 t321 t322)) = some r := by rw [← hbq56] at H; exact H
                          have Nbq56 := Aside0.mk hbq56
                          clear hbq56
                          by_cases c57 : bq56 = true
                          · subst c57
                            have H1 : (parapetlaw20_ParseDeep.l1 k2 l0 (wrap64 (x9_2 + 1)) (wrap64 (x10_2 + 1)) t310 t313 t316 t317 t320 t321 t322) = some r := by rw [if_pos rfl] at H; exact H
                            clear H
                            have H := H1
                            clear H1
                            have H' := Aside0.mk H
                            clear H
                            have p326 : 0 ≤ (x10_2 : Int) := of_decide_eq_true (by first | (with_reducible assumption) | assumption)
                            have q326 : x10_2 < (l0.length : Int) := of_decide_eq_true (by first | (with_reducible assumption) | assumption)
                            obtain ⟨ad326, e326, hx326_0⟩ := Kd.at_bool HR0.out x10_2 p326 q326
                            (try rw [← Nbq56.out] at hx326_0)
                            cases e326
                            replace hx326_0 := (HB.out.cell (World.block_lt_of_cell? w _ hx326_0)).trans hx326_0
                            replace p326 := eq_true p326
                            replace q326 := eq_true q326
                            go_wp2
                            go_roundg k2
                            case measure => have := HK1.out; have := HK2.out; omega
                            case rel => exact ⟨(wrap64 (x9_2 + 1)), (wrap64 (x10_2 + 1)), (by first | rfl | (simp; done) | (simp [*]; done)), (by first | rfl | (simp; done) | (simp [*]; done)), H', ⟨by have := HK1.out; have := HK2.out; omega⟩, ⟨by (with_reducible repeat (first | apply Kd.R_alloc | apply Kd.R_drewN | apply Kd.R_drew)); exact HO_324000.out⟩, ⟨by (with_reducible repeat (first | apply Kd.R_alloc | apply Kd.R_drewN | apply Kd.R_drew)); exact HO_324001.out⟩, ⟨by (with_reducible repeat (first | apply Kd.R_alloc | apply Kd.R_drewN | apply Kd.R_drew)); exact HO_324003.out⟩, ⟨by (with_reducible repeat (first | refine blk_drewN ?_ _ | refine blk_drew ?_ | refine blk_alloc ?_ _)); exact BK323.out⟩, ⟨by (with_reducible repeat (first | refine blk_drewN ?_ _ | refine blk_drew ?_ | refine blk_alloc ?_ _)); exact BK324.out⟩, ⟨by repeat (first | (with_reducible first | exact HB.out | apply below_alloc | apply pw_below_drewN | apply below_drew1 | refine below_set ?_ GE323.out | refine below_set ?_ GE324.out) | exact HB.out)⟩⟩
                          · replace c57 := Bool.eq_false_iff.mpr c57
                            subst c57
                            have H1 : (parapetlaw20_ParseDeep.l1 k2 l0 x9_2 (wrap64 (x10_2 + 1)) t310 t313 t316 t317 t320 t321 t322) = some r := by rw [if_neg (show ¬ (false = true) by decide)] at H; exact H
                            clear H
                            have H := H1
                            clear H1
                            have H' := Aside0.mk H
                            clear H
                            have p326 : 0 ≤ (x10_2 : Int) := of_decide_eq_true (by first | (with_reducible assumption) | assumption)
                            have q326 : x10_2 < (l0.length : Int) := of_decide_eq_true (by first | (with_reducible assumption) | assumption)
                            obtain ⟨ad326, e326, hx326_0⟩ := Kd.at_bool HR0.out x10_2 p326 q326
                            (try rw [← Nbq56.out] at hx326_0)
                            cases e326
                            replace hx326_0 := (HB.out.cell (World.block_lt_of_cell? w _ hx326_0)).trans hx326_0
                            replace p326 := eq_true p326
                            replace q326 := eq_true q326
                            go_wp2
                            go_roundg k2
                            case measure => have := HK1.out; have := HK2.out; omega
                            case rel => exact ⟨(x9_2), (wrap64 (x10_2 + 1)), (by first | rfl | (simp; done) | (simp [*]; done)), (by first | rfl | (simp; done) | (simp [*]; done)), H', ⟨by have := HK1.out; have := HK2.out; omega⟩, ⟨by (with_reducible repeat (first | apply Kd.R_alloc | apply Kd.R_drewN | apply Kd.R_drew)); exact HO_324000.out⟩, ⟨by (with_reducible repeat (first | apply Kd.R_alloc | apply Kd.R_drewN | apply Kd.R_drew)); exact HO_324001.out⟩, ⟨by (with_reducible repeat (first | apply Kd.R_alloc | apply Kd.R_drewN | apply Kd.R_drew)); exact HO_324003.out⟩, ⟨by (with_reducible repeat (first | refine blk_drewN ?_ _ | refine blk_drew ?_ | refine blk_alloc ?_ _)); exact BK323.out⟩, ⟨by (with_reducible repeat (first | refine blk_drewN ?_ _ | refine blk_drew ?_ | refine blk_alloc ?_ _)); exact BK324.out⟩, ⟨by repeat (first | (with_reducible first | exact HB.out | apply below_alloc | apply pw_below_drewN | apply below_drew1 | refine below_set ?_ GE323.out | refine below_set ?_ GE324.out) | exact HB.out)⟩⟩
                        · rw [if_neg c55] at H
                          exact absurd H (by simp)
                      · rw [if_neg c54] at H
                        have c54b0 : decide (x10_2 < (l0.length : Int)) = false := decide_eq_false c54
                        clear c54
                        by_cases c58 : t321 = 0
                        · rw [if_pos c58] at H
                          have c58b0 : (t321 == 0) = true := beq_iff_eq.mpr c58
                          have c58b1 : (t321 != 0) = false := bne_eq_false_iff_eq.mpr c58
                          clear c58
                          by_cases c59 : (t317.length : Int) = 1
                          · rw [if_pos c59] at H
                            have c59b0 : ((t317.length : Int) == 1) = true := beq_iff_eq.mpr c59
                            have c59b1 : ((t317.length : Int) != 1) = false := bne_eq_false_iff_eq.mpr c59
                            clear c59
                            by_cases c60 : 0 < (t317.length : Int)
                            · rw [if_pos c60] at H
                              have c60b0 : decide (0 < (t317.length : Int)) = true := decide_eq_true c60
                              have c60b1 : decide (0 < t317.length) = true := decide_eq_true (by omega)
                              clear c60
                              replace H := Option.bind_eq_some_iff.mp H
                              obtain ⟨t328, A610, H⟩ := H
                              replace H : (if t328 = x9_2 then ((parapetlaw20_awake.f k2).bind fun t329 => (some t329)) else (some false)) = some r := H
                              have A61 := Aside0.mk A610
                              clear A610
                              by_cases c62 : t328 = x9_2
                              · rw [if_pos c62] at H
                                have c62b0 : (t328 == x9_2) = true := beq_iff_eq.mpr c62
                                have c62b1 : (t328 != x9_2) = false := bne_eq_false_iff_eq.mpr c62
                                clear c62
                                replace H := Option.bind_eq_some_iff.mp H
                                obtain ⟨t329, A630, H⟩ := H
                                replace H : (some t329) = some r := H
                                have A63 := Aside0.mk A630
                                clear A630
                                obtain rfl := Option.some.inj H
                                have hnb64 := NB324_323.out
                                have hnc64 := NB323_324.out
                                have hcz65_0 : wr.cell? ⟨gb324, 0, none⟩ = some (.int .i64 t321) := (blk_cell BK324.out 0).trans rfl
                                have hcz65_1 : wr.cell? ⟨gb324, 1, none⟩ = some (.int .i64 t322) := (blk_cell BK324.out 1).trans rfl
                                have hfz65_0 := blk_frozen BK324.out 0
                                have hfz65_1 := blk_frozen BK324.out 1
                                have hcz66_0 : wr.cell? ⟨gb323, 0, none⟩ = some (.slice Ao48 t310.length co48) := (blk_cell BK323.out 0).trans rfl
                                have hcz66_1 : wr.cell? ⟨gb323, 1, none⟩ = some (.slice Ao51 t313.length co51) := (blk_cell BK323.out 1).trans rfl
                                have hcz66_2 : wr.cell? ⟨gb323, 2, none⟩ = some (.string t316) := (blk_cell BK323.out 2).trans rfl
                                have hcz66_3 : wr.cell? ⟨gb323, 3, none⟩ = some (.slice Ao52 t317.length co52) := (blk_cell BK323.out 3).trans rfl
                                have hcz66_4 : wr.cell? ⟨gb323, 4, none⟩ = some (.bool t320) := (blk_cell BK323.out 4).trans rfl
                                have hfz66_0 := blk_frozen BK323.out 0
                                have hfz66_1 := blk_frozen BK323.out 1
                                have hfz66_2 := blk_frozen BK323.out 2
                                have hfz66_3 := blk_frozen BK323.out 3
                                have hfz66_4 := blk_frozen BK323.out 4
                                have p327 : 0 ≤ (0 : Int) := (by omega)
                                have q327 : 0 < (t317.length : Int) := of_decide_eq_true (by first | (with_reducible assumption) | assumption)
                                obtain ⟨ad327, A327_4, c327_4, e327, hx327_0, hx327_1, hx327_2, hx327_3, hx327_4, hl327_4, hi327_4⟩ := at_T51 (Kd.R_reads' HO_324003.out).2.2 0 p327 q327
                                cases e327
                                obtain ⟨ce327, hce327, hMe327, hcc327⟩ := Kd.R_get HO_324003.out z51 0 p327 (by first | exact q327 | exact of_decide_eq_true (by first | (with_reducible assumption) | assumption) | (have e_ := (Kd.R_reads' HO_324003.out).1; omega))
                                obtain ⟨ve327_4, rfl, ge327_4⟩ := k51_openM hMe327
                                have hv327_4 := hcc327 4 _ rfl
                                rw [add_field _ _ 4 (by omega)] at hv327_4
                                replace hv327_4 := Option.some.inj (hv327_4.symm.trans hx327_4)
                                rw [hv327_4] at ge327_4
                                have HL327_4 := Aside0.mk (show Kd.R k49 49 _ _ _ _ ((rd_T51 t317 0).f1.f2) from ge327_4)
                                clear hv327_4 ge327_4
                                clear hcc327 hce327
                                have qi327 : (0 < t317.length) = True := eq_true (by omega)
                                (try rw [show ((0 : Int)).toNat = 0 from rfl] at hx327_0)
                                (try rw [show 0 * 5 = 0 from rfl] at hx327_0)
                                (try rw [Addr.add_zero'] at hx327_0)
                                (try rw [show ((0 : Int)).toNat = 0 from rfl] at hx327_1)
                                (try rw [show 0 * 5 = 0 from rfl] at hx327_1)
                                (try rw [Addr.add_zero'] at hx327_1)
                                (try rw [show ((0 : Int)).toNat = 0 from rfl] at hx327_2)
                                (try rw [show 0 * 5 = 0 from rfl] at hx327_2)
                                (try rw [Addr.add_zero'] at hx327_2)
                                (try rw [show ((0 : Int)).toNat = 0 from rfl] at hx327_3)
                                (try rw [show 0 * 5 = 0 from rfl] at hx327_3)
                                (try rw [Addr.add_zero'] at hx327_3)
                                (try rw [show ((0 : Int)).toNat = 0 from rfl] at hx327_4)
                                (try rw [show 0 * 5 = 0 from rfl] at hx327_4)
                                (try rw [Addr.add_zero'] at hx327_4)
                                have HR327_4 := Aside0.mk hi327_4
                                have HC327_4 := Aside0.mk hl327_4
                                clear hi327_4 hl327_4
                                replace p327 := eq_true p327
                                replace q327 := eq_true q327
                                go_wp2_with (first | (go_at_call 16; (with_reducible refine (parse_Depth.calls k2 ((rd_T51 t317 0).f1.f0) ((rd_T51 t317 0).f1.f1.f0) ((rd_T51 t317 0).f1.f1.f1) _ _ ((rd_T51 t317 0).f1.f2) t328 _ ?side1 ?side2 A61.out).mono ?_); (case side1 => repeat (first | exact (by repeat (first | (with_reducible exact HR327_4.out) | (with_reducible refine Kd.C_alloc ?_ _) | (with_reducible refine Kd.C_drewN ?_ _) | (with_reducible refine Kd.C_drew ?_) | exact HR327_4.out)) | (with_reducible refine Kd.C_alloc ?_ _) | (with_reducible refine Kd.C_drewN ?_ _) | (with_reducible refine Kd.C_drew ?_))); (case side2 => exact HC327_4.out); rintro e w67 ⟨rfl, hb⟩; have n0_ := Aside0.mk (Kd.R_below (by (with_reducible repeat (first | apply Kd.R_alloc | apply Kd.R_drewN | apply Kd.R_drew)); exact HO_324000.out) hb); have n1_ := Aside0.mk (Kd.R_below (by (with_reducible repeat (first | apply Kd.R_alloc | apply Kd.R_drewN | apply Kd.R_drew)); exact HO_324001.out) hb); have n2_ := Aside0.mk (Kd.R_below (by (with_reducible repeat (first | apply Kd.R_alloc | apply Kd.R_drewN | apply Kd.R_drew)); exact HO_324003.out) hb); have n3_ := Aside0.mk (Kd.R_below (by (with_reducible repeat (first | apply Kd.R_alloc | apply Kd.R_drewN | apply Kd.R_drew)); exact HL327_4.out) hb); have n4_ := Aside0.mk (blk_below (g := gb323) (o := .cells #[.slice Ao48 t310.length co48, .slice Ao51 t313.length co51, .string t316, .slice (some ad327) t317.length co52, .bool t320] 27 (0, 0)) (by (with_reducible repeat (first | refine blk_drewN ?_ _ | refine blk_drew ?_ | refine blk_alloc ?_ _)); exact BK323.out) hb); have n5_ := Aside0.mk (blk_below (g := gb324) (o := .cells #[.int .i64 t321, .int .i64 t322] 30 (0, 0)) (by (with_reducible repeat (first | refine blk_drewN ?_ _ | refine blk_drew ?_ | refine blk_alloc ?_ _)); exact BK324.out) hb); have n6_ := Aside0.mk (Kd.C_below (by repeat (first | (with_reducible exact HR327_4.out) | (with_reducible refine Kd.C_alloc ?_ _) | (with_reducible refine Kd.C_drewN ?_ _) | (with_reducible refine Kd.C_drew ?_) | exact HR327_4.out)) hb); have n7_ := Aside0.mk (below_step (by repeat (first | (with_reducible first | exact HB.out | apply below_alloc | apply pw_below_drewN | apply below_drew1 | refine below_set ?_ GE323.out | refine below_set ?_ GE324.out) | exact HB.out)) hb); clear HO_324000; clear HO_324001; clear HO_324003; clear HL327_4; clear BK323; clear BK324; clear HR327_4; clear HB; have HO_324000 := n0_; have HO_324001 := n1_; have HO_324003 := n2_; have HL327_4 := n3_; have BK323 := n4_; have BK324 := n5_; have HR327_4 := n6_; have HB := n7_; clear n0_ n1_ n2_ n3_ n4_ n5_ n6_ n7_; (try clear hb); (try clear hb2); (try clear hk); (try clear hi)) | (go_at_call 11; (with_reducible refine (parapetlaw20_awake.calls k2  t329 _ ?side1 A63.out).mono ?_); (case side1 => (first | (with_reducible exact HLD.out) | exact Laid.below HLD.out (by repeat (first | (with_reducible first | exact HB.out | apply below_alloc | apply pw_below_drewN | apply below_drew1 | refine below_set ?_ GE323.out | refine below_set ?_ GE324.out) | exact HB.out)))); rintro e w68 ⟨rfl, hb⟩; have n0_ := Aside0.mk (Kd.R_below (by (with_reducible repeat (first | apply Kd.R_alloc | apply Kd.R_drewN | apply Kd.R_drew)); exact HO_324000.out) hb); have n1_ := Aside0.mk (Kd.R_below (by (with_reducible repeat (first | apply Kd.R_alloc | apply Kd.R_drewN | apply Kd.R_drew)); exact HO_324001.out) hb); have n2_ := Aside0.mk (Kd.R_below (by (with_reducible repeat (first | apply Kd.R_alloc | apply Kd.R_drewN | apply Kd.R_drew)); exact HO_324003.out) hb); have n3_ := Aside0.mk (Kd.R_below (by (with_reducible repeat (first | apply Kd.R_alloc | apply Kd.R_drewN | apply Kd.R_drew)); exact HL327_4.out) hb); have n4_ := Aside0.mk (blk_below (g := gb323) (o := .cells #[.slice Ao48 t310.length co48, .slice Ao51 t313.length co51, .string t316, .slice (some ad327) t317.length co52, .bool t320] 27 (0, 0)) (by (with_reducible repeat (first | refine blk_drewN ?_ _ | refine blk_drew ?_ | refine blk_alloc ?_ _)); exact BK323.out) hb); have n5_ := Aside0.mk (blk_below (g := gb324) (o := .cells #[.int .i64 t321, .int .i64 t322] 30 (0, 0)) (by (with_reducible repeat (first | refine blk_drewN ?_ _ | refine blk_drew ?_ | refine blk_alloc ?_ _)); exact BK324.out) hb); have n6_ := Aside0.mk (Kd.C_below (by repeat (first | (with_reducible exact HR327_4.out) | (with_reducible refine Kd.C_alloc ?_ _) | (with_reducible refine Kd.C_drewN ?_ _) | (with_reducible refine Kd.C_drew ?_) | exact HR327_4.out)) hb); have n7_ := Aside0.mk (below_step (by repeat (first | (with_reducible first | exact HB.out | apply below_alloc | apply pw_below_drewN | apply below_drew1 | refine below_set ?_ GE323.out | refine below_set ?_ GE324.out) | exact HB.out)) hb); clear HO_324000; clear HO_324001; clear HO_324003; clear HL327_4; clear BK323; clear BK324; clear HR327_4; clear HB; have HO_324000 := n0_; have HO_324001 := n1_; have HO_324003 := n2_; have HL327_4 := n3_; have BK323 := n4_; have BK324 := n5_; have HR327_4 := n6_; have HB := n7_; clear n0_ n1_ n2_ n3_ n4_ n5_ n6_ n7_; (try clear hb); (try clear hb2); (try clear hk); (try clear hi)))
                                go_ret
                                exact ⟨by first | rfl | (simp [errW_none, errW_some] <;> rfl) | (simp [*, errW_none, errW_some] <;> rfl), by repeat (first | (with_reducible first | exact HB.out | apply below_alloc | apply pw_below_drewN | apply below_drew1 | refine below_set ?_ GE323.out | refine below_set ?_ GE324.out) | exact HB.out)⟩
                              · rw [if_neg c62] at H
                                have c62b0 : (t328 == x9_2) = false := beq_eq_false_iff_ne.mpr c62
                                have c62b1 : (t328 != x9_2) = true := bne_iff_ne.mpr c62
                                obtain rfl := Option.some.inj H
                                have hnb69 := NB324_323.out
                                have hnc69 := NB323_324.out
                                have hcz70_0 : wr.cell? ⟨gb324, 0, none⟩ = some (.int .i64 t321) := (blk_cell BK324.out 0).trans rfl
                                have hcz70_1 : wr.cell? ⟨gb324, 1, none⟩ = some (.int .i64 t322) := (blk_cell BK324.out 1).trans rfl
                                have hfz70_0 := blk_frozen BK324.out 0
                                have hfz70_1 := blk_frozen BK324.out 1
                                have hcz71_0 : wr.cell? ⟨gb323, 0, none⟩ = some (.slice Ao48 t310.length co48) := (blk_cell BK323.out 0).trans rfl
                                have hcz71_1 : wr.cell? ⟨gb323, 1, none⟩ = some (.slice Ao51 t313.length co51) := (blk_cell BK323.out 1).trans rfl
                                have hcz71_2 : wr.cell? ⟨gb323, 2, none⟩ = some (.string t316) := (blk_cell BK323.out 2).trans rfl
                                have hcz71_3 : wr.cell? ⟨gb323, 3, none⟩ = some (.slice Ao52 t317.length co52) := (blk_cell BK323.out 3).trans rfl
                                have hcz71_4 : wr.cell? ⟨gb323, 4, none⟩ = some (.bool t320) := (blk_cell BK323.out 4).trans rfl
                                have hfz71_0 := blk_frozen BK323.out 0
                                have hfz71_1 := blk_frozen BK323.out 1
                                have hfz71_2 := blk_frozen BK323.out 2
                                have hfz71_3 := blk_frozen BK323.out 3
                                have hfz71_4 := blk_frozen BK323.out 4
                                have p327 : 0 ≤ (0 : Int) := (by omega)
                                have q327 : 0 < (t317.length : Int) := of_decide_eq_true (by first | (with_reducible assumption) | assumption)
                                obtain ⟨ad327, A327_4, c327_4, e327, hx327_0, hx327_1, hx327_2, hx327_3, hx327_4, hl327_4, hi327_4⟩ := at_T51 (Kd.R_reads' HO_324003.out).2.2 0 p327 q327
                                cases e327
                                obtain ⟨ce327, hce327, hMe327, hcc327⟩ := Kd.R_get HO_324003.out z51 0 p327 (by first | exact q327 | exact of_decide_eq_true (by first | (with_reducible assumption) | assumption) | (have e_ := (Kd.R_reads' HO_324003.out).1; omega))
                                obtain ⟨ve327_4, rfl, ge327_4⟩ := k51_openM hMe327
                                have hv327_4 := hcc327 4 _ rfl
                                rw [add_field _ _ 4 (by omega)] at hv327_4
                                replace hv327_4 := Option.some.inj (hv327_4.symm.trans hx327_4)
                                rw [hv327_4] at ge327_4
                                have HL327_4 := Aside0.mk (show Kd.R k49 49 _ _ _ _ ((rd_T51 t317 0).f1.f2) from ge327_4)
                                clear hv327_4 ge327_4
                                clear hcc327 hce327
                                have qi327 : (0 < t317.length) = True := eq_true (by omega)
                                (try rw [show ((0 : Int)).toNat = 0 from rfl] at hx327_0)
                                (try rw [show 0 * 5 = 0 from rfl] at hx327_0)
                                (try rw [Addr.add_zero'] at hx327_0)
                                (try rw [show ((0 : Int)).toNat = 0 from rfl] at hx327_1)
                                (try rw [show 0 * 5 = 0 from rfl] at hx327_1)
                                (try rw [Addr.add_zero'] at hx327_1)
                                (try rw [show ((0 : Int)).toNat = 0 from rfl] at hx327_2)
                                (try rw [show 0 * 5 = 0 from rfl] at hx327_2)
                                (try rw [Addr.add_zero'] at hx327_2)
                                (try rw [show ((0 : Int)).toNat = 0 from rfl] at hx327_3)
                                (try rw [show 0 * 5 = 0 from rfl] at hx327_3)
                                (try rw [Addr.add_zero'] at hx327_3)
                                (try rw [show ((0 : Int)).toNat = 0 from rfl] at hx327_4)
                                (try rw [show 0 * 5 = 0 from rfl] at hx327_4)
                                (try rw [Addr.add_zero'] at hx327_4)
                                have HR327_4 := Aside0.mk hi327_4
                                have HC327_4 := Aside0.mk hl327_4
                                clear hi327_4 hl327_4
                                replace p327 := eq_true p327
                                replace q327 := eq_true q327
                                go_wp2_with (first | (go_at_call 16; (with_reducible refine (parse_Depth.calls k2 ((rd_T51 t317 0).f1.f0) ((rd_T51 t317 0).f1.f1.f0) ((rd_T51 t317 0).f1.f1.f1) _ _ ((rd_T51 t317 0).f1.f2) t328 _ ?side1 ?side2 A61.out).mono ?_); (case side1 => repeat (first | exact (by repeat (first | (with_reducible exact HR327_4.out) | (with_reducible refine Kd.C_alloc ?_ _) | (with_reducible refine Kd.C_drewN ?_ _) | (with_reducible refine Kd.C_drew ?_) | exact HR327_4.out)) | (with_reducible refine Kd.C_alloc ?_ _) | (with_reducible refine Kd.C_drewN ?_ _) | (with_reducible refine Kd.C_drew ?_))); (case side2 => exact HC327_4.out); rintro e w72 ⟨rfl, hb⟩; have n0_ := Aside0.mk (Kd.R_below (by (with_reducible repeat (first | apply Kd.R_alloc | apply Kd.R_drewN | apply Kd.R_drew)); exact HO_324000.out) hb); have n1_ := Aside0.mk (Kd.R_below (by (with_reducible repeat (first | apply Kd.R_alloc | apply Kd.R_drewN | apply Kd.R_drew)); exact HO_324001.out) hb); have n2_ := Aside0.mk (Kd.R_below (by (with_reducible repeat (first | apply Kd.R_alloc | apply Kd.R_drewN | apply Kd.R_drew)); exact HO_324003.out) hb); have n3_ := Aside0.mk (Kd.R_below (by (with_reducible repeat (first | apply Kd.R_alloc | apply Kd.R_drewN | apply Kd.R_drew)); exact HL327_4.out) hb); have n4_ := Aside0.mk (blk_below (g := gb323) (o := .cells #[.slice Ao48 t310.length co48, .slice Ao51 t313.length co51, .string t316, .slice (some ad327) t317.length co52, .bool t320] 27 (0, 0)) (by (with_reducible repeat (first | refine blk_drewN ?_ _ | refine blk_drew ?_ | refine blk_alloc ?_ _)); exact BK323.out) hb); have n5_ := Aside0.mk (blk_below (g := gb324) (o := .cells #[.int .i64 t321, .int .i64 t322] 30 (0, 0)) (by (with_reducible repeat (first | refine blk_drewN ?_ _ | refine blk_drew ?_ | refine blk_alloc ?_ _)); exact BK324.out) hb); have n6_ := Aside0.mk (Kd.C_below (by repeat (first | (with_reducible exact HR327_4.out) | (with_reducible refine Kd.C_alloc ?_ _) | (with_reducible refine Kd.C_drewN ?_ _) | (with_reducible refine Kd.C_drew ?_) | exact HR327_4.out)) hb); have n7_ := Aside0.mk (below_step (by repeat (first | (with_reducible first | exact HB.out | apply below_alloc | apply pw_below_drewN | apply below_drew1 | refine below_set ?_ GE323.out | refine below_set ?_ GE324.out) | exact HB.out)) hb); clear HO_324000; clear HO_324001; clear HO_324003; clear HL327_4; clear BK323; clear BK324; clear HR327_4; clear HB; have HO_324000 := n0_; have HO_324001 := n1_; have HO_324003 := n2_; have HL327_4 := n3_; have BK323 := n4_; have BK324 := n5_; have HR327_4 := n6_; have HB := n7_; clear n0_ n1_ n2_ n3_ n4_ n5_ n6_ n7_; (try clear hb); (try clear hb2); (try clear hk); (try clear hi)))
                                go_ret
                                exact ⟨by first | rfl | (simp [errW_none, errW_some] <;> rfl) | (simp [*, errW_none, errW_some] <;> rfl), by repeat (first | (with_reducible first | exact HB.out | apply below_alloc | apply pw_below_drewN | apply below_drew1 | refine below_set ?_ GE323.out | refine below_set ?_ GE324.out) | exact HB.out)⟩
                            · rw [if_neg c60] at H
                              exact absurd H (by simp)
                          · rw [if_neg c59] at H
                            have c59b0 : ((t317.length : Int) == 1) = false := beq_eq_false_iff_ne.mpr c59
                            have c59b1 : ((t317.length : Int) != 1) = true := bne_iff_ne.mpr c59
                            obtain rfl := Option.some.inj H
                            have hnb73 := NB324_323.out
                            have hnc73 := NB323_324.out
                            have hcz74_0 : wr.cell? ⟨gb324, 0, none⟩ = some (.int .i64 t321) := (blk_cell BK324.out 0).trans rfl
                            have hcz74_1 : wr.cell? ⟨gb324, 1, none⟩ = some (.int .i64 t322) := (blk_cell BK324.out 1).trans rfl
                            have hfz74_0 := blk_frozen BK324.out 0
                            have hfz74_1 := blk_frozen BK324.out 1
                            have hcz75_0 : wr.cell? ⟨gb323, 0, none⟩ = some (.slice Ao48 t310.length co48) := (blk_cell BK323.out 0).trans rfl
                            have hcz75_1 : wr.cell? ⟨gb323, 1, none⟩ = some (.slice Ao51 t313.length co51) := (blk_cell BK323.out 1).trans rfl
                            have hcz75_2 : wr.cell? ⟨gb323, 2, none⟩ = some (.string t316) := (blk_cell BK323.out 2).trans rfl
                            have hcz75_3 : wr.cell? ⟨gb323, 3, none⟩ = some (.slice Ao52 t317.length co52) := (blk_cell BK323.out 3).trans rfl
                            have hcz75_4 : wr.cell? ⟨gb323, 4, none⟩ = some (.bool t320) := (blk_cell BK323.out 4).trans rfl
                            have hfz75_0 := blk_frozen BK323.out 0
                            have hfz75_1 := blk_frozen BK323.out 1
                            have hfz75_2 := blk_frozen BK323.out 2
                            have hfz75_3 := blk_frozen BK323.out 3
                            have hfz75_4 := blk_frozen BK323.out 4
                            go_wp2
                            go_ret
                            exact ⟨by first | rfl | (simp [errW_none, errW_some] <;> rfl) | (simp [*, errW_none, errW_some] <;> rfl), by repeat (first | (with_reducible first | exact HB.out | apply below_alloc | apply pw_below_drewN | apply below_drew1 | refine below_set ?_ GE323.out | refine below_set ?_ GE324.out) | exact HB.out)⟩
                        · rw [if_neg c58] at H
                          have c58b0 : (t321 == 0) = false := beq_eq_false_iff_ne.mpr c58
                          have c58b1 : (t321 != 0) = true := bne_iff_ne.mpr c58
                          obtain rfl := Option.some.inj H
                          have hnb76 := NB324_323.out
                          have hnc76 := NB323_324.out
                          have hcz77_0 : wr.cell? ⟨gb324, 0, none⟩ = some (.int .i64 t321) := (blk_cell BK324.out 0).trans rfl
                          have hcz77_1 : wr.cell? ⟨gb324, 1, none⟩ = some (.int .i64 t322) := (blk_cell BK324.out 1).trans rfl
                          have hfz77_0 := blk_frozen BK324.out 0
                          have hfz77_1 := blk_frozen BK324.out 1
                          go_wp2
                          go_ret
                          exact ⟨by first | rfl | (simp [errW_none, errW_some] <;> rfl) | (simp [*, errW_none, errW_some] <;> rfl), by repeat (first | (with_reducible first | exact HB.out | apply below_alloc | apply pw_below_drewN | apply below_drew1 | refine below_set ?_ GE323.out | refine below_set ?_ GE324.out) | exact HB.out)⟩
              · rw [if_neg c21] at H
                exact absurd H (by simp)
            · rw [if_neg c20] at H
              exact absurd H (by simp)
          · rw [if_neg c19] at H
            exact absurd H (by simp)
end Go.Proofs.YtngedmioeodmfaaDoor.Pr
namespace Go.Proofs.YtngedmioeodmfaaDoor.Pu
open Go.RowKit Go.Proofs.YtngedmioeodmfaaDoor.Pr Go.Proofs.YtngedmioeodmfaaDoorW.PrintWords Go.Proofs.YtngedmioeodmfaaDoor.Lx
open Go.Proofs.YtngedmioeodmfaaDoor.Ps hiding Tk
set_option linter.unusedVariables false
set_option linter.unusedSimpArgs false
theorem text_le {t : Tk} {bs : List Int} {a : Nat} {rest : List Int} (h : bs.drop a = wof t ++ rest) : t.f2.size ≤ bs.length := by
  have h1 := congrArg List.length h
  rw [List.length_drop, List.length_append] at h1
  have h2 : t.f2.size ≤ (wof t).length := by
    unfold wof
    split
    · have := escL_ge (bytesOf t.f2)
      rw [bytesOf_length] at this
      simp only [List.length_cons, List.length_append]; omega
    · rw [bytesOf_length]; exact Nat.le_refl _
  omega
theorem toks_len {x : ByteArray} {ts : List Tk} (h : sm 0 .sk [] (bytesOf x) = .good ts) : ts.length ≤ x.size := by
  have := (placed x ts h).len (Nat.zero_le _)
  rw [bytesOf_length] at this; omega
theorem toks_text {x : ByteArray} {ts : List Tk} (h : sm 0 .sk [] (bytesOf x) = .good ts) : ∀ t ∈ ts, t.f2.size ≤ x.size := by
  intro t ht
  obtain ⟨_, a, rest, hd⟩ := (placed x ts h).all t ht
  have := text_le hd
  rw [bytesOf_length] at this; exact this
theorem okTk_tokM (x : ByteArray) : okTk (tokM x).1 = true := by
  rcases tokM_cases x with ⟨ts, h, hs, hv, hl⟩ | ⟨j, h, hj⟩ | ⟨h, hl⟩
  · rw [h]
    exact okTk_iff.2 ⟨by show ts.length ≤ 1000000; have := toks_len hs; omega, fun t ht => by have := toks_text hs t ht; omega⟩
  · rw [h]; rfl
  · rw [h]; rfl
/-- What parse.Policy answers. -/
def polA (x : ByteArray) : Except (Int × Int) Pst := polT x.size (tokM x)
theorem pol_ev (x : ByteArray) (hx : x.size ≤ 1000000) : Ev (fun k => parse_Policy.f k x) (polRes (polA x)) := by
  unfold parse_Policy.f
  simp only [if_pos hx]
  refine Ev.bind (tokens_ev x) ?_
  simp only [okTk_tokM, if_true]
  exact Ev.const fun k => rfl
/-- Of a text with tokens. -/
theorem polA_good {x : ByteArray} (h : x.size ≤ 3000) (hv : V (bytesOf x)) {ts : List Tk} (hs : rs 0 .sk [] (bytesOf x) = .go .sk ts) : polA x = polP ts x.size := by
  have h2 : sm 0 .sk [] (bytesOf x) = .good ts := by rw [sm_rs, hs]; rfl
  rw [polA, tokM_of x h hv h2]
  rfl
def awakeT : ByteArray := ⟨#[97, 108, 108, 111, 119, 32, 105, 102, 32, 110, 111, 116, 32, 104, 111, 115, 116, 32, 34, 97, 34, 32, 97, 110, 100, 32, 40, 99, 114, 101, 100, 115, 32, 111, 114, 32, 99, 111, 114, 115, 41, 59]⟩
theorem awake_ev : Ev (fun k => parapetlaw20_awake.f k) true := by
  unfold parapetlaw20_awake.f
  refine Ev.bind (pol_ev awakeT (by decide)) ?_
  have h : polRes (polA awakeT) = ([], [], wBlock, [⟨true, ⟨5, ⟨⟨#[]⟩, ⟨#[]⟩⟩, [⟨4, ⟨⟨#[]⟩, ⟨#[]⟩⟩, [⟨3, ⟨wHost, ⟨#[97]⟩⟩, []⟩]⟩, ⟨6, ⟨⟨#[]⟩, ⟨#[]⟩⟩, [⟨3, ⟨wCreds, ⟨#[]⟩⟩, []⟩, ⟨3, ⟨wCors, ⟨#[]⟩⟩, []⟩]⟩]⟩⟩], false, 0, 0) := by kernel_rfl
  rw [h]
  refine Ev.const fun k => ?_
  kernel_rfl
end Go.Proofs.YtngedmioeodmfaaDoor.Pu
namespace Go.Proofs.YtngedmioeodmfaaDoor.Pu
open Go.RowKit Go.Proofs.YtngedmioeodmfaaDoor.Pr Go.Proofs.YtngedmioeodmfaaDoorW.PrintWords Go.Proofs.YtngedmioeodmfaaDoor.Lx
open Go.Proofs.YtngedmioeodmfaaDoor.Ps hiding Tk
set_option linter.unusedVariables false
set_option linter.unusedSimpArgs false
/-- A text whose tokens end with it. -/
def Lx1 (l : List Int) (ts : List Tk) : Prop := rs 0 .sk [] l = .go .sk ts
theorem Lx1.nil : Lx1 [] [] := rfl
theorem Lx1.app {a b : List Int} {ta tb : List Tk} (ha : Lx1 a ta) (hb : Lx1 b tb) : Lx1 (a ++ b) (ta ++ tb.map (upT a.length)) := by
  unfold Lx1 at *
  rw [rs_app_go ha b, Nat.zero_add]
  have h := rs_up a.length ta b 0 .sk []
  rw [hb] at h
  simpa [upS, upO] using h
theorem key_up (n : Nat) (ts : List Tk) : (ts.map (upT n)).map key = ts.map key := by
  rw [List.map_map]; exact List.map_congr_left (fun t _ => rfl)
abbrev Ky := Int × ByteArray
/-- From place p on stand tokens of these keys. -/
def KA (T : List Tk) (p : Nat) (ws : List Ky) : Prop := ws <+: (T.drop p).map key
theorem KA.head {T : List Tk} {p : Nat} {w : Ky} {ws : List Ky} (h : KA T p (w :: ws)) (e : Int) : p < T.length ∧ (nxt T e p).f0 = w.1 ∧ (nxt T e p).f2 = w.2 ∧ KA T (p + 1) ws := by
  obtain ⟨rest, h⟩ := h
  have hp : p < T.length := by
    apply Classical.byContradiction
    intro hn
    rw [List.drop_eq_nil_of_le (by omega)] at h
    cases h
  rw [List.drop_eq_getElem_cons hp, List.map_cons, List.cons_append] at h
  injection h with h1 h2
  refine ⟨hp, ?_, ?_, ⟨rest, h2⟩⟩
  · rw [nxt, dif_pos hp, h1]; rfl
  · rw [nxt, dif_pos hp, h1]; rfl
theorem KA.weak {T : List Tk} {p : Nat} {ws vs : List Ky} (h : KA T p (ws ++ vs)) : KA T p ws := List.IsPrefix.trans ⟨vs, rfl⟩ h
theorem KA.drop {T : List Tk} {p : Nat} : ∀ {ws vs : List Ky}, KA T p (ws ++ vs) → KA T (p + ws.length) vs
  | [], vs, h => h
  | w :: ws, vs, h => by
    have h2 := (KA.head (w := w) (ws := ws ++ vs) h 0).2.2.2
    have := KA.drop h2
    rw [List.length_cons]
    rw [show p + (ws.length + 1) = p + 1 + ws.length by omega]; exact this
section
variable {T : List Tk} {e : Int} {p : Nat} {ws : List Ky}
theorem KA.is {k : Int} {t : ByteArray} (h : KA T p ((k, t) :: ws)) (l : List ByteArray) : isP T e l p = (decide (k = 1) && memB t l) := by
  obtain ⟨_, h1, h2, _⟩ := h.head e
  rw [isP, h1, h2]
theorem KA.take {k : Int} {t : ByteArray} (h : KA T p ((k, t) :: ws)) : takeP T e k p = .ok (t, p + 1) := by
  obtain ⟨_, h1, h2, _⟩ := h.head e
  rw [takeP, if_pos h1, h2]
theorem KA.next {w : Ky} (h : KA T p (w :: ws)) : KA T (p + 1) ws := (h.head 0).2.2.2
theorem KA.word {t : ByteArray} {l : List ByteArray} (h : KA T p ((1, t) :: ws)) (hm : memB t l = true) : wordP T e l p = .ok (t, p + 1) := by
  rw [wordP, h.is, hm, if_pos (by rfl), h.take]
/-- Kids: one, and no word that goes on. -/
theorem kids_one {one : Nat → Res Cd} {kind : Int} {w : ByteArray} {c : Cd} {q : Nat} (h1 : one p = .ok (c, q)) (h2 : isP T e [w] q = false) : kidsP T e kind w one p = .ok (c, q) := by
  rw [kidsP, h1]
  simp only
  have : kidsL T e one w (T.length + 1 - q) [c] q = .ok ([c], q) := by
    cases T.length + 1 - q with
    | zero => rfl
    | succ f => rw [kidsL, h2]; rfl
  rw [this]
  rfl
theorem or_one {one : Nat → Res Cd} {c : Cd} {q : Nat} (h1 : one p = .ok (c, q)) (h2 : isP T e [wAnd] q = false) (h3 : isP T e [wOr] q = false) : orP T e one p = .ok (c, q) :=
  kids_one (kids_one h1 h2) h3
/-- An atom of one word. -/
def oneAtoms : List ByteArray := [wSame, wTrusted, wCreds, wCors]
def atomC (w : ByteArray) : Cd := if w = wTrue then cond0 1 [] else if w = wFalse then cond0 2 [] else ⟨3, ⟨w, ⟨#[]⟩⟩, []⟩
theorem atom_one {w : ByteArray} (h : KA T p ((1, w) :: ws)) (hw : w ∈ wTrue :: wFalse :: oneAtoms) : atomP T e p = .ok (atomC w, p + 1) := by
  have hm : memB w atomWords = true := by
    simp only [oneAtoms, List.mem_cons, List.not_mem_nil, or_false] at hw
    rcases hw with rfl | rfl | rfl | rfl | rfl | rfl <;> decide +kernel
  rw [atomP, h.word hm]
  simp only [oneAtoms, List.mem_cons, List.not_mem_nil, or_false] at hw
  rcases hw with rfl | rfl | rfl | rfl | rfl | rfl <;> rfl
theorem not_atom {w : ByteArray} (h : KA T p ((1, w) :: ws)) (hw : w ∈ wTrue :: wFalse :: oneAtoms) (n : Nat) : notN T e n p = .ok (atomC w, p + 1) := by
  have h1 : isP T e [wNot] p = false := by
    rw [h.is]
    simp only [oneAtoms, List.mem_cons, List.not_mem_nil, or_false] at hw
    rcases hw with rfl | rfl | rfl | rfl | rfl | rfl <;> decide +kernel
  have h2 : (nxt T e p).f0 ≠ 3 := by rw [(h.head e).2.1]; exact (by decide : (1 : Int) ≠ 3)
  cases n with
  | zero => rw [notN, h1, if_neg (by decide), if_neg h2, atom_one h hw]
  | succ n => rw [notN, h1, if_neg (by decide), if_neg h2, atom_one h hw]
/-- An item whose word may stand more than once, where there is room. -/
theorem item_free {st : Pst} {w : ByteArray} (h : KA T p ((1, w) :: ws)) (hw : w ∈ [wCsp, wShare, wAllow, wDeny]) (hi : st.items < 60) : itemP T e st p = itemK T e { st with items := st.items + 1 } w (p + 1) := by
  have h1 : isP T e [wCsp, wShare, wMixed, wDefault, wAllow, wDeny] p = true := by
    rw [h.is]
    simp only [List.mem_cons, List.not_mem_nil, or_false] at hw
    rcases hw with rfl | rfl | rfl | rfl <;> decide +kernel
  have h2 : isP T e [wMixed, wDefault] p = false := by
    rw [h.is]
    simp only [List.mem_cons, List.not_mem_nil, or_false] at hw
    rcases hw with rfl | rfl | rfl | rfl <;> decide +kernel
  rw [itemP_none h1.symm h2.symm, restP, if_neg (by omega), h.take]
end
end Go.Proofs.YtngedmioeodmfaaDoor.Pu
namespace Go.Proofs.YtngedmioeodmfaaDoor.Pu
open Go.RowKit Go.Proofs.YtngedmioeodmfaaDoor.Pr Go.Proofs.YtngedmioeodmfaaDoorW.PrintWords Go.Proofs.YtngedmioeodmfaaDoor.Lx
open Go.Proofs.YtngedmioeodmfaaDoor.Ps hiding Tk
set_option linter.unusedVariables false
set_option linter.unusedSimpArgs false
/-- Behind a word stands what is none. -/
theorem rs_word (i a : Nat) (acc : List Int) (ts : List Tk) (c : Int) (l : List Int) (h : pWord c = false) : rs i (.wd a acc) ts (c :: l) = rs i .sk (ts ++ [⟨1, a, strOfNums acc⟩]) (c :: l) := by
  rw [rs, rs]
  have : step i c (.wd a acc) ts = step i c .sk (ts ++ [⟨1, a, strOfNums acc⟩]) := by
    simp only [step, h, Bool.false_eq_true, if_false]
  rw [this]
theorem Lx1.word {w : List Int} {acc : List Int} (hw : rs 0 .sk [] w = .go (.wd 0 acc) []) {c : Int} {l : List Int} (hc : pWord c = false) {tl : List Tk} (hl : Lx1 (c :: l) tl) : Lx1 (w ++ c :: l) (⟨1, 0, strOfNums acc⟩ :: tl.map (upT w.length)) := by
  unfold Lx1 at *
  rw [rs_app_go hw (c :: l), Nat.zero_add, rs_word _ _ _ _ _ _ hc]
  have h := rs_up w.length [⟨1, 0, strOfNums acc⟩] (c :: l) 0 .sk []
  rw [hl] at h
  simpa [upS, upO] using h
def pb (b : Bool) : List Int := if b then [110, 111, 116, 32] else [40, 32]
def kt (b : Bool) : Ky := if b then (1, wNot) else (3, ⟨#[40]⟩)
def closeB : ByteArray := ⟨#[41]⟩
def semiB : ByteArray := ⟨#[59]⟩
def preL (l : List Bool) : List Int := l.flatMap pb
def preT : List Bool → List Tk
  | [] => []
  | b :: l => ⟨(kt b).1, 0, (kt b).2⟩ :: (preT l).map (upT (pb b).length)
theorem pb_lx : ∀ b, Lx1 (pb b) [⟨(kt b).1, 0, (kt b).2⟩]
  | true => by unfold Lx1; kernel_rfl
  | false => by unfold Lx1; kernel_rfl
theorem pre_lx : ∀ l, Lx1 (preL l) (preT l)
  | [] => Lx1.nil
  | b :: l => by rw [preL, List.flatMap_cons]; exact (pb_lx b).app (pre_lx l)
theorem pre_key : ∀ l, (preT l).map key = l.map kt
  | [] => rfl
  | b :: l => by rw [preT, List.map_cons, key_up, pre_key l]; rfl
theorem preT_len (l : List Bool) : (preT l).length = l.length := by
  have := congrArg List.length (pre_key l)
  simpa using this
theorem pre_at : ∀ (l : List Bool) (k : Nat) (h : k < l.length), ∃ t, (preT l)[k]? = some t ∧ t.f1 = ((preL (l.take k)).length : Int)
  | b :: l, 0, h => ⟨_, rfl, rfl⟩
  | b :: l, k + 1, h => by
    obtain ⟨t, h1, h2⟩ := pre_at l k (by simpa using h)
    refine ⟨upT (pb b).length t, ?_, ?_⟩
    · rw [preT, List.getElem?_cons_succ, List.getElem?_map, h1]; rfl
    · rw [List.take_succ_cons, preL, List.flatMap_cons, List.length_append]
      show t.f1 + ((pb b).length : Int) = _
      rw [h2]; unfold preL; omega
def cls (m : Nat) : List Int := (List.replicate m [(32 : Int), 41]).flatten
def clsT : Nat → List Tk
  | 0 => [⟨5, 0, semiB⟩]
  | m + 1 => ⟨4, 1, closeB⟩ :: (clsT m).map (upT 2)
theorem cls_lx : ∀ m, Lx1 (cls m ++ [59]) (clsT m)
  | 0 => by unfold Lx1; kernel_rfl
  | m + 1 => by
    rw [cls, List.replicate_succ, List.flatten_cons, List.append_assoc]
    exact (show Lx1 [32, 41] [⟨4, 1, closeB⟩] by unfold Lx1; kernel_rfl).app (cls_lx m)
theorem cls_key : ∀ m, (clsT m).map key = List.replicate m (4, closeB) ++ [(5, semiB)]
  | 0 => rfl
  | m + 1 => by rw [clsT, List.map_cons, key_up, cls_key m]; rfl
def corsL : List Int := [99, 111, 114, 115]
def tailT (m : Nat) : List Tk := ⟨1, 0, wCors⟩ :: (clsT m).map (upT 4)
theorem tail_lx (m : Nat) : Lx1 (corsL ++ (cls m ++ [59])) (tailT m) := by
  have hw : rs 0 .sk [] corsL = .go (.wd 0 corsL) [] := by kernel_rfl
  have hs : strOfNums corsL = wCors := by decide +kernel
  have h2 : ∃ c l, cls m ++ [59] = c :: l ∧ pWord c = false := by
    cases m with
    | zero => exact ⟨59, [], rfl, by decide +kernel⟩
    | succ m => exact ⟨32, 41 :: (cls m ++ [59]), by simp [cls, List.replicate_succ], by decide +kernel⟩
  obtain ⟨c, l, he, hc⟩ := h2
  have h3 := cls_lx m
  rw [he] at h3 ⊢
  have := Lx1.word hw hc h3
  rw [hs] at this
  exact this
theorem tail_key (m : Nat) : (tailT m).map key = (1, wCors) :: (List.replicate m (4, closeB) ++ [(5, semiB)]) := by
  rw [tailT, List.map_cons, key_up, cls_key]; rfl
def headL : List Int := [100, 101, 110, 121, 32, 105, 102, 32]
def headT : List Tk := [⟨1, 0, wDeny⟩, ⟨1, 5, wIf⟩]
def deepL (l : List Bool) (m : Nat) : List Int := headL ++ (preL l ++ (corsL ++ (cls m ++ [59])))
def deepT (l : List Bool) (m : Nat) : List Tk := headT ++ (preT l ++ (tailT m).map (upT (preL l).length)).map (upT 8)
theorem deep_lx (l : List Bool) (m : Nat) : Lx1 (deepL l m) (deepT l m) :=
  (show Lx1 headL headT by unfold Lx1; kernel_rfl).app ((pre_lx l).app (tail_lx m))
def cntF (l : List Bool) : Nat := l.count false
def valD : List Bool → Cd
  | [] => atomC wCors
  | true :: l => cond0 4 [valD l]
  | false :: l => valD l
theorem deep_key (l : List Bool) (m : Nat) : (deepT l m).map key = (1, wDeny) :: (1, wIf) :: (l.map kt ++ (1, wCors) :: (List.replicate m (4, closeB) ++ [(5, semiB)])) := by
  rw [deepT, List.map_append, key_up, List.map_append, pre_key, key_up, tail_key]; rfl
theorem deep_ok {T : List Tk} {e : Int} : ∀ (l : List Bool) (n p : Nat) (ws : List Ky), l.length ≤ n → KA T p (l.map kt ++ (1, wCors) :: (List.replicate (cntF l) (4, closeB) ++ ws)) → notN T e n p = .ok (valD l, p + l.length + 1 + cntF l)
  | [], n, p, ws, hn, h => not_atom h (by simp [oneAtoms]) n
  | true :: l, n + 1, p, ws, hn, h => by
    have h : KA T p ((1, wNot) :: (l.map kt ++ (1, wCors) :: (List.replicate (cntF l) (4, closeB) ++ ws))) := h
    have hi : isP T e [wNot] p = true := by rw [h.is]; decide +kernel
    rw [notN, hi, if_pos rfl, deep_ok l n (p + 1) ws (by simpa using hn) h.next]
    show Except.ok (cond0 4 [valD l], _) = _
    simp only [valD, List.length_cons, cntF]
    congr 2
    simp; omega
  | false :: l, n + 1, p, ws, hn, h => by
    have hc : cntF (false :: l) = cntF l + 1 := by simp [cntF]
    rw [hc, List.replicate_succ', List.append_assoc] at h
    have h : KA T p ((3, ⟨#[40]⟩) :: (l.map kt ++ (1, wCors) :: (List.replicate (cntF l) (4, closeB) ++ ((4, closeB) :: ws)))) := h
    have hi : isP T e [wNot] p = false := by rw [h.is]; rfl
    have h3 : (nxt T e p).f0 = 3 := (h.head e).2.1
    have hq : KA T (p + 1 + l.length + 1 + cntF l) ((4, closeB) :: ws) := by
      have h4 := h.next
      have h5 : KA T (p + 1) ((l.map kt ++ (1, wCors) :: List.replicate (cntF l) (4, closeB)) ++ ((4, closeB) :: ws)) := by simpa using h4
      have h6 := h5.drop
      simp only [List.length_append, List.length_map, List.length_cons, List.length_replicate] at h6
      rw [show p + 1 + l.length + 1 + cntF l = p + 1 + (l.length + (cntF l + 1)) by omega]; exact h6
    rw [notN, hi, if_neg (by decide), if_pos h3, or_one (deep_ok l n (p + 1) _ (by simpa using hn) h.next) (by rw [hq.is]; rfl) (by rw [hq.is]; rfl)]
    simp only [closeP]
    rw [hq.take]
    show Except.ok (valD l, _) = _
    rw [hc]
    simp only [valD, List.length_cons]
    congr 2; omega
theorem kids_err {T : List Tk} {e : Int} {one : Nat → Res Cd} {kind : Int} {w : ByteArray} {p : Nat} {x : Int × Int} (h : one p = .error x) : kidsP T e kind w one p = .error x := by
  rw [kidsP, h]
theorem deep_err {T : List Tk} {e : Int} : ∀ (n : Nat) (l : List Bool) (p : Nat) (ws : List Ky), n < l.length → KA T p (l.map kt ++ ws) → notN T e n p = .error (2, (nxt T e (p + n)).f1)
  | 0, true :: l, p, ws, hn, h => by
    have h : KA T p ((1, wNot) :: (l.map kt ++ ws)) := h
    have hi : isP T e [wNot] p = true := by rw [h.is]; decide +kernel
    rw [notN, hi, if_pos rfl]; rfl
  | 0, false :: l, p, ws, hn, h => by
    have h : KA T p ((3, ⟨#[40]⟩) :: (l.map kt ++ ws)) := h
    have hi : isP T e [wNot] p = false := by rw [h.is]; rfl
    rw [notN, hi, if_neg (by decide), if_pos (h.head e).2.1]; rfl
  | n + 1, true :: l, p, ws, hn, h => by
    have h : KA T p ((1, wNot) :: (l.map kt ++ ws)) := h
    have hi : isP T e [wNot] p = true := by rw [h.is]; decide +kernel
    rw [notN, hi, if_pos rfl, deep_err n l (p + 1) ws (by simpa using hn) h.next]
    simp only [wrapNot]
    rw [show p + 1 + n = p + (n + 1) by omega]
  | n + 1, false :: l, p, ws, hn, h => by
    have h : KA T p ((3, ⟨#[40]⟩) :: (l.map kt ++ ws)) := h
    have hi : isP T e [wNot] p = false := by rw [h.is]; rfl
    rw [notN, hi, if_neg (by decide), if_pos (h.head e).2.1, orP, kids_err (kids_err (deep_err n l (p + 1) ws (by simpa using hn) h.next))]
    simp only [closeP]
    rw [show p + 1 + n = p + (n + 1) by omega]
end Go.Proofs.YtngedmioeodmfaaDoor.Pu
namespace Go.Proofs.YtngedmioeodmfaaDoor.Pu
open Go.RowKit Go.Proofs.YtngedmioeodmfaaDoor.Pr Go.Proofs.YtngedmioeodmfaaDoorW.PrintWords Go.Proofs.YtngedmioeodmfaaDoor.Lx
open Go.Proofs.YtngedmioeodmfaaDoor.Ps hiding Tk
set_option linter.unusedVariables false
set_option linter.unusedSimpArgs false
theorem pre_len (l : List Bool) : (preL l).length ≤ 4 * l.length := by
  induction l with
  | nil => simp [preL]
  | cons b l ih =>
    rw [preL, List.flatMap_cons, List.length_append, List.length_cons]
    have : (pb b).length ≤ 4 := by cases b <;> decide
    unfold preL at ih; omega
theorem cls_len (m : Nat) : (cls m).length = 2 * m := by simp [cls]; omega
theorem deep_len (l : List Bool) (m : Nat) : (deepL l m).length ≤ 13 + 4 * l.length + 2 * m := by
  have := pre_len l
  simp only [deepL, List.length_append, cls_len, headL, corsL, List.length_cons, List.length_nil]
  omega
theorem deep_V (l : List Bool) (m : Nat) : V (deepL l m) := by
  refine V_ascii _ fun c hc => ?_
  simp only [deepL, List.mem_append, preL, List.mem_flatMap, cls, List.mem_flatten, List.mem_replicate] at hc
  have h1 : ∀ c ∈ headL, 0 ≤ c ∧ c < 128 := by decide
  have h2 : ∀ b, ∀ c ∈ pb b, 0 ≤ c ∧ c < 128 := by intro b; cases b <;> decide
  have h3 : ∀ c ∈ corsL, 0 ≤ c ∧ c < 128 := by decide
  have h4 : ∀ c ∈ [(32 : Int), 41], 0 ≤ c ∧ c < 128 := by decide
  rcases hc with hc | ⟨b, _, hc⟩ | hc | ⟨y, ⟨_, rfl⟩, hc⟩ | hc
  · exact h1 c hc
  · exact h2 b c hc
  · exact h3 c hc
  · exact h4 c hc
  · simp at hc; subst hc; decide
theorem cnt_le (l : List Bool) : cntF l ≤ l.length := List.count_le_length
theorem KA.all {T : List Tk} {ws : List Ky} (h : T.map key = ws) : KA T 0 ws := by
  rw [KA, List.drop_zero, h]; exact List.prefix_refl _
theorem deep_pol (l : List Bool) (hl : l.length ≤ 40) (x : ByteArray) (hx : bytesOf x = deepL l (cntF l)) :
    polA x = if l.length ≤ 30 then .ok { pst0 with items := 1, rules := [⟨false, valD l⟩] } else .error (2, 8 + ((preL (l.take 30)).length : Int)) := by
  have hsz : x.size ≤ 3000 := by
    rw [← bytesOf_length, hx]
    have := deep_len l (cntF l); have := cnt_le l; omega
  rw [polA_good hsz (by rw [hx]; exact deep_V l _) (by rw [hx]; exact deep_lx l _), polP]
  have hK := KA.all (deep_key l (cntF l))
  obtain ⟨e, he⟩ : ∃ e : Int, e = x.size := ⟨_, rfl⟩
  rw [← he]
  have hlen : (deepT l (cntF l)).length = 2 + l.length + 1 + cntF l + 1 := by
    have := congrArg List.length (deep_key l (cntF l))
    simp only [List.length_map, List.length_cons, List.length_append, List.length_replicate, List.length_nil] at this
    omega
  have hi : itemP (deepT l (cntF l)) e pst0 0 = ifK (deepT l (cntF l)) e { pst0 with items := 1 } wDeny (.ok (wIf, 2)) := by
    rw [item_free hK (by simp) (by decide), itemK_rule (by decide) (by decide) (by decide) (by decide), hK.next.word (by decide)]
    rfl
  by_cases h30 : l.length ≤ 30
  · rw [if_pos h30]
    have hc := deep_ok (T := deepT l (cntF l)) (e := e) l 30 2 [(5, semiB)] h30 hK.next.next
    have hq : KA (deepT l (cntF l)) (2 + l.length + 1 + cntF l) [(5, semiB)] := by
      have h4 := hK.next.next
      have h5 : KA (deepT l (cntF l)) 2 ((l.map kt ++ (1, wCors) :: List.replicate (cntF l) (4, closeB)) ++ [(5, semiB)]) := by simpa using h4
      have h6 := h5.drop
      simp only [List.length_append, List.length_map, List.length_cons, List.length_replicate] at h6
      rw [show 2 + l.length + 1 + cntF l = 2 + (l.length + (cntF l + 1)) by omega]; exact h6
    have hc2 : condP (deepT l (cntF l)) e 2 = .ok (valD l, 2 + l.length + 1 + cntF l) := or_one hc (by rw [hq.is]; rfl) (by rw [hq.is]; rfl)
    have hi2 : itemP (deepT l (cntF l)) e pst0 0 = .ok ({ pst0 with items := 1, rules := [⟨false, valD l⟩] }, 2 + l.length + 1 + cntF l) := by
      rw [hi]
      simp only [ifK]
      rw [hc2]
      rfl
    rw [itemsP_succ (by rw [hlen]; omega), hi2]
    simp only [itemsK]
    rw [hq.take]
    simp only [endK]
    cases (deepT l (cntF l)).length with
    | zero => rfl
    | succ f => rw [itemsP, if_neg (by rw [hlen]; omega)]
  · rw [if_neg h30]
    have hc := deep_err (T := deepT l (cntF l)) (e := e) 30 l 2 _ (by omega) hK.next.next
    have hc2 : condP (deepT l (cntF l)) e 2 = .error (2, (nxt (deepT l (cntF l)) e (2 + 30)).f1) := kids_err (kids_err hc)
    rw [itemsP_succ (by rw [hlen]; omega), hi]
    simp only [ifK]
    rw [hc2]
    simp only [ruleK, itemsK]
    have hp : 2 + 30 < (deepT l (cntF l)).length := by rw [hlen]; omega
    obtain ⟨t, ht, hf⟩ := pre_at l 30 (by omega)
    have hg : (deepT l (cntF l))[2 + 30]? = some (upT 8 t) := by
      rw [deepT, List.getElem?_append_right (by decide), List.getElem?_map, List.getElem?_append_left (by rw [preT_len]; show 30 < l.length; omega)]
      show ((preT l)[30]?).map (upT 8) = _
      rw [ht]; rfl
    congr 2
    rw [nxt, dif_pos hp]
    have h2 := (List.getElem?_eq_getElem hp).symm.trans hg
    rw [Option.some.inj h2]
    show t.f1 + 8 = _
    rw [hf]; omega
def cntT (l : List Bool) : Nat := l.count true
def depC (k : Nat) (c : Cd) : Option Int := parse_Depth.f k c.f0 c.f1.f0 c.f1.f1 c.f2
theorem dep_leaf (a : Int) (b c : ByteArray) : Ev (fun k => parse_Depth.f k a b c []) 1 := by
  refine Ev.step (f := fun k => parse_Depth.l0 k 0 [] 0 0) (fun k => by rw [parse_Depth.f]; rfl) ?_
  refine Ev.step (f := fun k => some 1) (fun k => by rw [parse_Depth.l0, if_neg (by omega), w64 (by omega) (by omega)]; rfl) (Ev.const fun _ => rfl)
theorem dep_one (c : Cd) (d : Int) (h0 : 0 ≤ d) (h1 : d ≤ 1000000) (h : Ev (fun k => depC k c) d) (a : Int) (b b2 : ByteArray) : Ev (fun k => parse_Depth.f k a b b2 [c]) (d + 1) := by
  refine Ev.step (f := fun k => parse_Depth.l0 k 0 [c] 1 0) (fun k => by rw [parse_Depth.f]; rfl) ?_
  refine Ev.step (f := fun k => (depC k c).bind fun t => parse_Depth.l0 k (mx 0 t) [c] 1 1) (fun k => ?_) (Ev.bind h ?_)
  · rw [parse_Depth.l0, if_pos (by omega), if_pos (by omega), if_pos (by simp), w64 (by omega) (by omega)]
    rfl
  · have hm : mx 0 d = d := by unfold mx; split <;> omega
    refine Ev.step (f := fun k => some (d + 1)) (fun k => by rw [parse_Depth.l0, if_neg (by omega), hm, w64 (by omega) (by omega)]) (Ev.const fun _ => rfl)
theorem dep_val : ∀ l : List Bool, l.length ≤ 1000 → Ev (fun k => depC k (valD l)) ((1 + cntT l : Nat) : Int)
  | [], _ => dep_leaf _ _ _
  | true :: l, h => by
    have := dep_one (valD l) _ (by omega) (by have : cntT l ≤ l.length := List.count_le_length; simp at h; omega) (dep_val l (by simp at h; omega)) 4 ⟨#[]⟩ ⟨#[]⟩
    exact this.eq (by simp [cntT]; omega)
  | false :: l, h => (dep_val l (by simp at h; omega)).eq (by simp [cntT])
theorem take_snocB (l : List Bool) (i : Nat) (h : i < l.length) : l.take (i + 1) = l.take i ++ [rdOf false l (i : Int)] := by
  rw [List.take_succ_eq_append_getElem h]
  congr 2
  simp [rdOf, h]
theorem pre_snoc (l : List Bool) (b : Bool) : preL (l ++ [b]) = preL l ++ pb b := by simp [preL]
theorem cls_snoc (m : Nat) : cls (m + 1) = cls m ++ [32, 41] := by rw [cls, cls, List.replicate_succ', List.flatten_append]; simp
theorem bN : bytesOf (⟨#[110, 111, 116, 32]⟩ : ByteArray) = pb true := by decide +kernel
theorem bO : bytesOf (⟨#[40, 32]⟩ : ByteArray) = pb false := by decide +kernel
theorem bC : bytesOf (⟨#[32, 41]⟩ : ByteArray) = [32, 41] := by decide +kernel
theorem bCo : bytesOf (⟨#[99, 111, 114, 115]⟩ : ByteArray) = corsL := by decide +kernel
theorem bS : bytesOf (⟨#[59]⟩ : ByteArray) = [59] := by decide +kernel
theorem awake_b2 : Ev (fun k => (parapetlaw20_awake.f k).bind fun t => some t) true := Ev.bind awake_ev (Ev.const fun _ => rfl)
theorem deep_l1 (l : List Bool) (hl : l.length ≤ 30) (d : Nat) : ∀ (i : Nat), i ≤ l.length → l.length - i ≤ d →
    Ev (fun k => parapetlaw20_ParseDeep.l1 k l ((1 + cntT (l.take i) : Nat) : Int) i [] [] wBlock [⟨false, valD l⟩] false 0 0) true := by
  have hfin : Ev (fun k => parapetlaw20_ParseDeep.l1 k l ((1 + cntT (l.take l.length) : Nat) : Int) l.length [] [] wBlock [⟨false, valD l⟩] false 0 0) true := by
    refine Ev.step (f := fun k => (depC k (valD l)).bind fun t => if t = ((1 + cntT (l.take l.length) : Nat) : Int) then ((parapetlaw20_awake.f k).bind fun t => some t) else some false) (fun k => ?_) (Ev.bind (dep_val l (by omega)) ?_)
    · rw [parapetlaw20_ParseDeep.l1, if_neg (by omega), if_pos rfl, if_pos (by rfl), if_pos (by simp)]
      rfl
    · rw [List.take_length]
      simp only [if_true]
      exact awake_b2
  induction d with
  | zero => intro i hi hd; obtain rfl : i = l.length := (by omega); exact hfin
  | succ d ih =>
    intro i hi hd
    by_cases hlt : i = l.length
    · subst hlt; exact hfin
    · have hs := take_snocB l i (by omega)
      have hn := ih (i + 1) (by omega) (by omega)
      rw [hs] at hn
      have hcl : cntT (l.take i) ≤ 30 := by have : cntT (l.take i) ≤ (l.take i).length := List.count_le_length; rw [List.length_take] at this; omega
      refine Ev.step (fun k => ?_) hn
      rw [parapetlaw20_ParseDeep.l1, if_pos (by omega), if_pos (by omega), show wrap64 ((i : Int) + 1) = ((i + 1 : Nat) : Int) by unfold wrap64; omega]
      by_cases hb : rdOf false l (i : Int) = true
      · rw [if_pos hb, hb, show cntT (l.take i ++ [true]) = cntT (l.take i) + 1 by simp [cntT], show wrap64 (((1 + cntT (l.take i) : Nat) : Int) + 1) = ((1 + (cntT (l.take i) + 1) : Nat) : Int) by unfold wrap64; omega]
      · rw [if_neg hb, show rdOf false l (i : Int) = false by simpa using hb, show cntT (l.take i ++ [false]) = cntT (l.take i) by simp [cntT]]
theorem deep_end (l : List Bool) (hl : l.length ≤ 40) (x3 x4 : ByteArray) (x5 : Int) (h3 : bytesOf x3 = headL ++ preL l) (h4 : bytesOf x4 = cls (cntF l)) (h5 : 30 < l.length → x5 = 8 + ((preL (l.take 30)).length : Int)) :
    Ev (fun k => parapetlaw20_ParseDeep.l0 k l x3 x4 x5 l.length) true := by
  have hx : bytesOf (((x3 ++ (⟨#[99, 111, 114, 115]⟩ : ByteArray)) ++ x4) ++ (⟨#[59]⟩ : ByteArray)) = deepL l (cntF l) := by
    rw [bytesOf_app, bytesOf_app, bytesOf_app, h3, h4, bCo, bS, deepL]; simp
  have hs3 : x3.size ≤ 200 := by rw [← bytesOf_length, h3, List.length_append]; have := pre_len l; have : headL.length = 8 := rfl; omega
  have hs4 : x4.size ≤ 100 := by rw [← bytesOf_length, h4, cls_len]; have := cnt_le l; omega
  have hcs : (⟨#[99, 111, 114, 115]⟩ : ByteArray).size = 4 := rfl
  have hss : (⟨#[59]⟩ : ByteArray).size = 1 := rfl
  have hsz : (((x3 ++ (⟨#[99, 111, 114, 115]⟩ : ByteArray)) ++ x4) ++ (⟨#[59]⟩ : ByteArray)).size ≤ 1000000 := by simp only [ByteArray.size_append, hcs, hss]; omega
  refine Ev.step (fun k => ?_) (Ev.bind (pol_ev _ hsz) (f := fun k b => if (l.length : Int) > 30 then (if (b.2.2.2.2.2.1 == 2 && (b.2.2.2.2.2.2 == x5)) = true then ((parapetlaw20_awake.f k).bind fun t => some t) else (some false)) else (parapetlaw20_ParseDeep.l1 k l 1 0 b.1 b.2.1 b.2.2.1 b.2.2.2.1 b.2.2.2.2.1 b.2.2.2.2.2.1 b.2.2.2.2.2.2)) ?_)
  · rw [parapetlaw20_ParseDeep.l0, if_neg (by omega), if_pos (by omega), if_pos (by simp only [ByteArray.size_append, hcs]; omega), if_pos (by simp only [ByteArray.size_append, hcs]; omega)]
  · rw [deep_pol l hl _ hx]
    by_cases h30 : l.length ≤ 30
    · simp only [if_pos h30, polRes, pst0]
      rw [show ((fun k => if (l.length : Int) > 30 then _ else _) : Nat → Option Bool) = fun k => parapetlaw20_ParseDeep.l1 k l 1 0 [] [] wBlock [⟨false, valD l⟩] false 0 0 from funext fun k => if_neg (by omega)]
      exact (deep_l1 l h30 l.length 0 (by omega) (by omega)).eq rfl
    · simp only [if_neg h30, polRes]
      rw [show ((fun k => if (l.length : Int) > 30 then _ else _) : Nat → Option Bool) = fun k => (parapetlaw20_awake.f k).bind fun t => some t from funext fun k => by
        rw [if_pos (by omega), if_pos (by rw [h5 (by omega)]; simp)]]
      exact awake_b2
theorem deep_l0 (l : List Bool) (hl : l.length ≤ 40) (d : Nat) : ∀ (i : Nat) (x3 x4 : ByteArray) (x5 : Int), i ≤ l.length → l.length - i ≤ d → bytesOf x3 = headL ++ preL (l.take i) → bytesOf x4 = cls (cntF (l.take i)) → (30 < i → x5 = 8 + ((preL (l.take 30)).length : Int)) →
    Ev (fun k => parapetlaw20_ParseDeep.l0 k l x3 x4 x5 i) true := by
  induction d with
  | zero => intro i x3 x4 x5 hi hd h3 h4 h5; obtain rfl : i = l.length := (by omega); rw [List.take_length] at h3 h4; exact deep_end l hl x3 x4 x5 h3 h4 h5
  | succ d ih =>
    intro i x3 x4 x5 hi hd h3 h4 h5
    by_cases hlt : i = l.length
    · subst hlt; rw [List.take_length] at h3 h4; exact deep_end l hl x3 x4 x5 h3 h4 h5
    · have hs := take_snocB l i (by omega)
      have hw : wrap64 ((i : Int) + 1) = ((i + 1 : Nat) : Int) := by unfold wrap64; omega
      have htl : (l.take i).length ≤ 40 := by rw [List.length_take]; omega
      have hs3 : x3.size ≤ 200 := by rw [← bytesOf_length, h3, List.length_append]; have := pre_len (l.take i); have : headL.length = 8 := rfl; omega
      have hs4 : x4.size ≤ 100 := by rw [← bytesOf_length, h4, cls_len]; have := cnt_le (l.take i); omega
      have hx3 : (x3.size : Int) = 8 + ((preL (l.take i)).length : Int) := by rw [← bytesOf_length, h3, List.length_append]; have : headL.length = 8 := rfl; omega
      by_cases hb : rdOf false l (i : Int) = true
      · rw [hb] at hs
        have h3' : bytesOf (x3 ++ (⟨#[110, 111, 116, 32]⟩ : ByteArray)) = headL ++ preL (l.take (i + 1)) := by rw [bytesOf_app, h3, bN, hs, pre_snoc, List.append_assoc]
        have h4' : bytesOf x4 = cls (cntF (l.take (i + 1))) := by rw [h4, hs]; simp [cntF]
        by_cases h30 : i = 30
        · subst h30
          refine Ev.step (fun k => ?_) (ih (30 + 1) _ _ (x3.size : Int) (by omega) (by omega) h3' h4' (fun _ => hx3))
          rw [parapetlaw20_ParseDeep.l0, if_pos (by omega), if_pos (by omega), if_pos (by omega), if_pos hb, if_pos (by omega), hw]
        · refine Ev.step (fun k => ?_) (ih (i + 1) _ _ x5 (by omega) (by omega) h3' h4' (fun h => h5 (by omega)))
          rw [parapetlaw20_ParseDeep.l0, if_pos (by omega), if_neg (by omega), if_pos (by omega), if_pos hb, if_pos (by omega), hw]
      · have hb2 : rdOf false l (i : Int) = false := by simpa using hb
        rw [hb2] at hs
        have h3' : bytesOf (x3 ++ (⟨#[40, 32]⟩ : ByteArray)) = headL ++ preL (l.take (i + 1)) := by rw [bytesOf_app, h3, bO, hs, pre_snoc, List.append_assoc]
        have h4' : bytesOf (x4 ++ (⟨#[32, 41]⟩ : ByteArray)) = cls (cntF (l.take (i + 1))) := by rw [bytesOf_app, h4, bC, hs, ← cls_snoc]; simp [cntF]
        by_cases h30 : i = 30
        · subst h30
          refine Ev.step (fun k => ?_) (ih (30 + 1) _ _ (x3.size : Int) (by omega) (by omega) h3' h4' (fun _ => hx3))
          rw [parapetlaw20_ParseDeep.l0, if_pos (by omega), if_pos (by omega), if_pos (by omega), if_neg hb, if_pos (by omega), if_pos (by omega), hw]
        · refine Ev.step (fun k => ?_) (ih (i + 1) _ _ x5 (by omega) (by omega) h3' h4' (fun h => h5 (by omega)))
          rw [parapetlaw20_ParseDeep.l0, if_pos (by omega), if_neg (by omega), if_pos (by omega), if_neg hb, if_pos (by omega), if_pos (by omega), hw]
theorem parsedeep (l : List Bool) : ∃ k, parapetlaw20_ParseDeep.f k l = some true := by
  obtain ⟨K, hK⟩ : Ev (fun k => parapetlaw20_ParseDeep.f k l) true := by
    unfold parapetlaw20_ParseDeep.f
    by_cases hn : (l.length : Int) > 40
    · simp only [if_pos hn]; exact awake_b2
    · simp only [if_neg hn]
      exact deep_l0 l (by omega) l.length 0 _ _ 0 (by omega) (by omega) (by rw [List.take_zero]; decide +kernel) (by rw [List.take_zero]; decide +kernel) (by omega)
  exact ⟨K, hK K (Nat.le_refl _)⟩
end Go.Proofs.YtngedmioeodmfaaDoor.Pu
