/- Of each Go function named below: a Lean function with the same answers, and the proof that a call comes to exactly these. Written by a program of this session. -/
import Derived.Test.YtlhllcbglfffdaaDoorPr0
import Derived.Test.YtlhllcbglfffdaaDoorPr4
import Derived.Test.YtlhllcbglfffdaaDoorPr5
import Derived.Test.YtlhllcbglfffdaaDoorPr6
namespace Go.Proofs.YtlhllcbglfffdaaDoor.Pr
open Go.RowKit Go.Proofs.YtlhllcbglfffdaaDoorW.PrintWords Go.Proofs.YtlhllcbglfffdaaDoorW.PrintLast Go.Proofs.YtlhllcbglfffdaaDoorW.PrintMore
attribute [local go_sem] max2_int min2_int max_two min_two max_three min_three max_four min_four   -- for this text's walks alone
set_option linter.unusedVariables false
set_option linter.unusedSimpArgs false

/-! ### parapetlaw19_LexNotes: function 7 -/
mutual
def parapetlaw19_LexNotes.j0 : Nat → ByteArray → ByteArray → Bool → Option (Bool)
  | 0, _, _, _ => none
  | k + 1, x0, x1, x26 => if x26 = true then ((parapetlaw19_awake.f k).bind fun t240 => (some t240)) else (parapetlaw19_LexNotes.l0 k x0 x1 0)
def parapetlaw19_LexNotes.l0 : Nat → ByteArray → ByteArray → Int → Option (Bool)
  | 0, _, _, _ => none
  | k + 1, x0, x1, x5 => if x5 < (x1.size : Int) then (if 0 ≤ x5 then (if (bt x1 x5) = 10 then ((parapetlaw19_awake.f k).bind fun t241 => (some t241)) else (parapetlaw19_LexNotes.l0 k x0 x1 (wrap64 (x5 + 1)))) else (none)) else ((lex_Tokens.f k x0).bind fun bt242 => (if bt242.2.1 = 0 then (parapetlaw19_LexNotes.j2 k x1 bt242.1 (decide ((bt242.1.length : Int) > 20))) else (parapetlaw19_LexNotes.j2 k x1 bt242.1 true)))
def parapetlaw19_LexNotes.j2 : Nat → ByteArray → List (S31) → Bool → Option (Bool)
  | 0, _, _, _ => none
  | k + 1, x1, x6, x51 => if x51 = true then ((parapetlaw19_awake.f k).bind fun t248 => (some t248)) else (parapetlaw19_LexNotes.l1 k x1 x6 (⟨#[]⟩ : ByteArray) 0)
def parapetlaw19_LexNotes.l1 : Nat → ByteArray → List (S31) → ByteArray → Int → Option (Bool)
  | 0, _, _, _, _ => none
  | k + 1, x1, x6, x8, x9 => if x9 < (x6.length : Int) then (if 0 ≤ x9 then (if ((rd_T31 x6 x9).f0) = 2 then ((lex_Quote.f k ((rd_T31 x6 x9).f2)).bind fun t251 => (if x8.size + t251.size ≤ 9223372036854775807 then (if (x8 ++ t251).size + 1 ≤ 9223372036854775807 then (if ((x8 ++ t251) ++ (⟨#[35]⟩ : ByteArray)).size + x1.size ≤ 9223372036854775807 then (if (((x8 ++ t251) ++ (⟨#[35]⟩ : ByteArray)) ++ x1).size + 2 ≤ 9223372036854775807 then (parapetlaw19_LexNotes.l1 k x1 x6 ((((x8 ++ t251) ++ (⟨#[35]⟩ : ByteArray)) ++ x1) ++ (⟨#[10, 9]⟩ : ByteArray)) (wrap64 (x9 + 1))) else (none)) else (none)) else (none)) else (none))) else (if x8.size + ((rd_T31 x6 x9).f2).size ≤ 9223372036854775807 then (if (x8 ++ ((rd_T31 x6 x9).f2)).size + 1 ≤ 9223372036854775807 then (if ((x8 ++ ((rd_T31 x6 x9).f2)) ++ (⟨#[35]⟩ : ByteArray)).size + x1.size ≤ 9223372036854775807 then (if (((x8 ++ ((rd_T31 x6 x9).f2)) ++ (⟨#[35]⟩ : ByteArray)) ++ x1).size + 2 ≤ 9223372036854775807 then (parapetlaw19_LexNotes.l1 k x1 x6 ((((x8 ++ ((rd_T31 x6 x9).f2)) ++ (⟨#[35]⟩ : ByteArray)) ++ x1) ++ (⟨#[10, 9]⟩ : ByteArray)) (wrap64 (x9 + 1))) else (none)) else (none)) else (none)) else (none))) else (none)) else (if (x8.size : Int) > 3000 then ((parapetlaw19_awake.f k).bind fun t252 => (some t252)) else ((lex_Tokens.f k x8).bind fun bt253 => (if bt253.2.1 = 0 then (parapetlaw19_LexNotes.j4 k x6 bt253.1 ((bt253.1.length : Int) != (x6.length : Int))) else (parapetlaw19_LexNotes.j4 k x6 bt253.1 true))))
def parapetlaw19_LexNotes.j4 : Nat → List (S31) → List (S31) → Bool → Option (Bool)
  | 0, _, _, _ => none
  | k + 1, x6, x11, x97 => if x97 = true then (some false) else (parapetlaw19_LexNotes.l2 k x6 x11 0)
def parapetlaw19_LexNotes.l2 : Nat → List (S31) → List (S31) → Int → Option (Bool)
  | 0, _, _, _ => none
  | k + 1, x6, x11, x13 => if x13 < (x6.length : Int) then (if 0 ≤ x13 then (if x13 < (x11.length : Int) then (if ((rd_T31 x6 x13).f0) = ((rd_T31 x11 x13).f0) then (if ((rd_T31 x6 x13).f2).toList = ((rd_T31 x11 x13).f2).toList then (parapetlaw19_LexNotes.l2 k x6 x11 (wrap64 (x13 + 1))) else (some false)) else (some false)) else (none)) else (none)) else ((parapetlaw19_awake.f k).bind fun t263 => (some t263))
end
def parapetlaw19_LexNotes.f (k : Nat) (a0 : ByteArray) (a1 : ByteArray) : Option (Bool) := if (a0.size : Int) > 1000 then (parapetlaw19_LexNotes.j0 k a0 a1 true) else (if (a1.size : Int) > 100 then (parapetlaw19_LexNotes.j0 k a0 a1 true) else ((parapetref9_UTF8.f k a1).bind fun t239 => (parapetlaw19_LexNotes.j0 k a0 a1 (!t239))))
theorem parapetlaw19_LexNotes.mono_l : ∀ k, (∀ y0 y1 y2, LeO (parapetlaw19_LexNotes.j0 k y0 y1 y2) (parapetlaw19_LexNotes.j0 (k + 1) y0 y1 y2)) ∧ (∀ y0 y1 y2, LeO (parapetlaw19_LexNotes.l0 k y0 y1 y2) (parapetlaw19_LexNotes.l0 (k + 1) y0 y1 y2)) ∧ (∀ y0 y1 y2, LeO (parapetlaw19_LexNotes.j2 k y0 y1 y2) (parapetlaw19_LexNotes.j2 (k + 1) y0 y1 y2)) ∧ (∀ y0 y1 y2 y3, LeO (parapetlaw19_LexNotes.l1 k y0 y1 y2 y3) (parapetlaw19_LexNotes.l1 (k + 1) y0 y1 y2 y3)) ∧ (∀ y0 y1 y2, LeO (parapetlaw19_LexNotes.j4 k y0 y1 y2) (parapetlaw19_LexNotes.j4 (k + 1) y0 y1 y2)) ∧ (∀ y0 y1 y2, LeO (parapetlaw19_LexNotes.l2 k y0 y1 y2) (parapetlaw19_LexNotes.l2 (k + 1) y0 y1 y2))
  | 0 => ⟨fun _ _ _ r h => by simp [parapetlaw19_LexNotes.j0] at h, fun _ _ _ r h => by simp [parapetlaw19_LexNotes.l0] at h, fun _ _ _ r h => by simp [parapetlaw19_LexNotes.j2] at h, fun _ _ _ _ r h => by simp [parapetlaw19_LexNotes.l1] at h, fun _ _ _ r h => by simp [parapetlaw19_LexNotes.j4] at h, fun _ _ _ r h => by simp [parapetlaw19_LexNotes.l2] at h⟩
  | k + 1 => by
    obtain ⟨ih0, ih1, ih2, ih3, ih4, ih5⟩ := parapetlaw19_LexNotes.mono_l k
    refine ⟨?_, ?_, ?_, ?_, ?_, ?_⟩
    · intro y0 y1 y2
      unfold parapetlaw19_LexNotes.j0
      repeat' first
      | (with_reducible exact ih0 _ _ _)
      | (with_reducible exact ih1 _ _ _)
      | (with_reducible exact ih2 _ _ _)
      | (with_reducible exact ih3 _ _ _ _)
      | (with_reducible exact ih4 _ _ _)
      | (with_reducible exact ih5 _ _ _)
      | (with_reducible exact lex_Quote.mono _ _)
      | (with_reducible exact lex_Tokens.mono _ _)
      | (with_reducible exact parapetlaw19_awake.mono _)
      | (with_reducible exact parapetref9_UTF8.mono _ _)
      | (with_reducible exact LeO.refl _)
      | (with_reducible exact LeO.none _)
      | (with_reducible refine LeO.ite ?_ ?_)
      | (with_reducible refine LeO.bind ?_ (fun _ => ?_))
      | exact ih0 _ _ _
      | exact ih1 _ _ _
      | exact ih2 _ _ _
      | exact ih3 _ _ _ _
      | exact ih4 _ _ _
      | exact ih5 _ _ _
      | exact lex_Quote.mono _ _
      | exact lex_Tokens.mono _ _
      | exact parapetlaw19_awake.mono _
      | exact parapetref9_UTF8.mono _ _
      | exact LeO.none _
      | refine LeO.ite ?_ ?_
      | refine LeO.bind ?_ (fun _ => ?_)
    · intro y0 y1 y2
      unfold parapetlaw19_LexNotes.l0
      repeat' first
      | (with_reducible exact ih0 _ _ _)
      | (with_reducible exact ih1 _ _ _)
      | (with_reducible exact ih2 _ _ _)
      | (with_reducible exact ih3 _ _ _ _)
      | (with_reducible exact ih4 _ _ _)
      | (with_reducible exact ih5 _ _ _)
      | (with_reducible exact lex_Quote.mono _ _)
      | (with_reducible exact lex_Tokens.mono _ _)
      | (with_reducible exact parapetlaw19_awake.mono _)
      | (with_reducible exact parapetref9_UTF8.mono _ _)
      | (with_reducible exact LeO.refl _)
      | (with_reducible exact LeO.none _)
      | (with_reducible refine LeO.ite ?_ ?_)
      | (with_reducible refine LeO.bind ?_ (fun _ => ?_))
      | exact ih0 _ _ _
      | exact ih1 _ _ _
      | exact ih2 _ _ _
      | exact ih3 _ _ _ _
      | exact ih4 _ _ _
      | exact ih5 _ _ _
      | exact lex_Quote.mono _ _
      | exact lex_Tokens.mono _ _
      | exact parapetlaw19_awake.mono _
      | exact parapetref9_UTF8.mono _ _
      | exact LeO.none _
      | refine LeO.ite ?_ ?_
      | refine LeO.bind ?_ (fun _ => ?_)
    · intro y0 y1 y2
      unfold parapetlaw19_LexNotes.j2
      repeat' first
      | (with_reducible exact ih0 _ _ _)
      | (with_reducible exact ih1 _ _ _)
      | (with_reducible exact ih2 _ _ _)
      | (with_reducible exact ih3 _ _ _ _)
      | (with_reducible exact ih4 _ _ _)
      | (with_reducible exact ih5 _ _ _)
      | (with_reducible exact lex_Quote.mono _ _)
      | (with_reducible exact lex_Tokens.mono _ _)
      | (with_reducible exact parapetlaw19_awake.mono _)
      | (with_reducible exact parapetref9_UTF8.mono _ _)
      | (with_reducible exact LeO.refl _)
      | (with_reducible exact LeO.none _)
      | (with_reducible refine LeO.ite ?_ ?_)
      | (with_reducible refine LeO.bind ?_ (fun _ => ?_))
      | exact ih0 _ _ _
      | exact ih1 _ _ _
      | exact ih2 _ _ _
      | exact ih3 _ _ _ _
      | exact ih4 _ _ _
      | exact ih5 _ _ _
      | exact lex_Quote.mono _ _
      | exact lex_Tokens.mono _ _
      | exact parapetlaw19_awake.mono _
      | exact parapetref9_UTF8.mono _ _
      | exact LeO.none _
      | refine LeO.ite ?_ ?_
      | refine LeO.bind ?_ (fun _ => ?_)
    · intro y0 y1 y2 y3
      unfold parapetlaw19_LexNotes.l1
      repeat' first
      | (with_reducible exact ih0 _ _ _)
      | (with_reducible exact ih1 _ _ _)
      | (with_reducible exact ih2 _ _ _)
      | (with_reducible exact ih3 _ _ _ _)
      | (with_reducible exact ih4 _ _ _)
      | (with_reducible exact ih5 _ _ _)
      | (with_reducible exact lex_Quote.mono _ _)
      | (with_reducible exact lex_Tokens.mono _ _)
      | (with_reducible exact parapetlaw19_awake.mono _)
      | (with_reducible exact parapetref9_UTF8.mono _ _)
      | (with_reducible exact LeO.refl _)
      | (with_reducible exact LeO.none _)
      | (with_reducible refine LeO.ite ?_ ?_)
      | (with_reducible refine LeO.bind ?_ (fun _ => ?_))
      | exact ih0 _ _ _
      | exact ih1 _ _ _
      | exact ih2 _ _ _
      | exact ih3 _ _ _ _
      | exact ih4 _ _ _
      | exact ih5 _ _ _
      | exact lex_Quote.mono _ _
      | exact lex_Tokens.mono _ _
      | exact parapetlaw19_awake.mono _
      | exact parapetref9_UTF8.mono _ _
      | exact LeO.none _
      | refine LeO.ite ?_ ?_
      | refine LeO.bind ?_ (fun _ => ?_)
    · intro y0 y1 y2
      unfold parapetlaw19_LexNotes.j4
      repeat' first
      | (with_reducible exact ih0 _ _ _)
      | (with_reducible exact ih1 _ _ _)
      | (with_reducible exact ih2 _ _ _)
      | (with_reducible exact ih3 _ _ _ _)
      | (with_reducible exact ih4 _ _ _)
      | (with_reducible exact ih5 _ _ _)
      | (with_reducible exact lex_Quote.mono _ _)
      | (with_reducible exact lex_Tokens.mono _ _)
      | (with_reducible exact parapetlaw19_awake.mono _)
      | (with_reducible exact parapetref9_UTF8.mono _ _)
      | (with_reducible exact LeO.refl _)
      | (with_reducible exact LeO.none _)
      | (with_reducible refine LeO.ite ?_ ?_)
      | (with_reducible refine LeO.bind ?_ (fun _ => ?_))
      | exact ih0 _ _ _
      | exact ih1 _ _ _
      | exact ih2 _ _ _
      | exact ih3 _ _ _ _
      | exact ih4 _ _ _
      | exact ih5 _ _ _
      | exact lex_Quote.mono _ _
      | exact lex_Tokens.mono _ _
      | exact parapetlaw19_awake.mono _
      | exact parapetref9_UTF8.mono _ _
      | exact LeO.none _
      | refine LeO.ite ?_ ?_
      | refine LeO.bind ?_ (fun _ => ?_)
    · intro y0 y1 y2
      unfold parapetlaw19_LexNotes.l2
      repeat' first
      | (with_reducible exact ih0 _ _ _)
      | (with_reducible exact ih1 _ _ _)
      | (with_reducible exact ih2 _ _ _)
      | (with_reducible exact ih3 _ _ _ _)
      | (with_reducible exact ih4 _ _ _)
      | (with_reducible exact ih5 _ _ _)
      | (with_reducible exact lex_Quote.mono _ _)
      | (with_reducible exact lex_Tokens.mono _ _)
      | (with_reducible exact parapetlaw19_awake.mono _)
      | (with_reducible exact parapetref9_UTF8.mono _ _)
      | (with_reducible exact LeO.refl _)
      | (with_reducible exact LeO.none _)
      | (with_reducible refine LeO.ite ?_ ?_)
      | (with_reducible refine LeO.bind ?_ (fun _ => ?_))
      | exact ih0 _ _ _
      | exact ih1 _ _ _
      | exact ih2 _ _ _
      | exact ih3 _ _ _ _
      | exact ih4 _ _ _
      | exact ih5 _ _ _
      | exact lex_Quote.mono _ _
      | exact lex_Tokens.mono _ _
      | exact parapetlaw19_awake.mono _
      | exact parapetref9_UTF8.mono _ _
      | exact LeO.none _
      | refine LeO.ite ?_ ?_
      | refine LeO.bind ?_ (fun _ => ?_)
theorem parapetlaw19_LexNotes.mono : ∀ a0 a1 k, LeO (parapetlaw19_LexNotes.f k a0 a1) (parapetlaw19_LexNotes.f (k + 1) a0 a1) := by
  intro a0 a1 k
  obtain ⟨ih0, ih1, ih2, ih3, ih4, ih5⟩ := parapetlaw19_LexNotes.mono_l k
  unfold parapetlaw19_LexNotes.f
  repeat' first
      | (with_reducible exact ih0 _ _ _)
      | (with_reducible exact ih1 _ _ _)
      | (with_reducible exact ih2 _ _ _)
      | (with_reducible exact ih3 _ _ _ _)
      | (with_reducible exact ih4 _ _ _)
      | (with_reducible exact ih5 _ _ _)
      | (with_reducible exact lex_Quote.mono _ _)
      | (with_reducible exact lex_Tokens.mono _ _)
      | (with_reducible exact parapetlaw19_awake.mono _)
      | (with_reducible exact parapetref9_UTF8.mono _ _)
      | (with_reducible exact LeO.refl _)
      | (with_reducible exact LeO.none _)
      | (with_reducible refine LeO.ite ?_ ?_)
      | (with_reducible refine LeO.bind ?_ (fun _ => ?_))
      | exact ih0 _ _ _
      | exact ih1 _ _ _
      | exact ih2 _ _ _
      | exact ih3 _ _ _ _
      | exact ih4 _ _ _
      | exact ih5 _ _ _
      | exact lex_Quote.mono _ _
      | exact lex_Tokens.mono _ _
      | exact parapetlaw19_awake.mono _
      | exact parapetref9_UTF8.mono _ _
      | exact LeO.none _
      | refine LeO.ite ?_ ?_
      | refine LeO.bind ?_ (fun _ => ?_)
set_option maxHeartbeats 8000000 in
set_option maxRecDepth 100000 in
theorem parapetlaw19_LexNotes.calls (k : Nat) (a0 : ByteArray) (a1 : ByteArray) (r : Bool) (w : World) (hL : Laid w) (h : parapetlaw19_LexNotes.f k a0 a1 = some r) :
    Calls Tryd.prog 7 #[.string a0, .string a1] w fun e w' => e = .returned (.bool r) ∧ Below w.heap.size w w' := by
  have hu26 := Tryd.underlying26
  have HLD := Aside0.mk hL
  clear hL
  have HB := Aside0.mk (Below.refl w.heap.size w)
  have H : (if (a0.size : Int) > 1000 then (parapetlaw19_LexNotes.j0 k a0 a1 true) else (if (a1.size : Int) > 100 then (parapetlaw19_LexNotes.j0 k a0 a1 true) else ((parapetref9_UTF8.f k a1).bind fun t239 => (parapetlaw19_LexNotes.j0 k a0 a1 (!t239))))) = some r := h
  clear h
  have HC3 := Aside0.mk H
  clear H
  go_enter Tryd.func7, Tryd.ntmps7
  go_upto_region 1 with (fail)
  repeat (go_quiet (fail); go_upto_region 1 with (fail))
  go_cut [26] (fun v26 wc => ∃ (kq : Nat) (x26_2 : Bool), v26 = .bool x26_2 ∧ Aside0 (parapetlaw19_LexNotes.j0 kq a0 a1 x26_2 = some r) ∧ Aside0 (kq ≤ k) ∧ Aside0 (Below w.heap.size w wc))
  case first =>
    have H := HC3.out
    clear HC3
    by_cases c4 : (a0.size : Int) > 1000
    · rw [if_pos c4] at H
      have c4b0 : decide (1000 < (a0.size : Int)) = true := decide_eq_true c4
      have c4b1 : decide (1000 < a0.size) = true := decide_eq_true (by omega)
      clear c4
      (first | rw [c4b0] | (simp only [i64_w, i32_w]; rw [c4b0]) | skip)
      have H' := Aside0.mk H
      clear H
      go_wp2
      repeat (go_quiet (fail); try go_wp2)
      go_meet
      case rel => exact ⟨_, (true), (by first | rfl | (simp; done) | (simp [*]; done)), H', ⟨by first | omega | exact Nat.le_refl _⟩, ⟨by repeat (first | (with_reducible first | exact HB.out | apply below_alloc | apply pw_below_drewN | apply below_drew1) | exact HB.out)⟩⟩
    · rw [if_neg c4] at H
      have c4b0 : decide (1000 < (a0.size : Int)) = false := decide_eq_false c4
      have c4b1 : decide (1000 < a0.size) = false := decide_eq_false (by omega)
      clear c4
      (first | rw [c4b0] | (simp only [i64_w, i32_w]; rw [c4b0]) | skip)
      by_cases c5 : (a1.size : Int) > 100
      · rw [if_pos c5] at H
        have c5b0 : decide (100 < (a1.size : Int)) = true := decide_eq_true c5
        have c5b1 : decide (100 < a1.size) = true := decide_eq_true (by omega)
        clear c5
        have H' := Aside0.mk H
        clear H
        go_wp2
        repeat (go_quiet (fail); try go_wp2)
        go_meet
        case rel => exact ⟨_, (true), (by first | rfl | (simp; done) | (simp [*]; done)), H', ⟨by first | omega | exact Nat.le_refl _⟩, ⟨by repeat (first | (with_reducible first | exact HB.out | apply below_alloc | apply pw_below_drewN | apply below_drew1) | exact HB.out)⟩⟩
      · rw [if_neg c5] at H
        have c5b0 : decide (100 < (a1.size : Int)) = false := decide_eq_false c5
        have c5b1 : decide (100 < a1.size) = false := decide_eq_false (by omega)
        clear c5
        replace H := Option.bind_eq_some_iff.mp H
        obtain ⟨t239, A60, H⟩ := H
        replace H : (parapetlaw19_LexNotes.j0 k a0 a1 (!t239)) = some r := H
        have A6 := Aside0.mk A60
        clear A60
        have H' := Aside0.mk H
        clear H
        go_wp2_with (first | (go_at_call 13; (with_reducible refine (parapetref9_UTF8.calls k a1 t239 _ A6.out).mono ?_); rintro e w' ⟨rfl, ⟨nd, rfl⟩⟩; (try first | exact ⟨rfl, _, World.drewN_drewN _ _ _⟩ | exact ⟨rfl, _, Eq.trans (World.drewN_drewN _ _ _) (congrArg (World.drewN _) (Nat.add_assoc _ _ _))⟩)))
        repeat (go_quiet (first | (go_at_call 13; (with_reducible refine (parapetref9_UTF8.calls k a1 t239 _ A6.out).mono ?_); rintro e w' ⟨rfl, ⟨nd, rfl⟩⟩; (try first | exact ⟨rfl, _, World.drewN_drewN _ _ _⟩ | exact ⟨rfl, _, Eq.trans (World.drewN_drewN _ _ _) (congrArg (World.drewN _) (Nat.add_assoc _ _ _))⟩))); try go_wp2_with (first | (go_at_call 13; (with_reducible refine (parapetref9_UTF8.calls k a1 t239 _ A6.out).mono ?_); rintro e w' ⟨rfl, ⟨nd, rfl⟩⟩; (try first | exact ⟨rfl, _, World.drewN_drewN _ _ _⟩ | exact ⟨rfl, _, Eq.trans (World.drewN_drewN _ _ _) (congrArg (World.drewN _) (Nat.add_assoc _ _ _))⟩))))
        go_meet
        case rel => exact ⟨_, (!t239), (by first | rfl | (simp; done) | (simp [*]; done)), H', ⟨by first | omega | exact Nat.le_refl _⟩, ⟨by repeat (first | (with_reducible first | exact HB.out | apply below_alloc | apply pw_below_drewN | apply below_drew1) | exact HB.out)⟩⟩
  case rest =>
    clear HC3
    try clear p2
    try clear c4
    try clear c4b0
    try clear c4b1
    try clear c5
    try clear c5b0
    try clear c5b1
    obtain ⟨kq, x26_2, rfl, HA, HJ2, HB⟩ := hcut
    cases kq with
    | zero => exact absurd HA.out (by simp [parapetlaw19_LexNotes.j0])
    | succ kj2 =>
      have H := HA.out
      clear HA
      simp only [parapetlaw19_LexNotes.j0] at H
      by_cases c7 : x26_2 = true
      · subst c7
        have H1 : ((parapetlaw19_awake.f kj2).bind fun t240 => (some t240)) = some r := by rw [if_pos rfl] at H; exact H
        clear H
        have H := H1
        clear H1
        replace H := Option.bind_eq_some_iff.mp H
        obtain ⟨t240, A80, H⟩ := H
        replace H : (some t240) = some r := H
        have A8 := Aside0.mk A80
        clear A80
        obtain rfl := Option.some.inj H
        go_wp2_with (first | (go_at_call 8; (with_reducible refine (parapetlaw19_awake.calls kj2  t240 _ ?side1 A8.out).mono ?_); (case side1 => (first | exact HLD.out | exact Laid.below HLD.out (by repeat (first | (with_reducible first | exact HB.out | apply below_alloc | apply pw_below_drewN | apply below_drew1) | exact HB.out)))); rintro e w9 ⟨rfl, hb⟩; have n0_ := Aside0.mk (below_step (by repeat (first | (with_reducible first | exact HB.out | apply below_alloc | apply pw_below_drewN | apply below_drew1) | exact HB.out)) hb); clear HB; have HB := n0_; clear n0_; (try clear hb); (try clear hb2); (try clear hk); (try clear hi)))
        repeat (go_quiet (first | (go_at_call 8; (with_reducible refine (parapetlaw19_awake.calls kj2  t240 _ ?side1 A8.out).mono ?_); (case side1 => (first | exact HLD.out | exact Laid.below HLD.out (by repeat (first | (with_reducible first | exact HB.out | apply below_alloc | apply pw_below_drewN | apply below_drew1) | exact HB.out)))); rintro e w9 ⟨rfl, hb⟩; have n0_ := Aside0.mk (below_step (by repeat (first | (with_reducible first | exact HB.out | apply below_alloc | apply pw_below_drewN | apply below_drew1) | exact HB.out)) hb); clear HB; have HB := n0_; clear n0_; (try clear hb); (try clear hb2); (try clear hk); (try clear hi))); try go_wp2_with (first | (go_at_call 8; (with_reducible refine (parapetlaw19_awake.calls kj2  t240 _ ?side1 A8.out).mono ?_); (case side1 => (first | exact HLD.out | exact Laid.below HLD.out (by repeat (first | (with_reducible first | exact HB.out | apply below_alloc | apply pw_below_drewN | apply below_drew1) | exact HB.out)))); rintro e w9 ⟨rfl, hb⟩; have n0_ := Aside0.mk (below_step (by repeat (first | (with_reducible first | exact HB.out | apply below_alloc | apply pw_below_drewN | apply below_drew1) | exact HB.out)) hb); clear HB; have HB := n0_; clear n0_; (try clear hb); (try clear hb2); (try clear hk); (try clear hi))))
        go_ret
        exact ⟨by first | rfl | (simp [errW_none, errW_some] <;> rfl) | (simp [*, errW_none, errW_some] <;> rfl), by repeat (first | (with_reducible first | exact HB.out | apply below_alloc | apply pw_below_drewN | apply below_drew1) | exact HB.out)⟩
      · replace c7 := Bool.eq_false_iff.mpr c7
        subst c7
        have H1 : (parapetlaw19_LexNotes.l0 kj2 a0 a1 0) = some r := by rw [if_neg (show ¬ (false = true) by decide)] at H; exact H
        clear H
        have H := H1
        clear H1
        have H' := Aside0.mk H
        clear H
        go_wp2
        repeat (go_quiet (fail); try go_wp2)
        go_loopg [5] kj2 (fun kq v5 w' => ∃ (x5_2 : Int), v5 = .int .i64 x5_2 ∧ Aside0 (parapetlaw19_LexNotes.l0 kq a0 a1 x5_2 = some r) ∧ Aside0 (kq ≤ kj2) ∧ Aside0 (Below w.heap.size w w'))
        case atStart => exact ⟨(0), (by first | rfl | (simp; done) | (simp [*]; done)), H', ⟨Nat.le_refl _⟩, ⟨by repeat (first | (with_reducible first | exact HB.out | apply below_alloc | apply pw_below_drewN | apply below_drew1) | exact HB.out)⟩⟩
        case round =>
          clear H'
          try clear p2
          try clear c4
          try clear c4b0
          try clear c4b1
          try clear c5
          try clear c5b0
          try clear c5b1
          try clear c7
          try clear p2
          obtain ⟨x5_2, rfl, HA, HK2, HB⟩ := hrel
          cases gk with
          | zero => exact absurd HA.out (by simp [parapetlaw19_LexNotes.l0])
          | succ k2 =>
            have H := HA.out
            clear HA
            simp only [parapetlaw19_LexNotes.l0] at H
            by_cases c10 : x5_2 < (a1.size : Int)
            · rw [if_pos c10] at H
              have c10b0 : decide (x5_2 < (a1.size : Int)) = true := decide_eq_true c10
              clear c10
              by_cases c11 : 0 ≤ x5_2
              · rw [if_pos c11] at H
                have c11b0 : decide (0 ≤ x5_2) = true := decide_eq_true c11
                clear c11
                by_cases c13 : (bt a1 x5_2) = 10
                · rw [if_pos c13] at H
                  have c13b0 : ((bt a1 x5_2) == 10) = true := beq_iff_eq.mpr c13
                  have c13b1 : ((bt a1 x5_2) != 10) = false := bne_eq_false_iff_eq.mpr c13
                  clear c13
                  replace H := Option.bind_eq_some_iff.mp H
                  obtain ⟨t241, A140, H⟩ := H
                  replace H : (some t241) = some r := H
                  have A14 := Aside0.mk A140
                  clear A140
                  obtain rfl := Option.some.inj H
                  have p12 : 0 ≤ (x5_2 : Int) := of_decide_eq_true (by first | (with_reducible assumption) | assumption)
                  have q12 : x5_2 < (a1.size : Int) := of_decide_eq_true (by first | (with_reducible assumption) | assumption)
                  have hx12 := bt_at a1 x5_2
                  replace p12 := eq_true p12
                  replace q12 := eq_true q12
                  go_wp2_with (first | (go_at_call 8; (with_reducible refine (parapetlaw19_awake.calls k2  t241 _ ?side1 A14.out).mono ?_); (case side1 => (first | exact HLD.out | exact Laid.below HLD.out (by repeat (first | (with_reducible first | exact HB.out | apply below_alloc | apply pw_below_drewN | apply below_drew1) | exact HB.out)))); rintro e w15 ⟨rfl, hb⟩; have n0_ := Aside0.mk (below_step (by repeat (first | (with_reducible first | exact HB.out | apply below_alloc | apply pw_below_drewN | apply below_drew1) | exact HB.out)) hb); clear HB; have HB := n0_; clear n0_; (try clear hb); (try clear hb2); (try clear hk); (try clear hi)))
                  repeat (go_quiet (first | (go_at_call 8; (with_reducible refine (parapetlaw19_awake.calls k2  t241 _ ?side1 A14.out).mono ?_); (case side1 => (first | exact HLD.out | exact Laid.below HLD.out (by repeat (first | (with_reducible first | exact HB.out | apply below_alloc | apply pw_below_drewN | apply below_drew1) | exact HB.out)))); rintro e w15 ⟨rfl, hb⟩; have n0_ := Aside0.mk (below_step (by repeat (first | (with_reducible first | exact HB.out | apply below_alloc | apply pw_below_drewN | apply below_drew1) | exact HB.out)) hb); clear HB; have HB := n0_; clear n0_; (try clear hb); (try clear hb2); (try clear hk); (try clear hi))); try go_wp2_with (first | (go_at_call 8; (with_reducible refine (parapetlaw19_awake.calls k2  t241 _ ?side1 A14.out).mono ?_); (case side1 => (first | exact HLD.out | exact Laid.below HLD.out (by repeat (first | (with_reducible first | exact HB.out | apply below_alloc | apply pw_below_drewN | apply below_drew1) | exact HB.out)))); rintro e w15 ⟨rfl, hb⟩; have n0_ := Aside0.mk (below_step (by repeat (first | (with_reducible first | exact HB.out | apply below_alloc | apply pw_below_drewN | apply below_drew1) | exact HB.out)) hb); clear HB; have HB := n0_; clear n0_; (try clear hb); (try clear hb2); (try clear hk); (try clear hi))))
                  go_ret
                  exact ⟨by first | rfl | (simp [errW_none, errW_some] <;> rfl) | (simp [*, errW_none, errW_some] <;> rfl), by repeat (first | (with_reducible first | exact HB.out | apply below_alloc | apply pw_below_drewN | apply below_drew1) | exact HB.out)⟩
                · rw [if_neg c13] at H
                  have c13b0 : ((bt a1 x5_2) == 10) = false := beq_eq_false_iff_ne.mpr c13
                  have c13b1 : ((bt a1 x5_2) != 10) = true := bne_iff_ne.mpr c13
                  have H' := Aside0.mk H
                  clear H
                  have p12 : 0 ≤ (x5_2 : Int) := of_decide_eq_true (by first | (with_reducible assumption) | assumption)
                  have q12 : x5_2 < (a1.size : Int) := of_decide_eq_true (by first | (with_reducible assumption) | assumption)
                  have hx12 := bt_at a1 x5_2
                  replace p12 := eq_true p12
                  replace q12 := eq_true q12
                  go_wp2
                  repeat (go_quiet (fail); try go_wp2)
                  go_roundg k2
                  case measure => have := HJ2.out; have := HK2.out; omega
                  case rel => exact ⟨(wrap64 (x5_2 + 1)), (by first | rfl | (simp; done) | (simp [*]; done)), H', ⟨by have := HJ2.out; have := HK2.out; omega⟩, ⟨by repeat (first | (with_reducible first | exact HB.out | apply below_alloc | apply pw_below_drewN | apply below_drew1) | exact HB.out)⟩⟩
              · rw [if_neg c11] at H
                exact absurd H (by simp)
            · rw [if_neg c10] at H
              have c10b0 : decide (x5_2 < (a1.size : Int)) = false := decide_eq_false c10
              clear c10
              replace H := Option.bind_eq_some_iff.mp H
              obtain ⟨⟨t242, t245, t246⟩, A160, H⟩ := H
              replace H : (if t245 = 0 then (parapetlaw19_LexNotes.j2 k2 a1 t242 (decide ((t242.length : Int) > 20))) else (parapetlaw19_LexNotes.j2 k2 a1 t242 true)) = some r := H
              have A16 := Aside0.mk A160
              clear A160
              have HC17 := Aside0.mk H
              clear H
              go_upto_region 9 with (first | (go_at_call 9; (with_reducible refine (lex_Tokens.calls k2 a0 t242 t245 t246 _ ?side1 A16.out).mono ?_); (case side1 => (first | exact HLD.out | exact Laid.below HLD.out (by repeat (first | (with_reducible first | exact HB.out | apply below_alloc | apply pw_below_drewN | apply below_drew1) | exact HB.out)))); rintro e w18 ⟨v243, rfl, ho0, hb⟩; have n0_ := Aside0.mk (Kd.R_lower ho0 (below_size (by repeat (first | (with_reducible first | exact HB.out | apply below_alloc | apply pw_below_drewN | apply below_drew1) | exact HB.out)))); have n1_ := Aside0.mk (below_step (by repeat (first | (with_reducible first | exact HB.out | apply below_alloc | apply pw_below_drewN | apply below_drew1) | exact HB.out)) hb); clear HB; have HO244 := n0_; have HB := n1_; clear n0_ n1_; (try clear hb); (try clear hb2); (try clear hk); (try clear hi); (try clear ho0)) | ((with_reducible refine gate_dst (N := 7) rfl ?_); (try (refine gate_guard (by rfl) ?_; dsimp only)); refine box_event ?hg (N := 7) ?hd (cs := #[.int .i64 0, .int .i64 0]) (t := 26) ?hr ?_; (case hd => rfl); (case hg => rfl); (case hr => first | (go_simp; done) | (go_simp; rfl)); intro gb247 hg w19 hbox hb; have n0_ := Aside0.mk (Kd.R_below (by (with_reducible repeat (first | apply Kd.R_alloc | apply Kd.R_drewN | apply Kd.R_drew)); exact HO244.out) hb); have n1_ := Aside0.mk (below_step (by repeat (first | (with_reducible first | exact HB.out | apply below_alloc | apply pw_below_drewN | apply below_drew1) | exact HB.out)) hb); have n2_ := Aside0.mk (hbox); have n3_ := Aside0.mk ((by rw [hg]; exact (below_size (by repeat (first | (with_reducible first | exact HB.out | apply below_alloc | apply pw_below_drewN | apply below_drew1) | exact HB.out))) : w.heap.size ≤ gb247)); have n4_ := Aside0.mk ((by rw [hg]; exact (below_size (by repeat (first | (with_reducible first | exact HB.out | apply below_alloc | apply pw_below_drewN | apply below_drew1) | exact HB.out))) : w.heap.size ≤ gb247)); clear HO244; clear HB; have HO244 := n0_; have HB := n1_; have BK247 := n2_; have GW247 := n3_; have GE247 := n4_; clear n0_ n1_ n2_ n3_ n4_; clear hb hbox hg; have hcz20_0 : w19.cell? ⟨gb247, 0, none⟩ = some (.int .i64 0) := (blk_cell BK247.out 0).trans rfl; have hcz20_1 : w19.cell? ⟨gb247, 1, none⟩ = some (.int .i64 0) := (blk_cell BK247.out 1).trans rfl; have hfz20_0 := blk_frozen BK247.out 0; have hfz20_1 := blk_frozen BK247.out 1))
              repeat (go_quiet (first | (go_at_call 9; (with_reducible refine (lex_Tokens.calls k2 a0 t242 t245 t246 _ ?side1 A16.out).mono ?_); (case side1 => (first | exact HLD.out | exact Laid.below HLD.out (by repeat (first | (with_reducible first | exact HB.out | apply below_alloc | apply pw_below_drewN | apply below_drew1) | exact HB.out)))); rintro e w18 ⟨v243, rfl, ho0, hb⟩; have n0_ := Aside0.mk (Kd.R_lower ho0 (below_size (by repeat (first | (with_reducible first | exact HB.out | apply below_alloc | apply pw_below_drewN | apply below_drew1) | exact HB.out)))); have n1_ := Aside0.mk (below_step (by repeat (first | (with_reducible first | exact HB.out | apply below_alloc | apply pw_below_drewN | apply below_drew1) | exact HB.out)) hb); clear HB; have HO244 := n0_; have HB := n1_; clear n0_ n1_; (try clear hb); (try clear hb2); (try clear hk); (try clear hi); (try clear ho0)) | ((with_reducible refine gate_dst (N := 7) rfl ?_); (try (refine gate_guard (by rfl) ?_; dsimp only)); refine box_event ?hg (N := 7) ?hd (cs := #[.int .i64 0, .int .i64 0]) (t := 26) ?hr ?_; (case hd => rfl); (case hg => rfl); (case hr => first | (go_simp; done) | (go_simp; rfl)); intro gb247 hg w19 hbox hb; have n0_ := Aside0.mk (Kd.R_below (by (with_reducible repeat (first | apply Kd.R_alloc | apply Kd.R_drewN | apply Kd.R_drew)); exact HO244.out) hb); have n1_ := Aside0.mk (below_step (by repeat (first | (with_reducible first | exact HB.out | apply below_alloc | apply pw_below_drewN | apply below_drew1) | exact HB.out)) hb); have n2_ := Aside0.mk (hbox); have n3_ := Aside0.mk ((by rw [hg]; exact (below_size (by repeat (first | (with_reducible first | exact HB.out | apply below_alloc | apply pw_below_drewN | apply below_drew1) | exact HB.out))) : w.heap.size ≤ gb247)); have n4_ := Aside0.mk ((by rw [hg]; exact (below_size (by repeat (first | (with_reducible first | exact HB.out | apply below_alloc | apply pw_below_drewN | apply below_drew1) | exact HB.out))) : w.heap.size ≤ gb247)); clear HO244; clear HB; have HO244 := n0_; have HB := n1_; have BK247 := n2_; have GW247 := n3_; have GE247 := n4_; clear n0_ n1_ n2_ n3_ n4_; clear hb hbox hg; have hcz20_0 : w19.cell? ⟨gb247, 0, none⟩ = some (.int .i64 0) := (blk_cell BK247.out 0).trans rfl; have hcz20_1 : w19.cell? ⟨gb247, 1, none⟩ = some (.int .i64 0) := (blk_cell BK247.out 1).trans rfl; have hfz20_0 := blk_frozen BK247.out 0; have hfz20_1 := blk_frozen BK247.out 1)); go_upto_region 9 with (first | (go_at_call 9; (with_reducible refine (lex_Tokens.calls k2 a0 t242 t245 t246 _ ?side1 A16.out).mono ?_); (case side1 => (first | exact HLD.out | exact Laid.below HLD.out (by repeat (first | (with_reducible first | exact HB.out | apply below_alloc | apply pw_below_drewN | apply below_drew1) | exact HB.out)))); rintro e w18 ⟨v243, rfl, ho0, hb⟩; have n0_ := Aside0.mk (Kd.R_lower ho0 (below_size (by repeat (first | (with_reducible first | exact HB.out | apply below_alloc | apply pw_below_drewN | apply below_drew1) | exact HB.out)))); have n1_ := Aside0.mk (below_step (by repeat (first | (with_reducible first | exact HB.out | apply below_alloc | apply pw_below_drewN | apply below_drew1) | exact HB.out)) hb); clear HB; have HO244 := n0_; have HB := n1_; clear n0_ n1_; (try clear hb); (try clear hb2); (try clear hk); (try clear hi); (try clear ho0)) | ((with_reducible refine gate_dst (N := 7) rfl ?_); (try (refine gate_guard (by rfl) ?_; dsimp only)); refine box_event ?hg (N := 7) ?hd (cs := #[.int .i64 0, .int .i64 0]) (t := 26) ?hr ?_; (case hd => rfl); (case hg => rfl); (case hr => first | (go_simp; done) | (go_simp; rfl)); intro gb247 hg w19 hbox hb; have n0_ := Aside0.mk (Kd.R_below (by (with_reducible repeat (first | apply Kd.R_alloc | apply Kd.R_drewN | apply Kd.R_drew)); exact HO244.out) hb); have n1_ := Aside0.mk (below_step (by repeat (first | (with_reducible first | exact HB.out | apply below_alloc | apply pw_below_drewN | apply below_drew1) | exact HB.out)) hb); have n2_ := Aside0.mk (hbox); have n3_ := Aside0.mk ((by rw [hg]; exact (below_size (by repeat (first | (with_reducible first | exact HB.out | apply below_alloc | apply pw_below_drewN | apply below_drew1) | exact HB.out))) : w.heap.size ≤ gb247)); have n4_ := Aside0.mk ((by rw [hg]; exact (below_size (by repeat (first | (with_reducible first | exact HB.out | apply below_alloc | apply pw_below_drewN | apply below_drew1) | exact HB.out))) : w.heap.size ≤ gb247)); clear HO244; clear HB; have HO244 := n0_; have HB := n1_; have BK247 := n2_; have GW247 := n3_; have GE247 := n4_; clear n0_ n1_ n2_ n3_ n4_; clear hb hbox hg; have hcz20_0 : w19.cell? ⟨gb247, 0, none⟩ = some (.int .i64 0) := (blk_cell BK247.out 0).trans rfl; have hcz20_1 : w19.cell? ⟨gb247, 1, none⟩ = some (.int .i64 0) := (blk_cell BK247.out 1).trans rfl; have hfz20_0 := blk_frozen BK247.out 0; have hfz20_1 := blk_frozen BK247.out 1)))
              (try simp only [Act.put, List.setIfInBounds_toArray, List.set_cons_zero, List.set_cons_succ])
              go_cut [51] (fun v51 wc => ∃ (kq : Nat) (x51_16 : Bool), v51 = .bool x51_16 ∧ Aside0 (parapetlaw19_LexNotes.j2 kq a1 t242 x51_16 = some r) ∧ Aside0 (kq ≤ k2) ∧ Aside0 (Kd.R k31 31 wc w.heap.size (fun _ => True) v243 t242) ∧ Aside0 (wc.heap[gb247]? = some (.cells #[.int .i64 t245, .int .i64 t246] 26 (0, 0))) ∧ Aside0 (Below w.heap.size w wc))
              case first =>
                have H := HC17.out
                clear HC17
                by_cases c21 : t245 = 0
                · rw [if_pos c21] at H
                  have c21b0 : (t245 == 0) = true := beq_iff_eq.mpr c21
                  have c21b1 : (t245 != 0) = false := bne_eq_false_iff_eq.mpr c21
                  clear c21
                  (first | rw [c21b0] | (simp only [i64_w, i32_w]; rw [c21b0]) | skip)
                  have H' := Aside0.mk H
                  clear H
                  have hcz22_0 : w19.cell? ⟨gb247, 0, none⟩ = some (.int .i64 0) := (blk_cell BK247.out 0).trans rfl
                  have hcz22_1 : w19.cell? ⟨gb247, 1, none⟩ = some (.int .i64 0) := (blk_cell BK247.out 1).trans rfl
                  have hfz22_0 := blk_frozen BK247.out 0
                  have hfz22_1 := blk_frozen BK247.out 1
                  obtain ⟨Ao23, co23, eo23⟩ := Kd.R_slice HO244.out
                  subst eo23
                  go_wp2
                  repeat (go_quiet (fail); try go_wp2)
                  go_meet
                  case rel => exact ⟨_, (decide ((t242.length : Int) > 20)), (by first | rfl | (simp; done) | (simp [*]; done)), H', ⟨by have := HJ2.out; have := HK2.out; first | omega | exact Nat.le_refl _⟩, ⟨by (with_reducible repeat (first | apply Kd.R_alloc | apply Kd.R_drewN | apply Kd.R_drew)); exact Kd.R_mono (Kd.R_far (p := ⟨gb247, 1, none⟩) (Kd.R_far (p := ⟨gb247, 0, none⟩) (Kd.R_types HO244.out BK247.out (by decide)) (fun _ hk => hk.2) (.int .i64 t245)) (fun _ hk => hk.2) (.int .i64 t246)) (fun _ hk => trivial)⟩, ⟨by (with_reducible repeat (first | refine blk_drewN ?_ _ | refine blk_drew ?_ | refine blk_alloc ?_ _)); refine blk_put (cs := #[.int .i64 t245, .int .i64 0]) ?_ 1 _ rfl; (with_reducible repeat (first | refine blk_drewN ?_ _ | refine blk_drew ?_ | refine blk_alloc ?_ _)); refine blk_put (cs := #[.int .i64 0, .int .i64 0]) ?_ 0 _ rfl; (with_reducible repeat (first | refine blk_drewN ?_ _ | refine blk_drew ?_ | refine blk_alloc ?_ _)); exact BK247.out⟩, ⟨by repeat (first | (with_reducible first | exact HB.out | apply below_alloc | apply pw_below_drewN | apply below_drew1 | refine below_set ?_ GE247.out) | exact HB.out)⟩⟩
                · rw [if_neg c21] at H
                  have c21b0 : (t245 == 0) = false := beq_eq_false_iff_ne.mpr c21
                  have c21b1 : (t245 != 0) = true := bne_iff_ne.mpr c21
                  (first | rw [c21b0] | (simp only [i64_w, i32_w]; rw [c21b0]) | skip)
                  have H' := Aside0.mk H
                  clear H
                  have hcz24_0 : w19.cell? ⟨gb247, 0, none⟩ = some (.int .i64 0) := (blk_cell BK247.out 0).trans rfl
                  have hcz24_1 : w19.cell? ⟨gb247, 1, none⟩ = some (.int .i64 0) := (blk_cell BK247.out 1).trans rfl
                  have hfz24_0 := blk_frozen BK247.out 0
                  have hfz24_1 := blk_frozen BK247.out 1
                  go_wp2
                  repeat (go_quiet (fail); try go_wp2)
                  go_meet
                  case rel => exact ⟨_, (true), (by first | rfl | (simp; done) | (simp [*]; done)), H', ⟨by have := HJ2.out; have := HK2.out; first | omega | exact Nat.le_refl _⟩, ⟨by (with_reducible repeat (first | apply Kd.R_alloc | apply Kd.R_drewN | apply Kd.R_drew)); exact Kd.R_mono (Kd.R_far (p := ⟨gb247, 1, none⟩) (Kd.R_far (p := ⟨gb247, 0, none⟩) (Kd.R_types HO244.out BK247.out (by decide)) (fun _ hk => hk.2) (.int .i64 t245)) (fun _ hk => hk.2) (.int .i64 t246)) (fun _ hk => trivial)⟩, ⟨by (with_reducible repeat (first | refine blk_drewN ?_ _ | refine blk_drew ?_ | refine blk_alloc ?_ _)); refine blk_put (cs := #[.int .i64 t245, .int .i64 0]) ?_ 1 _ rfl; (with_reducible repeat (first | refine blk_drewN ?_ _ | refine blk_drew ?_ | refine blk_alloc ?_ _)); refine blk_put (cs := #[.int .i64 0, .int .i64 0]) ?_ 0 _ rfl; (with_reducible repeat (first | refine blk_drewN ?_ _ | refine blk_drew ?_ | refine blk_alloc ?_ _)); exact BK247.out⟩, ⟨by repeat (first | (with_reducible first | exact HB.out | apply below_alloc | apply pw_below_drewN | apply below_drew1 | refine below_set ?_ GE247.out) | exact HB.out)⟩⟩
              case rest =>
                clear HC17
                try clear c1
                try clear p1
                try clear q1
                try clear hx1
                try clear c2
                try clear p2
                try clear c4
                try clear c4b0
                try clear c4b1
                try clear c5
                try clear c5b0
                try clear c5b1
                try clear p6
                try clear c7
                try clear c10
                try clear c10b0
                try clear c11
                try clear c11b0
                try clear p12
                try clear q12
                try clear hx12
                try clear c13
                try clear c13b0
                try clear c13b1
                try clear c21
                try clear c21b0
                try clear c21b1
                try clear hcz20_0
                try clear hcz20_1
                try clear hcz22_0
                try clear hcz22_1
                try clear hcz24_0
                try clear hcz24_1
                try clear hfz20_0
                try clear hfz20_1
                try clear hfz22_0
                try clear hfz22_1
                try clear hfz24_0
                try clear hfz24_1
                try clear p12
                try clear p2
                try clear q12
                obtain ⟨kq, x51_16, rfl, HA, HJ16, HO_6, BK247, HB⟩ := hcut
                cases kq with
                | zero => exact absurd HA.out (by simp [parapetlaw19_LexNotes.j2])
                | succ kj16 =>
                  have H := HA.out
                  clear HA
                  simp only [parapetlaw19_LexNotes.j2] at H
                  by_cases c25 : x51_16 = true
                  · subst c25
                    have H1 : ((parapetlaw19_awake.f kj16).bind fun t248 => (some t248)) = some r := by rw [if_pos rfl] at H; exact H
                    clear H
                    have H := H1
                    clear H1
                    replace H := Option.bind_eq_some_iff.mp H
                    obtain ⟨t248, A260, H⟩ := H
                    replace H : (some t248) = some r := H
                    have A26 := Aside0.mk A260
                    clear A260
                    obtain rfl := Option.some.inj H
                    go_wp2_with (first | (go_at_call 8; (with_reducible refine (parapetlaw19_awake.calls kj16  t248 _ ?side1 A26.out).mono ?_); (case side1 => (first | exact HLD.out | exact Laid.below HLD.out (by repeat (first | (with_reducible first | exact HB.out | apply below_alloc | apply pw_below_drewN | apply below_drew1 | refine below_set ?_ GE247.out) | exact HB.out)))); rintro e w27 ⟨rfl, hb⟩; have n0_ := Aside0.mk (Kd.R_below (by (with_reducible repeat (first | apply Kd.R_alloc | apply Kd.R_drewN | apply Kd.R_drew)); exact HO_6.out) hb); have n1_ := Aside0.mk (blk_below (g := gb247) (o := .cells #[.int .i64 t245, .int .i64 t246] 26 (0, 0)) (by (with_reducible repeat (first | refine blk_drewN ?_ _ | refine blk_drew ?_ | refine blk_alloc ?_ _)); exact BK247.out) hb); have n2_ := Aside0.mk (below_step (by repeat (first | (with_reducible first | exact HB.out | apply below_alloc | apply pw_below_drewN | apply below_drew1 | refine below_set ?_ GE247.out) | exact HB.out)) hb); clear HO_6; clear BK247; clear HB; have HO_6 := n0_; have BK247 := n1_; have HB := n2_; clear n0_ n1_ n2_; (try clear hb); (try clear hb2); (try clear hk); (try clear hi)))
                    repeat (go_quiet (first | (go_at_call 8; (with_reducible refine (parapetlaw19_awake.calls kj16  t248 _ ?side1 A26.out).mono ?_); (case side1 => (first | exact HLD.out | exact Laid.below HLD.out (by repeat (first | (with_reducible first | exact HB.out | apply below_alloc | apply pw_below_drewN | apply below_drew1 | refine below_set ?_ GE247.out) | exact HB.out)))); rintro e w27 ⟨rfl, hb⟩; have n0_ := Aside0.mk (Kd.R_below (by (with_reducible repeat (first | apply Kd.R_alloc | apply Kd.R_drewN | apply Kd.R_drew)); exact HO_6.out) hb); have n1_ := Aside0.mk (blk_below (g := gb247) (o := .cells #[.int .i64 t245, .int .i64 t246] 26 (0, 0)) (by (with_reducible repeat (first | refine blk_drewN ?_ _ | refine blk_drew ?_ | refine blk_alloc ?_ _)); exact BK247.out) hb); have n2_ := Aside0.mk (below_step (by repeat (first | (with_reducible first | exact HB.out | apply below_alloc | apply pw_below_drewN | apply below_drew1 | refine below_set ?_ GE247.out) | exact HB.out)) hb); clear HO_6; clear BK247; clear HB; have HO_6 := n0_; have BK247 := n1_; have HB := n2_; clear n0_ n1_ n2_; (try clear hb); (try clear hb2); (try clear hk); (try clear hi))); try go_wp2_with (first | (go_at_call 8; (with_reducible refine (parapetlaw19_awake.calls kj16  t248 _ ?side1 A26.out).mono ?_); (case side1 => (first | exact HLD.out | exact Laid.below HLD.out (by repeat (first | (with_reducible first | exact HB.out | apply below_alloc | apply pw_below_drewN | apply below_drew1 | refine below_set ?_ GE247.out) | exact HB.out)))); rintro e w27 ⟨rfl, hb⟩; have n0_ := Aside0.mk (Kd.R_below (by (with_reducible repeat (first | apply Kd.R_alloc | apply Kd.R_drewN | apply Kd.R_drew)); exact HO_6.out) hb); have n1_ := Aside0.mk (blk_below (g := gb247) (o := .cells #[.int .i64 t245, .int .i64 t246] 26 (0, 0)) (by (with_reducible repeat (first | refine blk_drewN ?_ _ | refine blk_drew ?_ | refine blk_alloc ?_ _)); exact BK247.out) hb); have n2_ := Aside0.mk (below_step (by repeat (first | (with_reducible first | exact HB.out | apply below_alloc | apply pw_below_drewN | apply below_drew1 | refine below_set ?_ GE247.out) | exact HB.out)) hb); clear HO_6; clear BK247; clear HB; have HO_6 := n0_; have BK247 := n1_; have HB := n2_; clear n0_ n1_ n2_; (try clear hb); (try clear hb2); (try clear hk); (try clear hi))))
                    go_ret
                    exact ⟨by first | rfl | (simp [errW_none, errW_some] <;> rfl) | (simp [*, errW_none, errW_some] <;> rfl), by repeat (first | (with_reducible first | exact HB.out | apply below_alloc | apply pw_below_drewN | apply below_drew1 | refine below_set ?_ GE247.out) | exact HB.out)⟩
                  · replace c25 := Bool.eq_false_iff.mpr c25
                    subst c25
                    have H1 : (parapetlaw19_LexNotes.l1 kj16 a1 t242 (⟨#[]⟩ : ByteArray) 0) = some r := by rw [if_neg (show ¬ (false = true) by decide)] at H; exact H
                    clear H
                    have H := H1
                    clear H1
                    have H' := Aside0.mk H
                    clear H
                    go_wp2
                    repeat (go_quiet (fail); try go_wp2)
                    go_loopg [8, 9] kj16 (fun kq v8 v9 w' => ∃ (x8_4 : ByteArray) (x9_4 : Int), v8 = .string x8_4 ∧ v9 = .int .i64 x9_4 ∧ Aside0 (parapetlaw19_LexNotes.l1 kq a1 t242 x8_4 x9_4 = some r) ∧ Aside0 (kq ≤ kj16) ∧ Aside0 (Kd.R k31 31 w' w.heap.size (fun _ => True) v243 t242) ∧ Aside0 (w'.heap[gb247]? = some (.cells #[.int .i64 t245, .int .i64 t246] 26 (0, 0))) ∧ Aside0 (Below w.heap.size w w'))
                    case atStart => exact ⟨((⟨#[]⟩ : ByteArray)), (0), (by first | rfl | (simp; done) | (simp [*]; done)), (by first | rfl | (simp; done) | (simp [*]; done)), H', ⟨Nat.le_refl _⟩, ⟨by (with_reducible repeat (first | apply Kd.R_alloc | apply Kd.R_drewN | apply Kd.R_drew)); exact HO_6.out⟩, ⟨by (with_reducible repeat (first | refine blk_drewN ?_ _ | refine blk_drew ?_ | refine blk_alloc ?_ _)); exact BK247.out⟩, ⟨by repeat (first | (with_reducible first | exact HB.out | apply below_alloc | apply pw_below_drewN | apply below_drew1 | refine below_set ?_ GE247.out) | exact HB.out)⟩⟩
                    case round =>
                      clear H'
                      try clear c1
                      try clear p1
                      try clear q1
                      try clear hx1
                      try clear c2
                      try clear p2
                      try clear c4
                      try clear c4b0
                      try clear c4b1
                      try clear c5
                      try clear c5b0
                      try clear c5b1
                      try clear p6
                      try clear c7
                      try clear c10
                      try clear c10b0
                      try clear c11
                      try clear c11b0
                      try clear p12
                      try clear q12
                      try clear hx12
                      try clear c13
                      try clear c13b0
                      try clear c13b1
                      try clear c21
                      try clear c21b0
                      try clear c21b1
                      try clear c25
                      try clear hcz20_0
                      try clear hcz20_1
                      try clear hcz22_0
                      try clear hcz22_1
                      try clear hcz24_0
                      try clear hcz24_1
                      try clear hfz20_0
                      try clear hfz20_1
                      try clear hfz22_0
                      try clear hfz22_1
                      try clear hfz24_0
                      try clear hfz24_1
                      try clear p1
                      try clear p12
                      try clear p2
                      try clear p6
                      try clear q1
                      try clear q12
                      obtain ⟨x8_4, x9_4, rfl, rfl, HA, HK4, HO_6, BK247, HB⟩ := hrel
                      cases gk with
                      | zero => exact absurd HA.out (by simp [parapetlaw19_LexNotes.l1])
                      | succ k4 =>
                        have H := HA.out
                        clear HA
                        simp only [parapetlaw19_LexNotes.l1] at H
                        by_cases c28 : x9_4 < (t242.length : Int)
                        · rw [if_pos c28] at H
                          have c28b0 : decide (x9_4 < (t242.length : Int)) = true := decide_eq_true c28
                          clear c28
                          by_cases c29 : 0 ≤ x9_4
                          · rw [if_pos c29] at H
                            have c29b0 : decide (0 ≤ x9_4) = true := decide_eq_true c29
                            clear c29
                            by_cases c30 : ((rd_T31 t242 x9_4).f0) = 2
                            · rw [if_pos c30] at H
                              have c30b0 : (((rd_T31 t242 x9_4).f0) == 2) = true := beq_iff_eq.mpr c30
                              have c30b1 : (((rd_T31 t242 x9_4).f0) != 2) = false := bne_eq_false_iff_eq.mpr c30
                              clear c30
                              replace H := Option.bind_eq_some_iff.mp H
                              obtain ⟨t251, A310, H⟩ := H
                              replace H : (if x8_4.size + t251.size ≤ 9223372036854775807 then (if (x8_4 ++ t251).size + 1 ≤ 9223372036854775807 then (if ((x8_4 ++ t251) ++ (⟨#[35]⟩ : ByteArray)).size + a1.size ≤ 9223372036854775807 then (if (((x8_4 ++ t251) ++ (⟨#[35]⟩ : ByteArray)) ++ a1).size + 2 ≤ 9223372036854775807 then (parapetlaw19_LexNotes.l1 k4 a1 t242 ((((x8_4 ++ t251) ++ (⟨#[35]⟩ : ByteArray)) ++ a1) ++ (⟨#[10, 9]⟩ : ByteArray)) (wrap64 (x9_4 + 1))) else (none)) else (none)) else (none)) else (none)) = some r := H
                              have A31 := Aside0.mk A310
                              clear A310
                              by_cases c32 : x8_4.size + t251.size ≤ 9223372036854775807
                              · rw [if_pos c32] at H
                                have c32b0 := eq_true c32
                                have c32b1 : decide (x8_4.size + t251.size ≤ 9223372036854775807) = true := decide_eq_true c32
                                try have c32b2 : (9223372036854775807 < x8_4.size + t251.size) = False := eq_false (Nat.not_lt.2 c32)
                                by_cases c33 : (x8_4 ++ t251).size + 1 ≤ 9223372036854775807
                                · rw [if_pos c33] at H
                                  have c33b0 := eq_true c33
                                  have c33b1 : decide ((x8_4 ++ t251).size + 1 ≤ 9223372036854775807) = true := decide_eq_true c33
                                  have c33z := c33
                                  (try simp only [ByteArray.size_append] at c33z)
                                  have c33z0 := eq_true c33z
                                  have c33z1 := decide_eq_true c33z
                                  try have c33z2 := eq_false (Nat.not_lt.2 c33z)
                                  try have c33b2 : (9223372036854775807 < (x8_4 ++ t251).size + 1) = False := eq_false (Nat.not_lt.2 c33)
                                  by_cases c34 : ((x8_4 ++ t251) ++ (⟨#[35]⟩ : ByteArray)).size + a1.size ≤ 9223372036854775807
                                  · rw [if_pos c34] at H
                                    have c34b0 := eq_true c34
                                    have c34b1 : decide (((x8_4 ++ t251) ++ (⟨#[35]⟩ : ByteArray)).size + a1.size ≤ 9223372036854775807) = true := decide_eq_true c34
                                    have c34z := c34
                                    (try simp only [ByteArray.size_append, show (⟨#[35]⟩ : ByteArray).size = 1 from rfl] at c34z)
                                    have c34z0 := eq_true c34z
                                    have c34z1 := decide_eq_true c34z
                                    try have c34z2 := eq_false (Nat.not_lt.2 c34z)
                                    try have c34b2 : (9223372036854775807 < ((x8_4 ++ t251) ++ (⟨#[35]⟩ : ByteArray)).size + a1.size) = False := eq_false (Nat.not_lt.2 c34)
                                    by_cases c35 : (((x8_4 ++ t251) ++ (⟨#[35]⟩ : ByteArray)) ++ a1).size + 2 ≤ 9223372036854775807
                                    · rw [if_pos c35] at H
                                      have c35b0 := eq_true c35
                                      have c35b1 : decide ((((x8_4 ++ t251) ++ (⟨#[35]⟩ : ByteArray)) ++ a1).size + 2 ≤ 9223372036854775807) = true := decide_eq_true c35
                                      have c35z := c35
                                      (try simp only [ByteArray.size_append, show (⟨#[35]⟩ : ByteArray).size = 1 from rfl] at c35z)
                                      have c35z0 := eq_true c35z
                                      have c35z1 := decide_eq_true c35z
                                      try have c35z2 := eq_false (Nat.not_lt.2 c35z)
                                      try have c35b2 : (9223372036854775807 < (((x8_4 ++ t251) ++ (⟨#[35]⟩ : ByteArray)) ++ a1).size + 2) = False := eq_false (Nat.not_lt.2 c35)
                                      have H' := Aside0.mk H
                                      clear H
                                      obtain ⟨Ao36, co36, eo36⟩ := Kd.R_slice HO_6.out
                                      subst eo36
                                      have p249 : 0 ≤ (x9_4 : Int) := of_decide_eq_true (by first | (with_reducible assumption) | assumption)
                                      have q249 : x9_4 < (t242.length : Int) := of_decide_eq_true (by first | (with_reducible assumption) | assumption)
                                      obtain ⟨ad249, e249, hx249_0, hx249_1, hx249_2⟩ := at_T31 (Kd.R_reads' HO_6.out).2.2 x9_4 p249 q249
                                      cases e249
                                      replace p249 := eq_true p249
                                      replace q249 := eq_true q249
                                      have p250 : 0 ≤ (x9_4 : Int) := of_decide_eq_true (by first | (with_reducible assumption) | assumption)
                                      have q250 : x9_4 < (t242.length : Int) := of_decide_eq_true (by first | (with_reducible assumption) | assumption)
                                      obtain ⟨ad250, e250, hx250_0, hx250_1, hx250_2⟩ := at_T31 (Kd.R_reads' HO_6.out).2.2 x9_4 p250 q250
                                      obtain rfl : ad249 = ad250 := (by injection e250)
                                      replace p250 := eq_true p250
                                      replace q250 := eq_true q250
                                      go_wp2_with (first | (go_at_call 11; (with_reducible refine (lex_Quote.calls k4 ((rd_T31 t242 x9_4).f2) t251 _ A31.out).mono ?_); rintro e w37 ⟨rfl, hb⟩; have n0_ := Aside0.mk (Kd.R_below (by (with_reducible repeat (first | apply Kd.R_alloc | apply Kd.R_drewN | apply Kd.R_drew)); exact HO_6.out) hb); have n1_ := Aside0.mk (blk_below (g := gb247) (o := .cells #[.int .i64 t245, .int .i64 t246] 26 (0, 0)) (by (with_reducible repeat (first | refine blk_drewN ?_ _ | refine blk_drew ?_ | refine blk_alloc ?_ _)); exact BK247.out) hb); have n2_ := Aside0.mk (below_step (by repeat (first | (with_reducible first | exact HB.out | apply below_alloc | apply pw_below_drewN | apply below_drew1 | refine below_set ?_ GE247.out) | exact HB.out)) hb); clear HO_6; clear BK247; clear HB; have HO_6 := n0_; have BK247 := n1_; have HB := n2_; clear n0_ n1_ n2_; (try clear hb); (try clear hb2); (try clear hk); (try clear hi)))
                                      repeat (go_quiet (first | (go_at_call 11; (with_reducible refine (lex_Quote.calls k4 ((rd_T31 t242 x9_4).f2) t251 _ A31.out).mono ?_); rintro e w37 ⟨rfl, hb⟩; have n0_ := Aside0.mk (Kd.R_below (by (with_reducible repeat (first | apply Kd.R_alloc | apply Kd.R_drewN | apply Kd.R_drew)); exact HO_6.out) hb); have n1_ := Aside0.mk (blk_below (g := gb247) (o := .cells #[.int .i64 t245, .int .i64 t246] 26 (0, 0)) (by (with_reducible repeat (first | refine blk_drewN ?_ _ | refine blk_drew ?_ | refine blk_alloc ?_ _)); exact BK247.out) hb); have n2_ := Aside0.mk (below_step (by repeat (first | (with_reducible first | exact HB.out | apply below_alloc | apply pw_below_drewN | apply below_drew1 | refine below_set ?_ GE247.out) | exact HB.out)) hb); clear HO_6; clear BK247; clear HB; have HO_6 := n0_; have BK247 := n1_; have HB := n2_; clear n0_ n1_ n2_; (try clear hb); (try clear hb2); (try clear hk); (try clear hi))); try go_wp2_with (first | (go_at_call 11; (with_reducible refine (lex_Quote.calls k4 ((rd_T31 t242 x9_4).f2) t251 _ A31.out).mono ?_); rintro e w37 ⟨rfl, hb⟩; have n0_ := Aside0.mk (Kd.R_below (by (with_reducible repeat (first | apply Kd.R_alloc | apply Kd.R_drewN | apply Kd.R_drew)); exact HO_6.out) hb); have n1_ := Aside0.mk (blk_below (g := gb247) (o := .cells #[.int .i64 t245, .int .i64 t246] 26 (0, 0)) (by (with_reducible repeat (first | refine blk_drewN ?_ _ | refine blk_drew ?_ | refine blk_alloc ?_ _)); exact BK247.out) hb); have n2_ := Aside0.mk (below_step (by repeat (first | (with_reducible first | exact HB.out | apply below_alloc | apply pw_below_drewN | apply below_drew1 | refine below_set ?_ GE247.out) | exact HB.out)) hb); clear HO_6; clear BK247; clear HB; have HO_6 := n0_; have BK247 := n1_; have HB := n2_; clear n0_ n1_ n2_; (try clear hb); (try clear hb2); (try clear hk); (try clear hi))))
                                      go_roundg k4
                                      case measure => have := HJ2.out; have := HK2.out; have := HJ16.out; have := HK4.out; omega
                                      case rel => exact ⟨((((x8_4 ++ t251) ++ (⟨#[35]⟩ : ByteArray)) ++ a1) ++ (⟨#[10, 9]⟩ : ByteArray)), (wrap64 (x9_4 + 1)), (by first | rfl | (simp; done) | (simp [*]; done)), (by first | rfl | (simp; done) | (simp [*]; done)), H', ⟨by have := HJ2.out; have := HK2.out; have := HJ16.out; have := HK4.out; omega⟩, ⟨by (with_reducible repeat (first | apply Kd.R_alloc | apply Kd.R_drewN | apply Kd.R_drew)); exact HO_6.out⟩, ⟨by (with_reducible repeat (first | refine blk_drewN ?_ _ | refine blk_drew ?_ | refine blk_alloc ?_ _)); exact BK247.out⟩, ⟨by repeat (first | (with_reducible first | exact HB.out | apply below_alloc | apply pw_below_drewN | apply below_drew1 | refine below_set ?_ GE247.out) | exact HB.out)⟩⟩
                                    · rw [if_neg c35] at H
                                      exact absurd H (by simp)
                                  · rw [if_neg c34] at H
                                    exact absurd H (by simp)
                                · rw [if_neg c33] at H
                                  exact absurd H (by simp)
                              · rw [if_neg c32] at H
                                exact absurd H (by simp)
                            · rw [if_neg c30] at H
                              have c30b0 : (((rd_T31 t242 x9_4).f0) == 2) = false := beq_eq_false_iff_ne.mpr c30
                              have c30b1 : (((rd_T31 t242 x9_4).f0) != 2) = true := bne_iff_ne.mpr c30
                              by_cases c38 : x8_4.size + ((rd_T31 t242 x9_4).f2).size ≤ 9223372036854775807
                              · rw [if_pos c38] at H
                                have c38b0 := eq_true c38
                                have c38b1 : decide (x8_4.size + ((rd_T31 t242 x9_4).f2).size ≤ 9223372036854775807) = true := decide_eq_true c38
                                try have c38b2 : (9223372036854775807 < x8_4.size + ((rd_T31 t242 x9_4).f2).size) = False := eq_false (Nat.not_lt.2 c38)
                                by_cases c39 : (x8_4 ++ ((rd_T31 t242 x9_4).f2)).size + 1 ≤ 9223372036854775807
                                · rw [if_pos c39] at H
                                  have c39b0 := eq_true c39
                                  have c39b1 : decide ((x8_4 ++ ((rd_T31 t242 x9_4).f2)).size + 1 ≤ 9223372036854775807) = true := decide_eq_true c39
                                  have c39z := c39
                                  (try simp only [ByteArray.size_append] at c39z)
                                  have c39z0 := eq_true c39z
                                  have c39z1 := decide_eq_true c39z
                                  try have c39z2 := eq_false (Nat.not_lt.2 c39z)
                                  try have c39b2 : (9223372036854775807 < (x8_4 ++ ((rd_T31 t242 x9_4).f2)).size + 1) = False := eq_false (Nat.not_lt.2 c39)
                                  by_cases c40 : ((x8_4 ++ ((rd_T31 t242 x9_4).f2)) ++ (⟨#[35]⟩ : ByteArray)).size + a1.size ≤ 9223372036854775807
                                  · rw [if_pos c40] at H
                                    have c40b0 := eq_true c40
                                    have c40b1 : decide (((x8_4 ++ ((rd_T31 t242 x9_4).f2)) ++ (⟨#[35]⟩ : ByteArray)).size + a1.size ≤ 9223372036854775807) = true := decide_eq_true c40
                                    have c40z := c40
                                    (try simp only [ByteArray.size_append, show (⟨#[35]⟩ : ByteArray).size = 1 from rfl] at c40z)
                                    have c40z0 := eq_true c40z
                                    have c40z1 := decide_eq_true c40z
                                    try have c40z2 := eq_false (Nat.not_lt.2 c40z)
                                    try have c40b2 : (9223372036854775807 < ((x8_4 ++ ((rd_T31 t242 x9_4).f2)) ++ (⟨#[35]⟩ : ByteArray)).size + a1.size) = False := eq_false (Nat.not_lt.2 c40)
                                    by_cases c41 : (((x8_4 ++ ((rd_T31 t242 x9_4).f2)) ++ (⟨#[35]⟩ : ByteArray)) ++ a1).size + 2 ≤ 9223372036854775807
                                    · rw [if_pos c41] at H
                                      have c41b0 := eq_true c41
                                      have c41b1 : decide ((((x8_4 ++ ((rd_T31 t242 x9_4).f2)) ++ (⟨#[35]⟩ : ByteArray)) ++ a1).size + 2 ≤ 9223372036854775807) = true := decide_eq_true c41
                                      have c41z := c41
                                      (try simp only [ByteArray.size_append, show (⟨#[35]⟩ : ByteArray).size = 1 from rfl] at c41z)
                                      have c41z0 := eq_true c41z
                                      have c41z1 := decide_eq_true c41z
                                      try have c41z2 := eq_false (Nat.not_lt.2 c41z)
                                      try have c41b2 : (9223372036854775807 < (((x8_4 ++ ((rd_T31 t242 x9_4).f2)) ++ (⟨#[35]⟩ : ByteArray)) ++ a1).size + 2) = False := eq_false (Nat.not_lt.2 c41)
                                      have H' := Aside0.mk H
                                      clear H
                                      obtain ⟨Ao42, co42, eo42⟩ := Kd.R_slice HO_6.out
                                      subst eo42
                                      have p249 : 0 ≤ (x9_4 : Int) := of_decide_eq_true (by first | (with_reducible assumption) | assumption)
                                      have q249 : x9_4 < (t242.length : Int) := of_decide_eq_true (by first | (with_reducible assumption) | assumption)
                                      obtain ⟨ad249, e249, hx249_0, hx249_1, hx249_2⟩ := at_T31 (Kd.R_reads' HO_6.out).2.2 x9_4 p249 q249
                                      cases e249
                                      replace p249 := eq_true p249
                                      replace q249 := eq_true q249
                                      have p250 : 0 ≤ (x9_4 : Int) := of_decide_eq_true (by first | (with_reducible assumption) | assumption)
                                      have q250 : x9_4 < (t242.length : Int) := of_decide_eq_true (by first | (with_reducible assumption) | assumption)
                                      obtain ⟨ad250, e250, hx250_0, hx250_1, hx250_2⟩ := at_T31 (Kd.R_reads' HO_6.out).2.2 x9_4 p250 q250
                                      obtain rfl : ad249 = ad250 := (by injection e250)
                                      replace p250 := eq_true p250
                                      replace q250 := eq_true q250
                                      go_wp2
                                      repeat (go_quiet (fail); try go_wp2)
                                      go_roundg k4
                                      case measure => have := HJ2.out; have := HK2.out; have := HJ16.out; have := HK4.out; omega
                                      case rel => exact ⟨((((x8_4 ++ ((rd_T31 t242 x9_4).f2)) ++ (⟨#[35]⟩ : ByteArray)) ++ a1) ++ (⟨#[10, 9]⟩ : ByteArray)), (wrap64 (x9_4 + 1)), (by first | rfl | (simp; done) | (simp [*]; done)), (by first | rfl | (simp; done) | (simp [*]; done)), H', ⟨by have := HJ2.out; have := HK2.out; have := HJ16.out; have := HK4.out; omega⟩, ⟨by (with_reducible repeat (first | apply Kd.R_alloc | apply Kd.R_drewN | apply Kd.R_drew)); exact HO_6.out⟩, ⟨by (with_reducible repeat (first | refine blk_drewN ?_ _ | refine blk_drew ?_ | refine blk_alloc ?_ _)); exact BK247.out⟩, ⟨by repeat (first | (with_reducible first | exact HB.out | apply below_alloc | apply pw_below_drewN | apply below_drew1 | refine below_set ?_ GE247.out) | exact HB.out)⟩⟩
                                    · rw [if_neg c41] at H
                                      exact absurd H (by simp)
                                  · rw [if_neg c40] at H
                                    exact absurd H (by simp)
                                · rw [if_neg c39] at H
                                  exact absurd H (by simp)
                              · rw [if_neg c38] at H
                                exact absurd H (by simp)
                          · rw [if_neg c29] at H
                            exact absurd H (by simp)
                        · rw [if_neg c28] at H
                          have c28b0 : decide (x9_4 < (t242.length : Int)) = false := decide_eq_false c28
                          clear c28
                          by_cases c43 : (x8_4.size : Int) > 3000
                          · rw [if_pos c43] at H
                            have c43b0 : decide (3000 < (x8_4.size : Int)) = true := decide_eq_true c43
                            have c43b1 : decide (3000 < x8_4.size) = true := decide_eq_true (by omega)
                            clear c43
                            replace H := Option.bind_eq_some_iff.mp H
                            obtain ⟨t252, A440, H⟩ := H
                            replace H : (some t252) = some r := H
                            have A44 := Aside0.mk A440
                            clear A440
                            obtain rfl := Option.some.inj H
                            obtain ⟨Ao45, co45, eo45⟩ := Kd.R_slice HO_6.out
                            subst eo45
                            go_wp2_with (first | (go_at_call 8; (with_reducible refine (parapetlaw19_awake.calls k4  t252 _ ?side1 A44.out).mono ?_); (case side1 => (first | exact HLD.out | exact Laid.below HLD.out (by repeat (first | (with_reducible first | exact HB.out | apply below_alloc | apply pw_below_drewN | apply below_drew1 | refine below_set ?_ GE247.out) | exact HB.out)))); rintro e w46 ⟨rfl, hb⟩; have n0_ := Aside0.mk (Kd.R_below (by (with_reducible repeat (first | apply Kd.R_alloc | apply Kd.R_drewN | apply Kd.R_drew)); exact HO_6.out) hb); have n1_ := Aside0.mk (blk_below (g := gb247) (o := .cells #[.int .i64 t245, .int .i64 t246] 26 (0, 0)) (by (with_reducible repeat (first | refine blk_drewN ?_ _ | refine blk_drew ?_ | refine blk_alloc ?_ _)); exact BK247.out) hb); have n2_ := Aside0.mk (below_step (by repeat (first | (with_reducible first | exact HB.out | apply below_alloc | apply pw_below_drewN | apply below_drew1 | refine below_set ?_ GE247.out) | exact HB.out)) hb); clear HO_6; clear BK247; clear HB; have HO_6 := n0_; have BK247 := n1_; have HB := n2_; clear n0_ n1_ n2_; (try clear hb); (try clear hb2); (try clear hk); (try clear hi)))
                            repeat (go_quiet (first | (go_at_call 8; (with_reducible refine (parapetlaw19_awake.calls k4  t252 _ ?side1 A44.out).mono ?_); (case side1 => (first | exact HLD.out | exact Laid.below HLD.out (by repeat (first | (with_reducible first | exact HB.out | apply below_alloc | apply pw_below_drewN | apply below_drew1 | refine below_set ?_ GE247.out) | exact HB.out)))); rintro e w46 ⟨rfl, hb⟩; have n0_ := Aside0.mk (Kd.R_below (by (with_reducible repeat (first | apply Kd.R_alloc | apply Kd.R_drewN | apply Kd.R_drew)); exact HO_6.out) hb); have n1_ := Aside0.mk (blk_below (g := gb247) (o := .cells #[.int .i64 t245, .int .i64 t246] 26 (0, 0)) (by (with_reducible repeat (first | refine blk_drewN ?_ _ | refine blk_drew ?_ | refine blk_alloc ?_ _)); exact BK247.out) hb); have n2_ := Aside0.mk (below_step (by repeat (first | (with_reducible first | exact HB.out | apply below_alloc | apply pw_below_drewN | apply below_drew1 | refine below_set ?_ GE247.out) | exact HB.out)) hb); clear HO_6; clear BK247; clear HB; have HO_6 := n0_; have BK247 := n1_; have HB := n2_; clear n0_ n1_ n2_; (try clear hb); (try clear hb2); (try clear hk); (try clear hi))); try go_wp2_with (first | (go_at_call 8; (with_reducible refine (parapetlaw19_awake.calls k4  t252 _ ?side1 A44.out).mono ?_); (case side1 => (first | exact HLD.out | exact Laid.below HLD.out (by repeat (first | (with_reducible first | exact HB.out | apply below_alloc | apply pw_below_drewN | apply below_drew1 | refine below_set ?_ GE247.out) | exact HB.out)))); rintro e w46 ⟨rfl, hb⟩; have n0_ := Aside0.mk (Kd.R_below (by (with_reducible repeat (first | apply Kd.R_alloc | apply Kd.R_drewN | apply Kd.R_drew)); exact HO_6.out) hb); have n1_ := Aside0.mk (blk_below (g := gb247) (o := .cells #[.int .i64 t245, .int .i64 t246] 26 (0, 0)) (by (with_reducible repeat (first | refine blk_drewN ?_ _ | refine blk_drew ?_ | refine blk_alloc ?_ _)); exact BK247.out) hb); have n2_ := Aside0.mk (below_step (by repeat (first | (with_reducible first | exact HB.out | apply below_alloc | apply pw_below_drewN | apply below_drew1 | refine below_set ?_ GE247.out) | exact HB.out)) hb); clear HO_6; clear BK247; clear HB; have HO_6 := n0_; have BK247 := n1_; have HB := n2_; clear n0_ n1_ n2_; (try clear hb); (try clear hb2); (try clear hk); (try clear hi))))
                            go_ret
                            exact ⟨by first | rfl | (simp [errW_none, errW_some] <;> rfl) | (simp [*, errW_none, errW_some] <;> rfl), by repeat (first | (with_reducible first | exact HB.out | apply below_alloc | apply pw_below_drewN | apply below_drew1 | refine below_set ?_ GE247.out) | exact HB.out)⟩
                          · rw [if_neg c43] at H
                            have c43b0 : decide (3000 < (x8_4.size : Int)) = false := decide_eq_false c43
                            have c43b1 : decide (3000 < x8_4.size) = false := decide_eq_false (by omega)
                            clear c43
                            replace H := Option.bind_eq_some_iff.mp H
                            obtain ⟨⟨t253, t256, t257⟩, A470, H⟩ := H
                            replace H : (if t256 = 0 then (parapetlaw19_LexNotes.j4 k4 t242 t253 ((t253.length : Int) != (t242.length : Int))) else (parapetlaw19_LexNotes.j4 k4 t242 t253 true)) = some r := H
                            have A47 := Aside0.mk A470
                            clear A470
                            have HC48 := Aside0.mk H
                            clear H
                            obtain ⟨Ao49, co49, eo49⟩ := Kd.R_slice HO_6.out
                            subst eo49
                            go_upto_region 22 with (first | (go_at_call 9; (with_reducible refine (lex_Tokens.calls k4 x8_4 t253 t256 t257 _ ?side1 A47.out).mono ?_); (case side1 => (first | exact HLD.out | exact Laid.below HLD.out (by repeat (first | (with_reducible first | exact HB.out | apply below_alloc | apply pw_below_drewN | apply below_drew1 | refine below_set ?_ GE247.out) | exact HB.out)))); rintro e w50 ⟨v254, rfl, ho0, hb⟩; have n0_ := Aside0.mk (Kd.R_elder' (by (with_reducible repeat (first | apply Kd.R_alloc | apply Kd.R_drewN | apply Kd.R_drew)); exact HO_6.out) (Kd.R_base ho0) hb); have n1_ := Aside0.mk (Kd.R_lower (Kd.R_new' ho0 (Kd.R_lt (by (with_reducible repeat (first | apply Kd.R_alloc | apply Kd.R_drewN | apply Kd.R_drew)); exact HO_6.out))) (below_size (by repeat (first | (with_reducible first | exact HB.out | apply below_alloc | apply pw_below_drewN | apply below_drew1 | refine below_set ?_ GE247.out) | exact HB.out)))); have n2_ := Aside0.mk (blk_below (g := gb247) (o := .cells #[.int .i64 t245, .int .i64 t246] 26 (0, 0)) (by (with_reducible repeat (first | refine blk_drewN ?_ _ | refine blk_drew ?_ | refine blk_alloc ?_ _)); exact BK247.out) hb); have n3_ := Aside0.mk (below_step (by repeat (first | (with_reducible first | exact HB.out | apply below_alloc | apply pw_below_drewN | apply below_drew1 | refine below_set ?_ GE247.out) | exact HB.out)) hb); clear HO_6; clear BK247; clear HB; have HO_6 := n0_; have HO255 := n1_; have BK247 := n2_; have HB := n3_; clear n0_ n1_ n2_ n3_; (try clear hb); (try clear hb2); (try clear hk); (try clear hi); (try clear ho0)) | ((with_reducible refine gate_dst (N := 12) rfl ?_); (try (refine gate_guard (by rfl) ?_; dsimp only)); refine box_event ?hg (N := 12) ?hd (cs := #[.int .i64 0, .int .i64 0]) (t := 26) ?hr ?_; (case hd => rfl); (case hg => rfl); (case hr => first | (go_simp; done) | (go_simp; rfl)); intro gb258 hg w51 hbox hb; have n0_ := Aside0.mk (Kd.R_below (by (with_reducible repeat (first | apply Kd.R_alloc | apply Kd.R_drewN | apply Kd.R_drew)); exact HO_6.out) hb); have n1_ := Aside0.mk (Kd.R_below (by (with_reducible repeat (first | apply Kd.R_alloc | apply Kd.R_drewN | apply Kd.R_drew)); exact HO255.out) hb); have n2_ := Aside0.mk (blk_below (g := gb247) (o := .cells #[.int .i64 t245, .int .i64 t246] 26 (0, 0)) (by (with_reducible repeat (first | refine blk_drewN ?_ _ | refine blk_drew ?_ | refine blk_alloc ?_ _)); exact BK247.out) hb); have n3_ := Aside0.mk (below_step (by repeat (first | (with_reducible first | exact HB.out | apply below_alloc | apply pw_below_drewN | apply below_drew1 | refine below_set ?_ GE247.out) | exact HB.out)) hb); have n4_ := Aside0.mk (hbox); have n5_ := Aside0.mk ((by rw [hg]; exact (below_size (by repeat (first | (with_reducible first | exact HB.out | apply below_alloc | apply pw_below_drewN | apply below_drew1 | refine below_set ?_ GE247.out) | exact HB.out))) : w.heap.size ≤ gb258)); have n6_ := Aside0.mk ((by rw [hg]; exact (below_size (by repeat (first | (with_reducible first | exact HB.out | apply below_alloc | apply pw_below_drewN | apply below_drew1 | refine below_set ?_ GE247.out) | exact HB.out))) : w.heap.size ≤ gb258)); have n7_ := Aside0.mk ((by rw [hg]; exact Nat.ne_of_lt (blk_lt (g := gb247) (o := .cells #[.int .i64 t245, .int .i64 t246] 26 (0, 0)) (by (with_reducible repeat (first | refine blk_drewN ?_ _ | refine blk_drew ?_ | refine blk_alloc ?_ _)); exact BK247.out)) : gb247 ≠ gb258)); have n8_ := Aside0.mk ((by rw [hg]; exact Nat.ne_of_gt (blk_lt (g := gb247) (o := .cells #[.int .i64 t245, .int .i64 t246] 26 (0, 0)) (by (with_reducible repeat (first | refine blk_drewN ?_ _ | refine blk_drew ?_ | refine blk_alloc ?_ _)); exact BK247.out)) : gb258 ≠ gb247)); clear HO_6; clear HO255; clear BK247; clear HB; have HO_6 := n0_; have HO255 := n1_; have BK247 := n2_; have HB := n3_; have BK258 := n4_; have GW258 := n5_; have GE258 := n6_; have NB247_258 := n7_; have NB258_247 := n8_; clear n0_ n1_ n2_ n3_ n4_ n5_ n6_ n7_ n8_; clear hb hbox hg; have hnb52 := NB258_247.out; have hnc52 := NB247_258.out; have hcz53_0 : w51.cell? ⟨gb258, 0, none⟩ = some (.int .i64 0) := (blk_cell BK258.out 0).trans rfl; have hcz53_1 : w51.cell? ⟨gb258, 1, none⟩ = some (.int .i64 0) := (blk_cell BK258.out 1).trans rfl; have hfz53_0 := blk_frozen BK258.out 0; have hfz53_1 := blk_frozen BK258.out 1))
                            repeat (go_quiet (first | (go_at_call 9; (with_reducible refine (lex_Tokens.calls k4 x8_4 t253 t256 t257 _ ?side1 A47.out).mono ?_); (case side1 => (first | exact HLD.out | exact Laid.below HLD.out (by repeat (first | (with_reducible first | exact HB.out | apply below_alloc | apply pw_below_drewN | apply below_drew1 | refine below_set ?_ GE247.out) | exact HB.out)))); rintro e w50 ⟨v254, rfl, ho0, hb⟩; have n0_ := Aside0.mk (Kd.R_elder' (by (with_reducible repeat (first | apply Kd.R_alloc | apply Kd.R_drewN | apply Kd.R_drew)); exact HO_6.out) (Kd.R_base ho0) hb); have n1_ := Aside0.mk (Kd.R_lower (Kd.R_new' ho0 (Kd.R_lt (by (with_reducible repeat (first | apply Kd.R_alloc | apply Kd.R_drewN | apply Kd.R_drew)); exact HO_6.out))) (below_size (by repeat (first | (with_reducible first | exact HB.out | apply below_alloc | apply pw_below_drewN | apply below_drew1 | refine below_set ?_ GE247.out) | exact HB.out)))); have n2_ := Aside0.mk (blk_below (g := gb247) (o := .cells #[.int .i64 t245, .int .i64 t246] 26 (0, 0)) (by (with_reducible repeat (first | refine blk_drewN ?_ _ | refine blk_drew ?_ | refine blk_alloc ?_ _)); exact BK247.out) hb); have n3_ := Aside0.mk (below_step (by repeat (first | (with_reducible first | exact HB.out | apply below_alloc | apply pw_below_drewN | apply below_drew1 | refine below_set ?_ GE247.out) | exact HB.out)) hb); clear HO_6; clear BK247; clear HB; have HO_6 := n0_; have HO255 := n1_; have BK247 := n2_; have HB := n3_; clear n0_ n1_ n2_ n3_; (try clear hb); (try clear hb2); (try clear hk); (try clear hi); (try clear ho0)) | ((with_reducible refine gate_dst (N := 12) rfl ?_); (try (refine gate_guard (by rfl) ?_; dsimp only)); refine box_event ?hg (N := 12) ?hd (cs := #[.int .i64 0, .int .i64 0]) (t := 26) ?hr ?_; (case hd => rfl); (case hg => rfl); (case hr => first | (go_simp; done) | (go_simp; rfl)); intro gb258 hg w51 hbox hb; have n0_ := Aside0.mk (Kd.R_below (by (with_reducible repeat (first | apply Kd.R_alloc | apply Kd.R_drewN | apply Kd.R_drew)); exact HO_6.out) hb); have n1_ := Aside0.mk (Kd.R_below (by (with_reducible repeat (first | apply Kd.R_alloc | apply Kd.R_drewN | apply Kd.R_drew)); exact HO255.out) hb); have n2_ := Aside0.mk (blk_below (g := gb247) (o := .cells #[.int .i64 t245, .int .i64 t246] 26 (0, 0)) (by (with_reducible repeat (first | refine blk_drewN ?_ _ | refine blk_drew ?_ | refine blk_alloc ?_ _)); exact BK247.out) hb); have n3_ := Aside0.mk (below_step (by repeat (first | (with_reducible first | exact HB.out | apply below_alloc | apply pw_below_drewN | apply below_drew1 | refine below_set ?_ GE247.out) | exact HB.out)) hb); have n4_ := Aside0.mk (hbox); have n5_ := Aside0.mk ((by rw [hg]; exact (below_size (by repeat (first | (with_reducible first | exact HB.out | apply below_alloc | apply pw_below_drewN | apply below_drew1 | refine below_set ?_ GE247.out) | exact HB.out))) : w.heap.size ≤ gb258)); have n6_ := Aside0.mk ((by rw [hg]; exact (below_size (by repeat (first | (with_reducible first | exact HB.out | apply below_alloc | apply pw_below_drewN | apply below_drew1 | refine below_set ?_ GE247.out) | exact HB.out))) : w.heap.size ≤ gb258)); have n7_ := Aside0.mk ((by rw [hg]; exact Nat.ne_of_lt (blk_lt (g := gb247) (o := .cells #[.int .i64 t245, .int .i64 t246] 26 (0, 0)) (by (with_reducible repeat (first | refine blk_drewN ?_ _ | refine blk_drew ?_ | refine blk_alloc ?_ _)); exact BK247.out)) : gb247 ≠ gb258)); have n8_ := Aside0.mk ((by rw [hg]; exact Nat.ne_of_gt (blk_lt (g := gb247) (o := .cells #[.int .i64 t245, .int .i64 t246] 26 (0, 0)) (by (with_reducible repeat (first | refine blk_drewN ?_ _ | refine blk_drew ?_ | refine blk_alloc ?_ _)); exact BK247.out)) : gb258 ≠ gb247)); clear HO_6; clear HO255; clear BK247; clear HB; have HO_6 := n0_; have HO255 := n1_; have BK247 := n2_; have HB := n3_; have BK258 := n4_; have GW258 := n5_; have GE258 := n6_; have NB247_258 := n7_; have NB258_247 := n8_; clear n0_ n1_ n2_ n3_ n4_ n5_ n6_ n7_ n8_; clear hb hbox hg; have hnb52 := NB258_247.out; have hnc52 := NB247_258.out; have hcz53_0 : w51.cell? ⟨gb258, 0, none⟩ = some (.int .i64 0) := (blk_cell BK258.out 0).trans rfl; have hcz53_1 : w51.cell? ⟨gb258, 1, none⟩ = some (.int .i64 0) := (blk_cell BK258.out 1).trans rfl; have hfz53_0 := blk_frozen BK258.out 0; have hfz53_1 := blk_frozen BK258.out 1)); go_upto_region 22 with (first | (go_at_call 9; (with_reducible refine (lex_Tokens.calls k4 x8_4 t253 t256 t257 _ ?side1 A47.out).mono ?_); (case side1 => (first | exact HLD.out | exact Laid.below HLD.out (by repeat (first | (with_reducible first | exact HB.out | apply below_alloc | apply pw_below_drewN | apply below_drew1 | refine below_set ?_ GE247.out) | exact HB.out)))); rintro e w50 ⟨v254, rfl, ho0, hb⟩; have n0_ := Aside0.mk (Kd.R_elder' (by (with_reducible repeat (first | apply Kd.R_alloc | apply Kd.R_drewN | apply Kd.R_drew)); exact HO_6.out) (Kd.R_base ho0) hb); have n1_ := Aside0.mk (Kd.R_lower (Kd.R_new' ho0 (Kd.R_lt (by (with_reducible repeat (first | apply Kd.R_alloc | apply Kd.R_drewN | apply Kd.R_drew)); exact HO_6.out))) (below_size (by repeat (first | (with_reducible first | exact HB.out | apply below_alloc | apply pw_below_drewN | apply below_drew1 | refine below_set ?_ GE247.out) | exact HB.out)))); have n2_ := Aside0.mk (blk_below (g := gb247) (o := .cells #[.int .i64 t245, .int .i64 t246] 26 (0, 0)) (by (with_reducible repeat (first | refine blk_drewN ?_ _ | refine blk_drew ?_ | refine blk_alloc ?_ _)); exact BK247.out) hb); have n3_ := Aside0.mk (below_step (by repeat (first | (with_reducible first | exact HB.out | apply below_alloc | apply pw_below_drewN | apply below_drew1 | refine below_set ?_ GE247.out) | exact HB.out)) hb); clear HO_6; clear BK247; clear HB; have HO_6 := n0_; have HO255 := n1_; have BK247 := n2_; have HB := n3_; clear n0_ n1_ n2_ n3_; (try clear hb); (try clear hb2); (try clear hk); (try clear hi); (try clear ho0)) | ((with_reducible refine gate_dst (N := 12) rfl ?_); (try (refine gate_guard (by rfl) ?_; dsimp only)); refine box_event ?hg (N := 12) ?hd (cs := #[.int .i64 0, .int .i64 0]) (t := 26) ?hr ?_; (case hd => rfl); (case hg => rfl); (case hr => first | (go_simp; done) | (go_simp; rfl)); intro gb258 hg w51 hbox hb; have n0_ := Aside0.mk (Kd.R_below (by (with_reducible repeat (first | apply Kd.R_alloc | apply Kd.R_drewN | apply Kd.R_drew)); exact HO_6.out) hb); have n1_ := Aside0.mk (Kd.R_below (by (with_reducible repeat (first | apply Kd.R_alloc | apply Kd.R_drewN | apply Kd.R_drew)); exact HO255.out) hb); have n2_ := Aside0.mk (blk_below (g := gb247) (o := .cells #[.int .i64 t245, .int .i64 t246] 26 (0, 0)) (by (with_reducible repeat (first | refine blk_drewN ?_ _ | refine blk_drew ?_ | refine blk_alloc ?_ _)); exact BK247.out) hb); have n3_ := Aside0.mk (below_step (by repeat (first | (with_reducible first | exact HB.out | apply below_alloc | apply pw_below_drewN | apply below_drew1 | refine below_set ?_ GE247.out) | exact HB.out)) hb); have n4_ := Aside0.mk (hbox); have n5_ := Aside0.mk ((by rw [hg]; exact (below_size (by repeat (first | (with_reducible first | exact HB.out | apply below_alloc | apply pw_below_drewN | apply below_drew1 | refine below_set ?_ GE247.out) | exact HB.out))) : w.heap.size ≤ gb258)); have n6_ := Aside0.mk ((by rw [hg]; exact (below_size (by repeat (first | (with_reducible first | exact HB.out | apply below_alloc | apply pw_below_drewN | apply below_drew1 | refine below_set ?_ GE247.out) | exact HB.out))) : w.heap.size ≤ gb258)); have n7_ := Aside0.mk ((by rw [hg]; exact Nat.ne_of_lt (blk_lt (g := gb247) (o := .cells #[.int .i64 t245, .int .i64 t246] 26 (0, 0)) (by (with_reducible repeat (first | refine blk_drewN ?_ _ | refine blk_drew ?_ | refine blk_alloc ?_ _)); exact BK247.out)) : gb247 ≠ gb258)); have n8_ := Aside0.mk ((by rw [hg]; exact Nat.ne_of_gt (blk_lt (g := gb247) (o := .cells #[.int .i64 t245, .int .i64 t246] 26 (0, 0)) (by (with_reducible repeat (first | refine blk_drewN ?_ _ | refine blk_drew ?_ | refine blk_alloc ?_ _)); exact BK247.out)) : gb258 ≠ gb247)); clear HO_6; clear HO255; clear BK247; clear HB; have HO_6 := n0_; have HO255 := n1_; have BK247 := n2_; have HB := n3_; have BK258 := n4_; have GW258 := n5_; have GE258 := n6_; have NB247_258 := n7_; have NB258_247 := n8_; clear n0_ n1_ n2_ n3_ n4_ n5_ n6_ n7_ n8_; clear hb hbox hg; have hnb52 := NB258_247.out; have hnc52 := NB247_258.out; have hcz53_0 : w51.cell? ⟨gb258, 0, none⟩ = some (.int .i64 0) := (blk_cell BK258.out 0).trans rfl; have hcz53_1 : w51.cell? ⟨gb258, 1, none⟩ = some (.int .i64 0) := (blk_cell BK258.out 1).trans rfl; have hfz53_0 := blk_frozen BK258.out 0; have hfz53_1 := blk_frozen BK258.out 1)))
                            (try simp only [Act.put, List.setIfInBounds_toArray, List.set_cons_zero, List.set_cons_succ])
                            go_cut [97] (fun v97 wc => ∃ (kq : Nat) (x97_47 : Bool), v97 = .bool x97_47 ∧ Aside0 (parapetlaw19_LexNotes.j4 kq t242 t253 x97_47 = some r) ∧ Aside0 (kq ≤ k4) ∧ Aside0 (Kd.R k31 31 wc w.heap.size (fun k_ => some k_ ≠ (v254 : Value).ownBlock) (.slice Ao49 t242.length co49) t242) ∧ Aside0 (Kd.R k31 31 wc w.heap.size (fun k_ => some k_ ≠ ((.slice Ao49 t242.length co49) : Value).ownBlock) v254 t253) ∧ Aside0 (wc.heap[gb247]? = some (.cells #[.int .i64 t245, .int .i64 t246] 26 (0, 0))) ∧ Aside0 (wc.heap[gb258]? = some (.cells #[.int .i64 t256, .int .i64 t257] 26 (0, 0))) ∧ Aside0 (Below w.heap.size w wc))
                            case first =>
                              have H := HC48.out
                              clear HC48
                              by_cases c54 : t256 = 0
                              · rw [if_pos c54] at H
                                have c54b0 : (t256 == 0) = true := beq_iff_eq.mpr c54
                                have c54b1 : (t256 != 0) = false := bne_eq_false_iff_eq.mpr c54
                                clear c54
                                (first | rw [c54b0] | (simp only [i64_w, i32_w]; rw [c54b0]) | skip)
                                have H' := Aside0.mk H
                                clear H
                                have hnb55 := NB258_247.out
                                have hnc55 := NB247_258.out
                                have hcz56_0 : w51.cell? ⟨gb258, 0, none⟩ = some (.int .i64 0) := (blk_cell BK258.out 0).trans rfl
                                have hcz56_1 : w51.cell? ⟨gb258, 1, none⟩ = some (.int .i64 0) := (blk_cell BK258.out 1).trans rfl
                                have hfz56_0 := blk_frozen BK258.out 0
                                have hfz56_1 := blk_frozen BK258.out 1
                                obtain ⟨Ao57, co57, eo57⟩ := Kd.R_slice HO255.out
                                subst eo57
                                go_wp2
                                repeat (go_quiet (fail); try go_wp2)
                                go_meet
                                case rel => exact ⟨_, (((t253.length : Int) != (t242.length : Int))), (by first | rfl | (simp; done) | (simp [*]; done)), H', ⟨by have := HJ2.out; have := HK2.out; have := HJ16.out; have := HK4.out; first | omega | exact Nat.le_refl _⟩, ⟨by (with_reducible repeat (first | apply Kd.R_alloc | apply Kd.R_drewN | apply Kd.R_drew)); exact Kd.R_mono (Kd.R_far (p := ⟨gb258, 1, none⟩) (Kd.R_far (p := ⟨gb258, 0, none⟩) (Kd.R_types HO_6.out BK258.out (by decide)) (fun _ hk => hk.2) (.int .i64 t256)) (fun _ hk => hk.2) (.int .i64 t257)) (fun _ hk => hk.1.2)⟩, ⟨by (with_reducible repeat (first | apply Kd.R_alloc | apply Kd.R_drewN | apply Kd.R_drew)); exact Kd.R_mono (Kd.R_far (p := ⟨gb258, 1, none⟩) (Kd.R_far (p := ⟨gb258, 0, none⟩) (Kd.R_types HO255.out BK258.out (by decide)) (fun _ hk => hk.2) (.int .i64 t256)) (fun _ hk => hk.2) (.int .i64 t257)) (fun _ hk => hk.1.2)⟩, ⟨by (with_reducible repeat (first | refine blk_drewN ?_ _ | refine blk_drew ?_ | refine blk_alloc ?_ _)); refine blk_far ?_ NB247_258.out _; (with_reducible repeat (first | refine blk_drewN ?_ _ | refine blk_drew ?_ | refine blk_alloc ?_ _)); refine blk_far ?_ NB247_258.out _; (with_reducible repeat (first | refine blk_drewN ?_ _ | refine blk_drew ?_ | refine blk_alloc ?_ _)); exact BK247.out⟩, ⟨by (with_reducible repeat (first | refine blk_drewN ?_ _ | refine blk_drew ?_ | refine blk_alloc ?_ _)); refine blk_put (cs := #[.int .i64 t256, .int .i64 0]) ?_ 1 _ rfl; (with_reducible repeat (first | refine blk_drewN ?_ _ | refine blk_drew ?_ | refine blk_alloc ?_ _)); refine blk_put (cs := #[.int .i64 0, .int .i64 0]) ?_ 0 _ rfl; (with_reducible repeat (first | refine blk_drewN ?_ _ | refine blk_drew ?_ | refine blk_alloc ?_ _)); exact BK258.out⟩, ⟨by repeat (first | (with_reducible first | exact HB.out | apply below_alloc | apply pw_below_drewN | apply below_drew1 | refine below_set ?_ GE247.out | refine below_set ?_ GE258.out) | exact HB.out)⟩⟩
                              · rw [if_neg c54] at H
                                have c54b0 : (t256 == 0) = false := beq_eq_false_iff_ne.mpr c54
                                have c54b1 : (t256 != 0) = true := bne_iff_ne.mpr c54
                                (first | rw [c54b0] | (simp only [i64_w, i32_w]; rw [c54b0]) | skip)
                                have H' := Aside0.mk H
                                clear H
                                have hnb58 := NB258_247.out
                                have hnc58 := NB247_258.out
                                have hcz59_0 : w51.cell? ⟨gb258, 0, none⟩ = some (.int .i64 0) := (blk_cell BK258.out 0).trans rfl
                                have hcz59_1 : w51.cell? ⟨gb258, 1, none⟩ = some (.int .i64 0) := (blk_cell BK258.out 1).trans rfl
                                have hfz59_0 := blk_frozen BK258.out 0
                                have hfz59_1 := blk_frozen BK258.out 1
                                go_wp2
                                repeat (go_quiet (fail); try go_wp2)
                                go_meet
                                case rel => exact ⟨_, (true), (by first | rfl | (simp; done) | (simp [*]; done)), H', ⟨by have := HJ2.out; have := HK2.out; have := HJ16.out; have := HK4.out; first | omega | exact Nat.le_refl _⟩, ⟨by (with_reducible repeat (first | apply Kd.R_alloc | apply Kd.R_drewN | apply Kd.R_drew)); exact Kd.R_mono (Kd.R_far (p := ⟨gb258, 1, none⟩) (Kd.R_far (p := ⟨gb258, 0, none⟩) (Kd.R_types HO_6.out BK258.out (by decide)) (fun _ hk => hk.2) (.int .i64 t256)) (fun _ hk => hk.2) (.int .i64 t257)) (fun _ hk => hk.1.2)⟩, ⟨by (with_reducible repeat (first | apply Kd.R_alloc | apply Kd.R_drewN | apply Kd.R_drew)); exact Kd.R_mono (Kd.R_far (p := ⟨gb258, 1, none⟩) (Kd.R_far (p := ⟨gb258, 0, none⟩) (Kd.R_types HO255.out BK258.out (by decide)) (fun _ hk => hk.2) (.int .i64 t256)) (fun _ hk => hk.2) (.int .i64 t257)) (fun _ hk => hk.1.2)⟩, ⟨by (with_reducible repeat (first | refine blk_drewN ?_ _ | refine blk_drew ?_ | refine blk_alloc ?_ _)); refine blk_far ?_ NB247_258.out _; (with_reducible repeat (first | refine blk_drewN ?_ _ | refine blk_drew ?_ | refine blk_alloc ?_ _)); refine blk_far ?_ NB247_258.out _; (with_reducible repeat (first | refine blk_drewN ?_ _ | refine blk_drew ?_ | refine blk_alloc ?_ _)); exact BK247.out⟩, ⟨by (with_reducible repeat (first | refine blk_drewN ?_ _ | refine blk_drew ?_ | refine blk_alloc ?_ _)); refine blk_put (cs := #[.int .i64 t256, .int .i64 0]) ?_ 1 _ rfl; (with_reducible repeat (first | refine blk_drewN ?_ _ | refine blk_drew ?_ | refine blk_alloc ?_ _)); refine blk_put (cs := #[.int .i64 0, .int .i64 0]) ?_ 0 _ rfl; (with_reducible repeat (first | refine blk_drewN ?_ _ | refine blk_drew ?_ | refine blk_alloc ?_ _)); exact BK258.out⟩, ⟨by repeat (first | (with_reducible first | exact HB.out | apply below_alloc | apply pw_below_drewN | apply below_drew1 | refine below_set ?_ GE247.out | refine below_set ?_ GE258.out) | exact HB.out)⟩⟩
                            case rest =>
                              clear HC48
                              try clear c1
                              try clear p1
                              try clear q1
                              try clear hx1
                              try clear c2
                              try clear p2
                              try clear q2
                              try clear hx2
                              try clear c3
                              try clear c4
                              try clear c4b0
                              try clear c4b1
                              try clear c5
                              try clear c5b0
                              try clear c5b1
                              try clear p6
                              try clear c7
                              try clear c10
                              try clear c10b0
                              try clear c11
                              try clear c11b0
                              try clear p12
                              try clear q12
                              try clear hx12
                              try clear c13
                              try clear c13b0
                              try clear c13b1
                              try clear c21
                              try clear c21b0
                              try clear c21b1
                              try clear p24
                              try clear q24
                              try clear hx24
                              try clear c25
                              try clear p25
                              try clear q25
                              try clear hx25
                              try clear c28
                              try clear c28b0
                              try clear c29
                              try clear c29b0
                              try clear c30
                              try clear c30b0
                              try clear c30b1
                              try clear c32
                              try clear c32b0
                              try clear c32b1
                              try clear c32b2
                              try clear c33
                              try clear c33b0
                              try clear c33b1
                              try clear c33b2
                              try clear c34
                              try clear c34b0
                              try clear c34b1
                              try clear c34b2
                              try clear c35
                              try clear c35b0
                              try clear c35b1
                              try clear c35b2
                              try clear c38
                              try clear c38b0
                              try clear c38b1
                              try clear c38b2
                              try clear c39
                              try clear c39b0
                              try clear c39b1
                              try clear c39b2
                              try clear c40
                              try clear c40b0
                              try clear c40b1
                              try clear c40b2
                              try clear c41
                              try clear c41b0
                              try clear c41b1
                              try clear c41b2
                              try clear c43
                              try clear c43b0
                              try clear c43b1
                              try clear c52
                              try clear c54
                              try clear c54b0
                              try clear c54b1
                              try clear c55
                              try clear c58
                              try clear hcz20_0
                              try clear hcz20_1
                              try clear hcz22_0
                              try clear hcz22_1
                              try clear hcz24_0
                              try clear hcz24_1
                              try clear hcz53_0
                              try clear hcz53_1
                              try clear hcz56_0
                              try clear hcz56_1
                              try clear hcz59_0
                              try clear hcz59_1
                              try clear hfz20_0
                              try clear hfz20_1
                              try clear hfz22_0
                              try clear hfz22_1
                              try clear hfz24_0
                              try clear hfz24_1
                              try clear hfz53_0
                              try clear hfz53_1
                              try clear hfz56_0
                              try clear hfz56_1
                              try clear hfz59_0
                              try clear hfz59_1
                              try clear hx249_0
                              try clear hx249_1
                              try clear hx249_2
                              try clear hx250_0
                              try clear hx250_1
                              try clear hx250_2
                              try clear p1
                              try clear p12
                              try clear p2
                              try clear p249
                              try clear p250
                              try clear p6
                              try clear q1
                              try clear q12
                              try clear q249
                              try clear q250
                              obtain ⟨kq, x97_47, rfl, HA, HJ47, HO_6, HO_11, BK247, BK258, HB⟩ := hcut
                              cases kq with
                              | zero => exact absurd HA.out (by simp [parapetlaw19_LexNotes.j4])
                              | succ kj47 =>
                                have H := HA.out
                                clear HA
                                simp only [parapetlaw19_LexNotes.j4] at H
                                by_cases c60 : x97_47 = true
                                · subst c60
                                  have H1 : (some false) = some r := by rw [if_pos rfl] at H; exact H
                                  clear H
                                  have H := H1
                                  clear H1
                                  obtain rfl := Option.some.inj H
                                  go_wp2
                                  repeat (go_quiet (fail); try go_wp2)
                                  go_ret
                                  exact ⟨by first | rfl | (simp [errW_none, errW_some] <;> rfl) | (simp [*, errW_none, errW_some] <;> rfl), by repeat (first | (with_reducible first | exact HB.out | apply below_alloc | apply pw_below_drewN | apply below_drew1 | refine below_set ?_ GE247.out | refine below_set ?_ GE258.out) | exact HB.out)⟩
                                · replace c60 := Bool.eq_false_iff.mpr c60
                                  subst c60
                                  have H1 : (parapetlaw19_LexNotes.l2 kj47 t242 t253 0) = some r := by rw [if_neg (show ¬ (false = true) by decide)] at H; exact H
                                  clear H
                                  have H := H1
                                  clear H1
                                  have H' := Aside0.mk H
                                  clear H
                                  go_wp2
                                  repeat (go_quiet (fail); try go_wp2)
                                  go_loopg [13] kj47 (fun kq v13 w' => ∃ (x13_6 : Int), v13 = .int .i64 x13_6 ∧ Aside0 (parapetlaw19_LexNotes.l2 kq t242 t253 x13_6 = some r) ∧ Aside0 (kq ≤ kj47) ∧ Aside0 (Kd.R k31 31 w' w.heap.size (fun k_ => some k_ ≠ (v254 : Value).ownBlock) (.slice Ao49 t242.length co49) t242) ∧ Aside0 (Kd.R k31 31 w' w.heap.size (fun k_ => some k_ ≠ ((.slice Ao49 t242.length co49) : Value).ownBlock) v254 t253) ∧ Aside0 (w'.heap[gb247]? = some (.cells #[.int .i64 t245, .int .i64 t246] 26 (0, 0))) ∧ Aside0 (w'.heap[gb258]? = some (.cells #[.int .i64 t256, .int .i64 t257] 26 (0, 0))) ∧ Aside0 (Below w.heap.size w w'))
                                  case atStart => exact ⟨(0), (by first | rfl | (simp; done) | (simp [*]; done)), H', ⟨Nat.le_refl _⟩, ⟨by (with_reducible repeat (first | apply Kd.R_alloc | apply Kd.R_drewN | apply Kd.R_drew)); exact HO_6.out⟩, ⟨by (with_reducible repeat (first | apply Kd.R_alloc | apply Kd.R_drewN | apply Kd.R_drew)); exact HO_11.out⟩, ⟨by (with_reducible repeat (first | refine blk_drewN ?_ _ | refine blk_drew ?_ | refine blk_alloc ?_ _)); exact BK247.out⟩, ⟨by (with_reducible repeat (first | refine blk_drewN ?_ _ | refine blk_drew ?_ | refine blk_alloc ?_ _)); exact BK258.out⟩, ⟨by repeat (first | (with_reducible first | exact HB.out | apply below_alloc | apply pw_below_drewN | apply below_drew1 | refine below_set ?_ GE247.out | refine below_set ?_ GE258.out) | exact HB.out)⟩⟩
                                  case round =>
                                    clear H'
                                    try clear c1
                                    try clear p1
                                    try clear q1
                                    try clear hx1
                                    try clear c2
                                    try clear p2
                                    try clear q2
                                    try clear hx2
                                    try clear c3
                                    try clear c4
                                    try clear c4b0
                                    try clear c4b1
                                    try clear c5
                                    try clear c5b0
                                    try clear c5b1
                                    try clear c6
                                    try clear p6
                                    try clear c7
                                    try clear c10
                                    try clear c10b0
                                    try clear c11
                                    try clear c11b0
                                    try clear p12
                                    try clear q12
                                    try clear hx12
                                    try clear c13
                                    try clear c13b0
                                    try clear c13b1
                                    try clear c21
                                    try clear c21b0
                                    try clear c21b1
                                    try clear p24
                                    try clear q24
                                    try clear hx24
                                    try clear c25
                                    try clear p25
                                    try clear q25
                                    try clear hx25
                                    try clear c28
                                    try clear c28b0
                                    try clear c29
                                    try clear c29b0
                                    try clear c30
                                    try clear c30b0
                                    try clear c30b1
                                    try clear c32
                                    try clear c32b0
                                    try clear c32b1
                                    try clear c32b2
                                    try clear c33
                                    try clear c33b0
                                    try clear c33b1
                                    try clear c33b2
                                    try clear c34
                                    try clear c34b0
                                    try clear c34b1
                                    try clear c34b2
                                    try clear c35
                                    try clear c35b0
                                    try clear c35b1
                                    try clear c35b2
                                    try clear c38
                                    try clear c38b0
                                    try clear c38b1
                                    try clear c38b2
                                    try clear c39
                                    try clear c39b0
                                    try clear c39b1
                                    try clear c39b2
                                    try clear c40
                                    try clear c40b0
                                    try clear c40b1
                                    try clear c40b2
                                    try clear c41
                                    try clear c41b0
                                    try clear c41b1
                                    try clear c41b2
                                    try clear c43
                                    try clear c43b0
                                    try clear c43b1
                                    try clear c52
                                    try clear c54
                                    try clear c54b0
                                    try clear c54b1
                                    try clear c55
                                    try clear c58
                                    try clear c60
                                    try clear hcz20_0
                                    try clear hcz20_1
                                    try clear hcz22_0
                                    try clear hcz22_1
                                    try clear hcz24_0
                                    try clear hcz24_1
                                    try clear hcz53_0
                                    try clear hcz53_1
                                    try clear hcz56_0
                                    try clear hcz56_1
                                    try clear hcz59_0
                                    try clear hcz59_1
                                    try clear hfz20_0
                                    try clear hfz20_1
                                    try clear hfz22_0
                                    try clear hfz22_1
                                    try clear hfz24_0
                                    try clear hfz24_1
                                    try clear hfz53_0
                                    try clear hfz53_1
                                    try clear hfz56_0
                                    try clear hfz56_1
                                    try clear hfz59_0
                                    try clear hfz59_1
                                    try clear hx249_0
                                    try clear hx249_1
                                    try clear hx249_2
                                    try clear hx250_0
                                    try clear hx250_1
                                    try clear hx250_2
                                    try clear p1
                                    try clear p12
                                    try clear p2
                                    try clear p24
                                    try clear p249
                                    try clear p25
                                    try clear p250
                                    try clear p6
                                    try clear q1
                                    try clear q12
                                    try clear q2
                                    try clear q24
                                    try clear q249
                                    try clear q25
                                    try clear q250
                                    obtain ⟨x13_6, rfl, HA, HK6, HO_6, HO_11, BK247, BK258, HB⟩ := hrel
                                    cases gk with
                                    | zero => exact absurd HA.out (by simp [parapetlaw19_LexNotes.l2])
                                    | succ k6 =>
                                      have H := HA.out
                                      clear HA
                                      simp only [parapetlaw19_LexNotes.l2] at H
                                      by_cases c61 : x13_6 < (t242.length : Int)
                                      · rw [if_pos c61] at H
                                        have c61b0 : decide (x13_6 < (t242.length : Int)) = true := decide_eq_true c61
                                        clear c61
                                        by_cases c62 : 0 ≤ x13_6
                                        · rw [if_pos c62] at H
                                          have c62b0 : decide (0 ≤ x13_6) = true := decide_eq_true c62
                                          clear c62
                                          by_cases c63 : x13_6 < (t253.length : Int)
                                          · rw [if_pos c63] at H
                                            have c63b0 : decide (x13_6 < (t253.length : Int)) = true := decide_eq_true c63
                                            clear c63
                                            by_cases c64 : ((rd_T31 t242 x13_6).f0) = ((rd_T31 t253 x13_6).f0)
                                            · rw [if_pos c64] at H
                                              have c64b0 : (((rd_T31 t242 x13_6).f0) == ((rd_T31 t253 x13_6).f0)) = true := beq_iff_eq.mpr c64
                                              have c64b1 : (((rd_T31 t242 x13_6).f0) != ((rd_T31 t253 x13_6).f0)) = false := bne_eq_false_iff_eq.mpr c64
                                              clear c64
                                              by_cases c65 : ((rd_T31 t242 x13_6).f2).toList = ((rd_T31 t253 x13_6).f2).toList
                                              · rw [if_pos c65] at H
                                                have c65b0 : (((rd_T31 t242 x13_6).f2).toList == ((rd_T31 t253 x13_6).f2).toList) = true := beq_iff_eq.mpr c65
                                                have c65b1 : (((rd_T31 t242 x13_6).f2).toList != ((rd_T31 t253 x13_6).f2).toList) = false := bne_eq_false_iff_eq.mpr c65
                                                clear c65
                                                have H' := Aside0.mk H
                                                clear H
                                                have p259 : 0 ≤ (x13_6 : Int) := of_decide_eq_true (by first | (with_reducible assumption) | assumption)
                                                have q259 : x13_6 < (t242.length : Int) := of_decide_eq_true (by first | (with_reducible assumption) | assumption)
                                                obtain ⟨ad259, e259, hx259_0, hx259_1, hx259_2⟩ := at_T31 (Kd.R_reads' HO_6.out).2.2 x13_6 p259 q259
                                                cases e259
                                                replace p259 := eq_true p259
                                                replace q259 := eq_true q259
                                                obtain ⟨Ao66, co66, eo66⟩ := Kd.R_slice HO_11.out
                                                subst eo66
                                                have p260 : 0 ≤ (x13_6 : Int) := of_decide_eq_true (by first | (with_reducible assumption) | assumption)
                                                have q260 : x13_6 < (t253.length : Int) := of_decide_eq_true (by first | (with_reducible assumption) | assumption)
                                                obtain ⟨ad260, e260, hx260_0, hx260_1, hx260_2⟩ := at_T31 (Kd.R_reads' HO_11.out).2.2 x13_6 p260 q260
                                                cases e260
                                                replace p260 := eq_true p260
                                                replace q260 := eq_true q260
                                                have p261 : 0 ≤ (x13_6 : Int) := of_decide_eq_true (by first | (with_reducible assumption) | assumption)
                                                have q261 : x13_6 < (t242.length : Int) := of_decide_eq_true (by first | (with_reducible assumption) | assumption)
                                                obtain ⟨ad261, e261, hx261_0, hx261_1, hx261_2⟩ := at_T31 (Kd.R_reads' HO_6.out).2.2 x13_6 p261 q261
                                                obtain rfl : ad259 = ad261 := (by injection e261)
                                                replace p261 := eq_true p261
                                                replace q261 := eq_true q261
                                                have p262 : 0 ≤ (x13_6 : Int) := of_decide_eq_true (by first | (with_reducible assumption) | assumption)
                                                have q262 : x13_6 < (t253.length : Int) := of_decide_eq_true (by first | (with_reducible assumption) | assumption)
                                                obtain ⟨ad262, e262, hx262_0, hx262_1, hx262_2⟩ := at_T31 (Kd.R_reads' HO_11.out).2.2 x13_6 p262 q262
                                                obtain rfl : ad260 = ad262 := (by injection e262)
                                                replace p262 := eq_true p262
                                                replace q262 := eq_true q262
                                                go_wp2
                                                repeat (go_quiet (fail); try go_wp2)
                                                go_roundg k6
                                                case measure => have := HJ2.out; have := HK2.out; have := HJ16.out; have := HK4.out; have := HJ47.out; have := HK6.out; omega
                                                case rel => exact ⟨(wrap64 (x13_6 + 1)), (by first | rfl | (simp; done) | (simp [*]; done)), H', ⟨by have := HJ2.out; have := HK2.out; have := HJ16.out; have := HK4.out; have := HJ47.out; have := HK6.out; omega⟩, ⟨by (with_reducible repeat (first | apply Kd.R_alloc | apply Kd.R_drewN | apply Kd.R_drew)); exact HO_6.out⟩, ⟨by (with_reducible repeat (first | apply Kd.R_alloc | apply Kd.R_drewN | apply Kd.R_drew)); exact HO_11.out⟩, ⟨by (with_reducible repeat (first | refine blk_drewN ?_ _ | refine blk_drew ?_ | refine blk_alloc ?_ _)); exact BK247.out⟩, ⟨by (with_reducible repeat (first | refine blk_drewN ?_ _ | refine blk_drew ?_ | refine blk_alloc ?_ _)); exact BK258.out⟩, ⟨by repeat (first | (with_reducible first | exact HB.out | apply below_alloc | apply pw_below_drewN | apply below_drew1 | refine below_set ?_ GE247.out | refine below_set ?_ GE258.out) | exact HB.out)⟩⟩
                                              · rw [if_neg c65] at H
                                                have c65b0 : (((rd_T31 t242 x13_6).f2).toList == ((rd_T31 t253 x13_6).f2).toList) = false := beq_eq_false_iff_ne.mpr c65
                                                have c65b1 : (((rd_T31 t242 x13_6).f2).toList != ((rd_T31 t253 x13_6).f2).toList) = true := bne_iff_ne.mpr c65
                                                obtain rfl := Option.some.inj H
                                                have p259 : 0 ≤ (x13_6 : Int) := of_decide_eq_true (by first | (with_reducible assumption) | assumption)
                                                have q259 : x13_6 < (t242.length : Int) := of_decide_eq_true (by first | (with_reducible assumption) | assumption)
                                                obtain ⟨ad259, e259, hx259_0, hx259_1, hx259_2⟩ := at_T31 (Kd.R_reads' HO_6.out).2.2 x13_6 p259 q259
                                                cases e259
                                                replace p259 := eq_true p259
                                                replace q259 := eq_true q259
                                                obtain ⟨Ao67, co67, eo67⟩ := Kd.R_slice HO_11.out
                                                subst eo67
                                                have p260 : 0 ≤ (x13_6 : Int) := of_decide_eq_true (by first | (with_reducible assumption) | assumption)
                                                have q260 : x13_6 < (t253.length : Int) := of_decide_eq_true (by first | (with_reducible assumption) | assumption)
                                                obtain ⟨ad260, e260, hx260_0, hx260_1, hx260_2⟩ := at_T31 (Kd.R_reads' HO_11.out).2.2 x13_6 p260 q260
                                                cases e260
                                                replace p260 := eq_true p260
                                                replace q260 := eq_true q260
                                                have p261 : 0 ≤ (x13_6 : Int) := of_decide_eq_true (by first | (with_reducible assumption) | assumption)
                                                have q261 : x13_6 < (t242.length : Int) := of_decide_eq_true (by first | (with_reducible assumption) | assumption)
                                                obtain ⟨ad261, e261, hx261_0, hx261_1, hx261_2⟩ := at_T31 (Kd.R_reads' HO_6.out).2.2 x13_6 p261 q261
                                                obtain rfl : ad259 = ad261 := (by injection e261)
                                                replace p261 := eq_true p261
                                                replace q261 := eq_true q261
                                                have p262 : 0 ≤ (x13_6 : Int) := of_decide_eq_true (by first | (with_reducible assumption) | assumption)
                                                have q262 : x13_6 < (t253.length : Int) := of_decide_eq_true (by first | (with_reducible assumption) | assumption)
                                                obtain ⟨ad262, e262, hx262_0, hx262_1, hx262_2⟩ := at_T31 (Kd.R_reads' HO_11.out).2.2 x13_6 p262 q262
                                                obtain rfl : ad260 = ad262 := (by injection e262)
                                                replace p262 := eq_true p262
                                                replace q262 := eq_true q262
                                                go_wp2
                                                repeat (go_quiet (fail); try go_wp2)
                                                go_ret
                                                exact ⟨by first | rfl | (simp [errW_none, errW_some] <;> rfl) | (simp [*, errW_none, errW_some] <;> rfl), by repeat (first | (with_reducible first | exact HB.out | apply below_alloc | apply pw_below_drewN | apply below_drew1 | refine below_set ?_ GE247.out | refine below_set ?_ GE258.out) | exact HB.out)⟩
                                            · rw [if_neg c64] at H
                                              have c64b0 : (((rd_T31 t242 x13_6).f0) == ((rd_T31 t253 x13_6).f0)) = false := beq_eq_false_iff_ne.mpr c64
                                              have c64b1 : (((rd_T31 t242 x13_6).f0) != ((rd_T31 t253 x13_6).f0)) = true := bne_iff_ne.mpr c64
                                              obtain rfl := Option.some.inj H
                                              have p259 : 0 ≤ (x13_6 : Int) := of_decide_eq_true (by first | (with_reducible assumption) | assumption)
                                              have q259 : x13_6 < (t242.length : Int) := of_decide_eq_true (by first | (with_reducible assumption) | assumption)
                                              obtain ⟨ad259, e259, hx259_0, hx259_1, hx259_2⟩ := at_T31 (Kd.R_reads' HO_6.out).2.2 x13_6 p259 q259
                                              cases e259
                                              replace p259 := eq_true p259
                                              replace q259 := eq_true q259
                                              obtain ⟨Ao68, co68, eo68⟩ := Kd.R_slice HO_11.out
                                              subst eo68
                                              have p260 : 0 ≤ (x13_6 : Int) := of_decide_eq_true (by first | (with_reducible assumption) | assumption)
                                              have q260 : x13_6 < (t253.length : Int) := of_decide_eq_true (by first | (with_reducible assumption) | assumption)
                                              obtain ⟨ad260, e260, hx260_0, hx260_1, hx260_2⟩ := at_T31 (Kd.R_reads' HO_11.out).2.2 x13_6 p260 q260
                                              cases e260
                                              replace p260 := eq_true p260
                                              replace q260 := eq_true q260
                                              go_wp2
                                              repeat (go_quiet (fail); try go_wp2)
                                              go_ret
                                              exact ⟨by first | rfl | (simp [errW_none, errW_some] <;> rfl) | (simp [*, errW_none, errW_some] <;> rfl), by repeat (first | (with_reducible first | exact HB.out | apply below_alloc | apply pw_below_drewN | apply below_drew1 | refine below_set ?_ GE247.out | refine below_set ?_ GE258.out) | exact HB.out)⟩
                                          · rw [if_neg c63] at H
                                            exact absurd H (by simp)
                                        · rw [if_neg c62] at H
                                          exact absurd H (by simp)
                                      · rw [if_neg c61] at H
                                        have c61b0 : decide (x13_6 < (t242.length : Int)) = false := decide_eq_false c61
                                        clear c61
                                        replace H := Option.bind_eq_some_iff.mp H
                                        obtain ⟨t263, A690, H⟩ := H
                                        replace H : (some t263) = some r := H
                                        have A69 := Aside0.mk A690
                                        clear A690
                                        obtain rfl := Option.some.inj H
                                        go_wp2_with (first | (go_at_call 8; (with_reducible refine (parapetlaw19_awake.calls k6  t263 _ ?side1 A69.out).mono ?_); (case side1 => (first | exact HLD.out | exact Laid.below HLD.out (by repeat (first | (with_reducible first | exact HB.out | apply below_alloc | apply pw_below_drewN | apply below_drew1 | refine below_set ?_ GE247.out | refine below_set ?_ GE258.out) | exact HB.out)))); rintro e w70 ⟨rfl, hb⟩; have n0_ := Aside0.mk (Kd.R_below (by (with_reducible repeat (first | apply Kd.R_alloc | apply Kd.R_drewN | apply Kd.R_drew)); exact HO_6.out) hb); have n1_ := Aside0.mk (Kd.R_below (by (with_reducible repeat (first | apply Kd.R_alloc | apply Kd.R_drewN | apply Kd.R_drew)); exact HO_11.out) hb); have n2_ := Aside0.mk (blk_below (g := gb247) (o := .cells #[.int .i64 t245, .int .i64 t246] 26 (0, 0)) (by (with_reducible repeat (first | refine blk_drewN ?_ _ | refine blk_drew ?_ | refine blk_alloc ?_ _)); exact BK247.out) hb); have n3_ := Aside0.mk (blk_below (g := gb258) (o := .cells #[.int .i64 t256, .int .i64 t257] 26 (0, 0)) (by (with_reducible repeat (first | refine blk_drewN ?_ _ | refine blk_drew ?_ | refine blk_alloc ?_ _)); exact BK258.out) hb); have n4_ := Aside0.mk (below_step (by repeat (first | (with_reducible first | exact HB.out | apply below_alloc | apply pw_below_drewN | apply below_drew1 | refine below_set ?_ GE247.out | refine below_set ?_ GE258.out) | exact HB.out)) hb); clear HO_6; clear HO_11; clear BK247; clear BK258; clear HB; have HO_6 := n0_; have HO_11 := n1_; have BK247 := n2_; have BK258 := n3_; have HB := n4_; clear n0_ n1_ n2_ n3_ n4_; (try clear hb); (try clear hb2); (try clear hk); (try clear hi)))
                                        repeat (go_quiet (first | (go_at_call 8; (with_reducible refine (parapetlaw19_awake.calls k6  t263 _ ?side1 A69.out).mono ?_); (case side1 => (first | exact HLD.out | exact Laid.below HLD.out (by repeat (first | (with_reducible first | exact HB.out | apply below_alloc | apply pw_below_drewN | apply below_drew1 | refine below_set ?_ GE247.out | refine below_set ?_ GE258.out) | exact HB.out)))); rintro e w70 ⟨rfl, hb⟩; have n0_ := Aside0.mk (Kd.R_below (by (with_reducible repeat (first | apply Kd.R_alloc | apply Kd.R_drewN | apply Kd.R_drew)); exact HO_6.out) hb); have n1_ := Aside0.mk (Kd.R_below (by (with_reducible repeat (first | apply Kd.R_alloc | apply Kd.R_drewN | apply Kd.R_drew)); exact HO_11.out) hb); have n2_ := Aside0.mk (blk_below (g := gb247) (o := .cells #[.int .i64 t245, .int .i64 t246] 26 (0, 0)) (by (with_reducible repeat (first | refine blk_drewN ?_ _ | refine blk_drew ?_ | refine blk_alloc ?_ _)); exact BK247.out) hb); have n3_ := Aside0.mk (blk_below (g := gb258) (o := .cells #[.int .i64 t256, .int .i64 t257] 26 (0, 0)) (by (with_reducible repeat (first | refine blk_drewN ?_ _ | refine blk_drew ?_ | refine blk_alloc ?_ _)); exact BK258.out) hb); have n4_ := Aside0.mk (below_step (by repeat (first | (with_reducible first | exact HB.out | apply below_alloc | apply pw_below_drewN | apply below_drew1 | refine below_set ?_ GE247.out | refine below_set ?_ GE258.out) | exact HB.out)) hb); clear HO_6; clear HO_11; clear BK247; clear BK258; clear HB; have HO_6 := n0_; have HO_11 := n1_; have BK247 := n2_; have BK258 := n3_; have HB := n4_; clear n0_ n1_ n2_ n3_ n4_; (try clear hb); (try clear hb2); (try clear hk); (try clear hi))); try go_wp2_with (first | (go_at_call 8; (with_reducible refine (parapetlaw19_awake.calls k6  t263 _ ?side1 A69.out).mono ?_); (case side1 => (first | exact HLD.out | exact Laid.below HLD.out (by repeat (first | (with_reducible first | exact HB.out | apply below_alloc | apply pw_below_drewN | apply below_drew1 | refine below_set ?_ GE247.out | refine below_set ?_ GE258.out) | exact HB.out)))); rintro e w70 ⟨rfl, hb⟩; have n0_ := Aside0.mk (Kd.R_below (by (with_reducible repeat (first | apply Kd.R_alloc | apply Kd.R_drewN | apply Kd.R_drew)); exact HO_6.out) hb); have n1_ := Aside0.mk (Kd.R_below (by (with_reducible repeat (first | apply Kd.R_alloc | apply Kd.R_drewN | apply Kd.R_drew)); exact HO_11.out) hb); have n2_ := Aside0.mk (blk_below (g := gb247) (o := .cells #[.int .i64 t245, .int .i64 t246] 26 (0, 0)) (by (with_reducible repeat (first | refine blk_drewN ?_ _ | refine blk_drew ?_ | refine blk_alloc ?_ _)); exact BK247.out) hb); have n3_ := Aside0.mk (blk_below (g := gb258) (o := .cells #[.int .i64 t256, .int .i64 t257] 26 (0, 0)) (by (with_reducible repeat (first | refine blk_drewN ?_ _ | refine blk_drew ?_ | refine blk_alloc ?_ _)); exact BK258.out) hb); have n4_ := Aside0.mk (below_step (by repeat (first | (with_reducible first | exact HB.out | apply below_alloc | apply pw_below_drewN | apply below_drew1 | refine below_set ?_ GE247.out | refine below_set ?_ GE258.out) | exact HB.out)) hb); clear HO_6; clear HO_11; clear BK247; clear BK258; clear HB; have HO_6 := n0_; have HO_11 := n1_; have BK247 := n2_; have BK258 := n3_; have HB := n4_; clear n0_ n1_ n2_ n3_ n4_; (try clear hb); (try clear hb2); (try clear hk); (try clear hi))))
                                        go_ret
                                        exact ⟨by first | rfl | (simp [errW_none, errW_some] <;> rfl) | (simp [*, errW_none, errW_some] <;> rfl), by repeat (first | (with_reducible first | exact HB.out | apply below_alloc | apply pw_below_drewN | apply below_drew1 | refine below_set ?_ GE247.out | refine below_set ?_ GE258.out) | exact HB.out)⟩

/-- THE ONE PURE STATEMENT of parapetlaw19_LexNotes: yours. -/
def parapetlaw19_LexNotes.Pure : Prop := ∀ (a0 : ByteArray) (a1 : ByteArray), a0.size ≤ 140737488351232 → a1.size ≤ 140737488351232 → ∃ k, parapetlaw19_LexNotes.f k a0 a1 = some true
theorem parapetlaw19_LexNotes.walk (P : parapetlaw19_LexNotes.Pure) (a0 : ByteArray) (a1 : ByteArray) (w : World) (w0 : a0.size ≤ 140737488351232) (w1 : a1.size ≤ 140737488351232) (hL : Laid w) :
    Calls Tryd.prog 7 #[.string a0, .string a1] w fun e w' => e = .returned (.bool true) ∧ Below w.heap.size w w' := by
  obtain ⟨k, h⟩ := P a0 a1 w0 w1
  refine (parapetlaw19_LexNotes.calls k a0 a1 true w hL h).mono ?_
  rintro e w' ⟨rfl, hd⟩
  exact ⟨rfl, hd⟩

end Go.Proofs.YtlhllcbglfffdaaDoor.Pr
