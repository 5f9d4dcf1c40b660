/- 1 texts of the proof, put together, less what is not used; what a tool printed stands among them. -/
import Derived.Test.YtngedmioeodmfaaDoorMItems8
namespace Go.Proofs.YtngedmioeodmfaaDoor.Pr
open Go.RowKit Go.Proofs.YtngedmioeodmfaaDoorW.PrintWords Go.Proofs.YtngedmioeodmfaaDoorW.PrintLast Go.Proofs.YtngedmioeodmfaaDoorW.PrintMore
attribute [local go_sem] max2_int min2_int max_two min_two max_three min_three max_four min_four   -- for this text's walks alone
set_option linter.unusedVariables false
set_option linter.unusedSimpArgs false
attribute [local go_sem high] eqA30
mutual
def parapetlaw20_ParseItems.j0 : Nat → Int → Int → Bool → Option (Bool)
  | 0, _, _, _ => none
  | k + 1, x0, x1, x17 => if x17 = true then ((parapetlaw20_awake.f k).bind fun t126 => (some t126)) else ((some (([(⟨#[97, 108, 108, 111, 119, 32, 105, 102, 32, 116, 114, 117, 101, 59]⟩ : ByteArray), (⟨#[109, 105, 120, 101, 100, 32, 97, 108, 108, 111, 119, 59]⟩ : ByteArray), (⟨#[100, 101, 102, 97, 117, 108, 116, 32, 97, 108, 108, 111, 119, 59]⟩ : ByteArray), (⟨#[99, 115, 112, 32, 34, 120, 34, 59]⟩ : ByteArray)] : List ByteArray) : List ByteArray)).bind fun y127 => (if 0 ≤ (Int.tmod (wrap64 ((Int.tmod x1 4) + 4)) 4) then (if (Int.tmod (wrap64 ((Int.tmod x1 4) + 4)) 4) < (y127.length : Int) then (parapetlaw20_ParseItems.l0 k x0 (rdOf ByteArray.empty y127 (Int.tmod (wrap64 ((Int.tmod x1 4) + 4)) 4)) (⟨#[]⟩ : ByteArray) 0) else (none)) else (none)))
def parapetlaw20_ParseItems.l0 : Nat → Int → ByteArray → ByteArray → Int → Option (Bool)
  | 0, _, _, _, _ => none
  | k + 1, x0, x5, x6, x7 => if x7 < x0 then (if x6.size + x5.size ≤ 9223372036854775807 then (parapetlaw20_ParseItems.l0 k x0 x5 (x6 ++ x5) (wrap64 (x7 + 1))) else (none)) else ((parse_Policy.f k x6).bind fun bt131 => (if x5.toList = ([109, 105, 120, 101, 100, 32, 97, 108, 108, 111, 119, 59] : List UInt8) then (parapetlaw20_ParseItems.j2 k x0 x5 true bt131.1 bt131.2.1 bt131.2.2.1 bt131.2.2.2.1 bt131.2.2.2.2.1 bt131.2.2.2.2.2.1 bt131.2.2.2.2.2.2) else (parapetlaw20_ParseItems.j2 k x0 x5 (x5.toList == ([100, 101, 102, 97, 117, 108, 116, 32, 97, 108, 108, 111, 119, 59] : List UInt8)) bt131.1 bt131.2.1 bt131.2.2.1 bt131.2.2.2.1 bt131.2.2.2.2.1 bt131.2.2.2.2.2.1 bt131.2.2.2.2.2.2)))
def parapetlaw20_ParseItems.j2 : Nat → Int → ByteArray → Bool → List ByteArray → List (S44) → ByteArray → List (S51) → Bool → Int → Int → Option (Bool)
  | 0, _, _, _, _, _, _, _, _, _, _ => none
  | k + 1, x0, x5, x10, x145000, x145001, x145002, x145003, x145004, x146000, x146001 => if x10 = true then (parapetlaw20_ParseItems.j3 k x0 x5 x10 (decide (x0 > 1)) x145000 x145001 x145002 x145003 x145004 x146000 x146001) else (parapetlaw20_ParseItems.j3 k x0 x5 x10 false x145000 x145001 x145002 x145003 x145004 x146000 x146001)
def parapetlaw20_ParseItems.j3 : Nat → Int → ByteArray → Bool → Bool → List ByteArray → List (S44) → ByteArray → List (S51) → Bool → Int → Int → Option (Bool)
  | 0, _, _, _, _, _, _, _, _, _, _, _ => none
  | k + 1, x0, x5, x10, x45, x145000, x145001, x145002, x145003, x145004, x146000, x146001 => if x45 = true then (if (x146000 == 10 && (x146001 == (x5.size : Int))) = true then ((parapetlaw20_awake.f k).bind fun t146 => (some t146)) else (some false)) else (if x0 > 60 then (if (x146000 == 2 && (x146001 == (wrap64 (60 * (x5.size : Int))))) = true then ((parapetlaw20_awake.f k).bind fun t147 => (some t147)) else (some false)) else (if x10 = true then (if x146000 = 0 then (if (wrap64 ((x145003.length : Int) + (x145000.length : Int))) = 0 then (if x5.toList = ([100, 101, 102, 97, 117, 108, 116, 32, 97, 108, 108, 111, 119, 59] : List UInt8) then (if (x145004 == (x0 == 1)) = true then (if x5.toList = ([109, 105, 120, 101, 100, 32, 97, 108, 108, 111, 119, 59] : List UInt8) then (if ((x145002.toList == ([97, 108, 108, 111, 119] : List UInt8)) == (x0 == 1)) = true then ((parapetlaw20_awake.f k).bind fun t148 => (some t148)) else (some false)) else (if ((x145002.toList == ([97, 108, 108, 111, 119] : List UInt8)) == false) = true then ((parapetlaw20_awake.f k).bind fun t149 => (some t149)) else (some false))) else (some false)) else (if (x145004 == false) = true then (if x5.toList = ([109, 105, 120, 101, 100, 32, 97, 108, 108, 111, 119, 59] : List UInt8) then (if ((x145002.toList == ([97, 108, 108, 111, 119] : List UInt8)) == (x0 == 1)) = true then ((parapetlaw20_awake.f k).bind fun t150 => (some t150)) else (some false)) else (if ((x145002.toList == ([97, 108, 108, 111, 119] : List UInt8)) == false) = true then ((parapetlaw20_awake.f k).bind fun t151 => (some t151)) else (some false))) else (some false))) else (some false)) else (some false)) else (if x146000 = 0 then (if (wrap64 ((x145003.length : Int) + (x145000.length : Int))) = x0 then (if x5.toList = ([100, 101, 102, 97, 117, 108, 116, 32, 97, 108, 108, 111, 119, 59] : List UInt8) then (if (x145004 == (x0 == 1)) = true then (if x5.toList = ([109, 105, 120, 101, 100, 32, 97, 108, 108, 111, 119, 59] : List UInt8) then (if ((x145002.toList == ([97, 108, 108, 111, 119] : List UInt8)) == (x0 == 1)) = true then ((parapetlaw20_awake.f k).bind fun t152 => (some t152)) else (some false)) else (if ((x145002.toList == ([97, 108, 108, 111, 119] : List UInt8)) == false) = true then ((parapetlaw20_awake.f k).bind fun t153 => (some t153)) else (some false))) else (some false)) else (if (x145004 == false) = true then (if x5.toList = ([109, 105, 120, 101, 100, 32, 97, 108, 108, 111, 119, 59] : List UInt8) then (if ((x145002.toList == ([97, 108, 108, 111, 119] : List UInt8)) == (x0 == 1)) = true then ((parapetlaw20_awake.f k).bind fun t154 => (some t154)) else (some false)) else (if ((x145002.toList == ([97, 108, 108, 111, 119] : List UInt8)) == false) = true then ((parapetlaw20_awake.f k).bind fun t155 => (some t155)) else (some false))) else (some false))) else (some false)) else (some false))))
end
def parapetlaw20_ParseItems.f (k : Nat) (a0 : Int) (a1 : Int) : Option (Bool) := if a0 < 0 then (parapetlaw20_ParseItems.j0 k a0 a1 true) else (parapetlaw20_ParseItems.j0 k a0 a1 (decide (a0 > 70)))
theorem parapetlaw20_ParseItems.mono_l : ∀ k, (∀ y0 y1 y2, LeO (parapetlaw20_ParseItems.j0 k y0 y1 y2) (parapetlaw20_ParseItems.j0 (k + 1) y0 y1 y2)) ∧ (∀ y0 y1 y2 y3, LeO (parapetlaw20_ParseItems.l0 k y0 y1 y2 y3) (parapetlaw20_ParseItems.l0 (k + 1) y0 y1 y2 y3)) ∧ (∀ y0 y1 y2 y3 y4 y5 y6 y7 y8 y9, LeO (parapetlaw20_ParseItems.j2 k y0 y1 y2 y3 y4 y5 y6 y7 y8 y9) (parapetlaw20_ParseItems.j2 (k + 1) y0 y1 y2 y3 y4 y5 y6 y7 y8 y9)) ∧ (∀ y0 y1 y2 y3 y4 y5 y6 y7 y8 y9 y10, LeO (parapetlaw20_ParseItems.j3 k y0 y1 y2 y3 y4 y5 y6 y7 y8 y9 y10) (parapetlaw20_ParseItems.j3 (k + 1) y0 y1 y2 y3 y4 y5 y6 y7 y8 y9 y10))
  | 0 => ⟨fun _ _ _ r h => by simp [parapetlaw20_ParseItems.j0] at h, fun _ _ _ _ r h => by simp [parapetlaw20_ParseItems.l0] at h, fun _ _ _ _ _ _ _ _ _ _ r h => by simp [parapetlaw20_ParseItems.j2] at h, fun _ _ _ _ _ _ _ _ _ _ _ r h => by simp [parapetlaw20_ParseItems.j3] at h⟩
  | k + 1 => by
    obtain ⟨ih0, ih1, ih2, ih3⟩ := parapetlaw20_ParseItems.mono_l k
    refine ⟨?_, ?_, ?_, ?_⟩
    · intro y0 y1 y2
      unfold parapetlaw20_ParseItems.j0
      repeat' first
      | (with_reducible exact ih0 _ _ _)
      | (with_reducible exact ih1 _ _ _ _)
      | (with_reducible exact ih2 _ _ _ _ _ _ _ _ _ _)
      | (with_reducible exact ih3 _ _ _ _ _ _ _ _ _ _ _)
      | (with_reducible exact parapetlaw20_awake.mono _)
      | (with_reducible exact parse_Policy.mono _ _)
      | (with_reducible exact LeO.refl _)
      | (with_reducible exact LeO.none _)
      | (with_reducible refine LeO.ite ?_ ?_)
      | (with_reducible refine LeO.bind ?_ (fun _ => ?_))
      | exact ih0 _ _ _
      | exact ih1 _ _ _ _
      | exact ih2 _ _ _ _ _ _ _ _ _ _
      | exact ih3 _ _ _ _ _ _ _ _ _ _ _
      | exact parapetlaw20_awake.mono _
      | exact parse_Policy.mono _ _
      | exact LeO.none _
      | refine LeO.ite ?_ ?_
      | refine LeO.bind ?_ (fun _ => ?_)
    · intro y0 y1 y2 y3
      unfold parapetlaw20_ParseItems.l0
      repeat' first
      | (with_reducible exact ih0 _ _ _)
      | (with_reducible exact ih1 _ _ _ _)
      | (with_reducible exact ih2 _ _ _ _ _ _ _ _ _ _)
      | (with_reducible exact ih3 _ _ _ _ _ _ _ _ _ _ _)
      | (with_reducible exact parapetlaw20_awake.mono _)
      | (with_reducible exact parse_Policy.mono _ _)
      | (with_reducible exact LeO.refl _)
      | (with_reducible exact LeO.none _)
      | (with_reducible refine LeO.ite ?_ ?_)
      | (with_reducible refine LeO.bind ?_ (fun _ => ?_))
      | exact ih0 _ _ _
      | exact ih1 _ _ _ _
      | exact ih2 _ _ _ _ _ _ _ _ _ _
      | exact ih3 _ _ _ _ _ _ _ _ _ _ _
      | exact parapetlaw20_awake.mono _
      | exact parse_Policy.mono _ _
      | exact LeO.none _
      | refine LeO.ite ?_ ?_
      | refine LeO.bind ?_ (fun _ => ?_)
    · intro y0 y1 y2 y3 y4 y5 y6 y7 y8 y9
      unfold parapetlaw20_ParseItems.j2
      repeat' first
      | (with_reducible exact ih0 _ _ _)
      | (with_reducible exact ih1 _ _ _ _)
      | (with_reducible exact ih2 _ _ _ _ _ _ _ _ _ _)
      | (with_reducible exact ih3 _ _ _ _ _ _ _ _ _ _ _)
      | (with_reducible exact parapetlaw20_awake.mono _)
      | (with_reducible exact parse_Policy.mono _ _)
      | (with_reducible exact LeO.refl _)
      | (with_reducible exact LeO.none _)
      | (with_reducible refine LeO.ite ?_ ?_)
      | (with_reducible refine LeO.bind ?_ (fun _ => ?_))
      | exact ih0 _ _ _
      | exact ih1 _ _ _ _
      | exact ih2 _ _ _ _ _ _ _ _ _ _
      | exact ih3 _ _ _ _ _ _ _ _ _ _ _
      | exact parapetlaw20_awake.mono _
      | exact parse_Policy.mono _ _
      | exact LeO.none _
      | refine LeO.ite ?_ ?_
      | refine LeO.bind ?_ (fun _ => ?_)
    · intro y0 y1 y2 y3 y4 y5 y6 y7 y8 y9 y10
      unfold parapetlaw20_ParseItems.j3
      repeat' first
      | (with_reducible exact ih0 _ _ _)
      | (with_reducible exact ih1 _ _ _ _)
      | (with_reducible exact ih2 _ _ _ _ _ _ _ _ _ _)
      | (with_reducible exact ih3 _ _ _ _ _ _ _ _ _ _ _)
      | (with_reducible exact parapetlaw20_awake.mono _)
      | (with_reducible exact parse_Policy.mono _ _)
      | (with_reducible exact LeO.refl _)
      | (with_reducible exact LeO.none _)
      | (with_reducible refine LeO.ite ?_ ?_)
      | (with_reducible refine LeO.bind ?_ (fun _ => ?_))
      | exact ih0 _ _ _
      | exact ih1 _ _ _ _
      | exact ih2 _ _ _ _ _ _ _ _ _ _
      | exact ih3 _ _ _ _ _ _ _ _ _ _ _
      | exact parapetlaw20_awake.mono _
      | exact parse_Policy.mono _ _
      | exact LeO.none _
      | refine LeO.ite ?_ ?_
      | refine LeO.bind ?_ (fun _ => ?_)
theorem parapetlaw20_ParseItems.mono : ∀ a0 a1 k, LeO (parapetlaw20_ParseItems.f k a0 a1) (parapetlaw20_ParseItems.f (k + 1) a0 a1) := by
  intro a0 a1 k
  obtain ⟨ih0, ih1, ih2, ih3⟩ := parapetlaw20_ParseItems.mono_l k
  unfold parapetlaw20_ParseItems.f
  repeat' first
      | (with_reducible exact ih0 _ _ _)
      | (with_reducible exact ih1 _ _ _ _)
      | (with_reducible exact ih2 _ _ _ _ _ _ _ _ _ _)
      | (with_reducible exact ih3 _ _ _ _ _ _ _ _ _ _ _)
      | (with_reducible exact parapetlaw20_awake.mono _)
      | (with_reducible exact parse_Policy.mono _ _)
      | (with_reducible exact LeO.refl _)
      | (with_reducible exact LeO.none _)
      | (with_reducible refine LeO.ite ?_ ?_)
      | (with_reducible refine LeO.bind ?_ (fun _ => ?_))
      | exact ih0 _ _ _
      | exact ih1 _ _ _ _
      | exact ih2 _ _ _ _ _ _ _ _ _ _
      | exact ih3 _ _ _ _ _ _ _ _ _ _ _
      | exact parapetlaw20_awake.mono _
      | exact parse_Policy.mono _ _
      | exact LeO.none _
      | refine LeO.ite ?_ ?_
      | refine LeO.bind ?_ (fun _ => ?_)
set_option maxHeartbeats 8000000 in
set_option maxRecDepth 100000 in
theorem parapetlaw20_ParseItems.calls (k : Nat) (a0 : Int) (a1 : Int) (r : Bool) (w : World) (hL : Laid w) (h : parapetlaw20_ParseItems.f k a0 a1 = some r) :
    Calls Tryd.prog 4 #[.int .i64 a0, .int .i64 a1] w fun e w' => e = .returned (.bool r) ∧ Below w.heap.size w w' := by
  have hu27 := Tryd.underlying27
  have hu30 := Tryd.underlying30
  have HLD := Aside0.mk hL
  clear hL
  have HB := Aside0.mk (Below.refl w.heap.size w)
  have H : (if a0 < 0 then (parapetlaw20_ParseItems.j0 k a0 a1 true) else (parapetlaw20_ParseItems.j0 k a0 a1 (decide (a0 > 70)))) = some r := h
  clear h
  have HC3 := Aside0.mk H
  clear H
  go_enter Tryd.func4, Tryd.ntmps4
  go_upto_region 1 with (fail)
  go_cut [17] (fun v17 wc => ∃ (kq : Nat) (x17_2 : Bool), v17 = .bool x17_2 ∧ Aside0 (parapetlaw20_ParseItems.j0 kq a0 a1 x17_2 = some r) ∧ Aside0 (kq ≤ k) ∧ Aside0 (Below w.heap.size w wc))
  case first =>
    have H := HC3.out
    clear HC3
    by_cases c4 : a0 < 0
    · rw [if_pos c4] at H
      have c4b0 : decide (a0 < 0) = true := decide_eq_true c4
      clear c4
      (first | rw [c4b0] | (simp only [i64_w, i32_w]; rw [c4b0]) | skip)
      have H' := Aside0.mk H
      clear H
      go_wp2
      go_meet
      case rel => exact ⟨_, (true), (by first | rfl | (simp; done) | (simp [*]; done)), H', ⟨by first | omega | exact Nat.le_refl _⟩, ⟨by repeat (first | (with_reducible first | exact HB.out | apply below_alloc | apply pw_below_drewN | apply below_drew1) | exact HB.out)⟩⟩
    · rw [if_neg c4] at H
      have c4b0 : decide (a0 < 0) = false := decide_eq_false c4
      clear c4
      (first | rw [c4b0] | (simp only [i64_w, i32_w]; rw [c4b0]) | skip)
      have H' := Aside0.mk H
      clear H
      go_wp2
      go_meet
      case rel => exact ⟨_, (decide (a0 > 70)), (by first | rfl | (simp; done) | (simp [*]; done)), H', ⟨by first | omega | exact Nat.le_refl _⟩, ⟨by repeat (first | (with_reducible first | exact HB.out | apply below_alloc | apply pw_below_drewN | apply below_drew1) | exact HB.out)⟩⟩
  case rest =>
    clear HC3
    try clear p2
    try clear c4
    try clear c4b0
    obtain ⟨kq, x17_2, rfl, HA, HJ2, HB⟩ := hcut
    cases kq with
    | zero => exact absurd HA.out (by simp [parapetlaw20_ParseItems.j0])
    | succ kj2 =>
      have H := HA.out
      clear HA
      simp only [parapetlaw20_ParseItems.j0] at H
      by_cases c5 : x17_2 = true
      · subst c5
        have H1 : ((parapetlaw20_awake.f kj2).bind fun t126 => (some t126)) = some r := by rw [if_pos rfl] at H; exact H
        clear H
        have H := H1
        clear H1
        replace H := Option.bind_eq_some_iff.mp H
        obtain ⟨t126, A60, H⟩ := H
        replace H : (some t126) = some r := H
        have A6 := Aside0.mk A60
        clear A60
        obtain rfl := Option.some.inj H
        go_wp2_with (first | ((with_reducible refine gate_callee (f := 11) rfl ?_); refine goesL_ (some 18) rfl rfl Tryd.func11 (by kernel_rfl) rfl #[] rfl (by (try simp only [List.map_toArray, List.map_cons, List.map_nil]); first | done | rfl | (simp only [List.length_drop, List.length_take]; rfl)) ?_; (with_reducible refine (parapetlaw20_awake.calls kj2  t126 _ ?side1 A6.out).mono ?_); (case side1 => (first | (with_reducible exact HLD.out) | exact Laid.below HLD.out (by repeat (first | (with_reducible first | exact HB.out | apply below_alloc | apply pw_below_drewN | apply below_drew1) | exact HB.out)))); rintro e w7 ⟨rfl, hb⟩; refine ⟨_, rfl, ?_⟩; have n0_ := Aside0.mk (below_step (by repeat (first | (with_reducible first | exact HB.out | apply below_alloc | apply pw_below_drewN | apply below_drew1) | exact HB.out)) hb); clear HB; have HB := n0_; clear n0_; (try clear hb); (try clear hb2); (try clear hk); (try clear hi)))
        go_ret
        exact ⟨by first | rfl | (simp [errW_none, errW_some] <;> rfl) | (simp [*, errW_none, errW_some] <;> rfl), by repeat (first | (with_reducible first | exact HB.out | apply below_alloc | apply pw_below_drewN | apply below_drew1) | exact HB.out)⟩
      · replace c5 := Bool.eq_false_iff.mpr c5
        subst c5
        have H1 : ((some (([(⟨#[97, 108, 108, 111, 119, 32, 105, 102, 32, 116, 114, 117, 101, 59]⟩ : ByteArray), (⟨#[109, 105, 120, 101, 100, 32, 97, 108, 108, 111, 119, 59]⟩ : ByteArray), (⟨#[100, 101, 102, 97, 117, 108, 116, 32, 97, 108, 108, 111, 119, 59]⟩ : ByteArray), (⟨#[99, 115, 112, 32, 34, 120, 34, 59]⟩ : ByteArray)] : List ByteArray) : List ByteArray)).bind fun y127 => (if 0 ≤ (Int.tmod (wrap64 ((Int.tmod a1 4) + 4)) 4) then (if (Int.tmod (wrap64 ((Int.tmod a1 4) + 4)) 4) < (y127.length : Int) then (parapetlaw20_ParseItems.l0 kj2 a0 (rdOf ByteArray.empty y127 (Int.tmod (wrap64 ((Int.tmod a1 4) + 4)) 4)) (⟨#[]⟩ : ByteArray) 0) else (none)) else (none))) = some r := by rw [if_neg (show ¬ (false = true) by decide)] at H; exact H
        clear H
        have H := H1
        clear H1
        obtain ⟨y127, hy127⟩ : ∃ y_ : List ByteArray, y_ = (([(⟨#[97, 108, 108, 111, 119, 32, 105, 102, 32, 116, 114, 117, 101, 59]⟩ : ByteArray), (⟨#[109, 105, 120, 101, 100, 32, 97, 108, 108, 111, 119, 59]⟩ : ByteArray), (⟨#[100, 101, 102, 97, 117, 108, 116, 32, 97, 108, 108, 111, 119, 59]⟩ : ByteArray), (⟨#[99, 115, 112, 32, 34, 120, 34, 59]⟩ : ByteArray)] : List ByteArray)) := ⟨_, rfl⟩
        replace H : (if 0 ≤ (Int.tmod (wrap64 ((Int.tmod a1 4) + 4)) 4) then (if (Int.tmod (wrap64 ((Int.tmod a1 4) + 4)) 4) < (y127.length : Int) then (parapetlaw20_ParseItems.l0 kj2 a0 (rdOf ByteArray.empty y127 (Int.tmod (wrap64 ((Int.tmod a1 4) + 4)) 4)) (⟨#[]⟩ : ByteArray) 0) else (none)) else (none)) = some r := by first | (rw [hy127]; with_reducible exact H) | (have H2_ := (Option.bind_some _ _).symm.trans H; rw [hy127]; with_reducible exact H2_) | (have H2_ := (Option.bind_some _ _).symm.trans H; with_reducible exact H2_) | with_reducible exact H | (rw [hy127]; exact H) | exact H
        have Ny127 := Aside0.mk hy127
        clear hy127
        obtain ⟨ji8, hji8⟩ : ∃ j_ : Int, (Int.tmod (wrap64 ((Int.tmod a1 4) + 4)) 4) = j_ := ⟨_, rfl⟩
        replace H : (if 0 ≤ (ji8) then (if (ji8) < (y127.length : Int) then (parapetlaw20_ParseItems.l0 kj2 a0 (rdOf ByteArray.empty y127 (ji8)) (⟨#[]⟩ : ByteArray) 0) else (none)) else (none)) = some r := by first | (rw [hji8] at H; exact H) | (simp only [hji8] at H ⊢; exact H)
        by_cases c9 : 0 ≤ (ji8)
        · rw [if_pos c9] at H
          have c9b0 : decide (0 ≤ (ji8)) = true := decide_eq_true c9
          clear c9
          by_cases c10 : (ji8) < (y127.length : Int)
          · rw [if_pos c10] at H
            have c10b0 : decide ((ji8) < (y127.length : Int)) = true := decide_eq_true c10
            clear c10
            have H' := Aside0.mk H
            clear H
            go_wp2_with (first | ((with_reducible refine gate_dst (N := 19) rfl ?_); (try (refine gate_guard (by rfl) ?_; dsimp only)); refine Kd.R_lit Kd.string _ 9 ?hg (N := 19) ?hd (xs := ([(⟨#[97, 108, 108, 111, 119, 32, 105, 102, 32, 116, 114, 117, 101, 59]⟩ : ByteArray), (⟨#[109, 105, 120, 101, 100, 32, 97, 108, 108, 111, 119, 59]⟩ : ByteArray), (⟨#[100, 101, 102, 97, 117, 108, 116, 32, 97, 108, 108, 111, 119, 59]⟩ : ByteArray), (⟨#[99, 115, 112, 32, 34, 120, 34, 59]⟩ : ByteArray)] : List ByteArray)) (inner := [.string (⟨#[97, 108, 108, 111, 119, 32, 105, 102, 32, 116, 114, 117, 101, 59]⟩ : ByteArray), .string (⟨#[109, 105, 120, 101, 100, 32, 97, 108, 108, 111, 119, 59]⟩ : ByteArray), .string (⟨#[100, 101, 102, 97, 117, 108, 116, 32, 97, 108, 108, 111, 119, 59]⟩ : ByteArray), .string (⟨#[99, 115, 112, 32, 34, 120, 34, 59]⟩ : ByteArray)]) (ok := fun _ => True) (okp := fun _ => True) ?hr ?hp (fun _ hk => hk) trivial (Below.refl _ _) (Nat.le_refl _) (by simp) ?_; (case hd => rfl); (case hg => rfl); (case hr => first | (go_simp; done) | (go_simp; rfl)); (case hp => exact (Reps.one (show Kd.M Kd.string _ _ _ (⟨#[97, 108, 108, 111, 119, 32, 105, 102, 32, 116, 114, 117, 101, 59]⟩ : ByteArray) [.string (⟨#[97, 108, 108, 111, 119, 32, 105, 102, 32, 116, 114, 117, 101, 59]⟩ : ByteArray)] from rfl) (Reps.one (show Kd.M Kd.string _ _ _ (⟨#[109, 105, 120, 101, 100, 32, 97, 108, 108, 111, 119, 59]⟩ : ByteArray) [.string (⟨#[109, 105, 120, 101, 100, 32, 97, 108, 108, 111, 119, 59]⟩ : ByteArray)] from rfl) (Reps.one (show Kd.M Kd.string _ _ _ (⟨#[100, 101, 102, 97, 117, 108, 116, 32, 97, 108, 108, 111, 119, 59]⟩ : ByteArray) [.string (⟨#[100, 101, 102, 97, 117, 108, 116, 32, 97, 108, 108, 111, 119, 59]⟩ : ByteArray)] from rfl) (Reps.one (show Kd.M Kd.string _ _ _ (⟨#[99, 115, 112, 32, 34, 120, 34, 59]⟩ : ByteArray) [.string (⟨#[99, 115, 112, 32, 34, 120, 34, 59]⟩ : ByteArray)] from rfl) (Reps.none _ _)))))); intro v128 w11 ho12 hb hg_ hnew_; clear hg_ hnew_; (first | rw [← Ny127.out] at ho12 | (simp only [Int.reduceToNat] at ho12; rw [← Ny127.out] at ho12)); have n0_ := Aside0.mk (Kd.R_lower ho12 (below_size (by repeat (first | (with_reducible first | exact HB.out | apply below_alloc | apply pw_below_drewN | apply below_drew1) | exact HB.out)))); have n1_ := Aside0.mk (below_step (by repeat (first | (with_reducible first | exact HB.out | apply below_alloc | apply pw_below_drewN | apply below_drew1) | exact HB.out)) hb); clear HB; have HO129 := n0_; have HB := n1_; clear n0_ n1_; clear hb ho12; obtain ⟨Ao13, co13, eo13⟩ := Kd.R_slice HO129.out; subst eo13; have p130 : 0 ≤ ((ji8) : Int) := of_decide_eq_true (by first | (with_reducible assumption) | assumption); have q130 : (ji8) < (y127.length : Int) := of_decide_eq_true (by first | (with_reducible assumption) | assumption); obtain ⟨ad130, e130, hx130_0⟩ := Kd.at_string (Kd.R_reads' HO129.out).2.2 (ji8) p130 q130; cases e130; replace p130 := eq_true p130; replace q130 := eq_true q130))
            go_loopg [6, 7] kj2 (fun kq v6 v7 w' => ∃ (x6_2 : ByteArray) (x7_2 : Int), v6 = .string x6_2 ∧ v7 = .int .i64 x7_2 ∧ Aside0 (parapetlaw20_ParseItems.l0 kq a0 (rdOf ByteArray.empty y127 (ji8)) x6_2 x7_2 = some r) ∧ Aside0 (kq ≤ kj2) ∧ Aside0 (Below w.heap.size w w'))
            case atStart => exact ⟨((⟨#[]⟩ : ByteArray)), (0), (by first | rfl | (simp; done) | (simp [*]; done)), (by first | rfl | (simp; done) | (simp [*]; done)), H', ⟨Nat.le_refl _⟩, ⟨by repeat (first | (with_reducible first | exact HB.out | apply below_alloc | apply pw_below_drewN | apply below_drew1) | exact HB.out)⟩⟩
            case round =>
              clear H'
              try clear c1
              try clear p1
              try clear q1
              try clear hx1
              try clear p2
              try clear c4
              try clear c4b0
              try clear c5
              try clear p6
              try clear c9
              try clear c9b0
              try clear c10
              try clear c10b0
              try clear c11
              try clear p13
              try clear q13
              try clear hx13
              try clear hx130_0
              try clear p130
              try clear p2
              try clear q130
              obtain ⟨x6_2, x7_2, rfl, rfl, HA, HK2, HB⟩ := hrel
              cases gk with
              | zero => exact absurd HA.out (by simp [parapetlaw20_ParseItems.l0])
              | succ k2 =>
                have H := HA.out
                clear HA
                simp only [parapetlaw20_ParseItems.l0] at H
                by_cases c14 : x7_2 < a0
                · rw [if_pos c14] at H
                  have c14b0 : decide (x7_2 < a0) = true := decide_eq_true c14
                  clear c14
                  by_cases c15 : x6_2.size + (rdOf ByteArray.empty y127 (ji8)).size ≤ 9223372036854775807
                  · rw [if_pos c15] at H
                    have c15b0 := eq_true c15
                    have c15b1 : decide (x6_2.size + (rdOf ByteArray.empty y127 (ji8)).size ≤ 9223372036854775807) = true := decide_eq_true c15
                    try have c15b2 : (9223372036854775807 < x6_2.size + (rdOf ByteArray.empty y127 (ji8)).size) = False := eq_false (Nat.not_lt.2 c15)
                    have H' := Aside0.mk H
                    clear H
                    go_wp2
                    go_roundg k2
                    case measure => have := HJ2.out; have := HK2.out; omega
                    case rel => exact ⟨(x6_2 ++ (rdOf ByteArray.empty y127 (ji8))), (wrap64 (x7_2 + 1)), (by first | rfl | (simp; done) | (simp only [← hji8] <;> (first | rfl | simp)) | (simp [*]; done)), (by first | rfl | (simp; done) | (simp [*]; done)), H', ⟨by have := HJ2.out; have := HK2.out; omega⟩, ⟨by repeat (first | (with_reducible first | exact HB.out | apply below_alloc | apply pw_below_drewN | apply below_drew1) | exact HB.out)⟩⟩
                  · rw [if_neg c15] at H
                    exact absurd H (by simp)
                · rw [if_neg c14] at H
                  have c14b0 : decide (x7_2 < a0) = false := decide_eq_false c14
                  clear c14
                  replace H := Option.bind_eq_some_iff.mp H
                  obtain ⟨⟨t131, t134, t137, t138, t141, t142, t143⟩, A160, H⟩ := H
                  replace H : (if (rdOf ByteArray.empty y127 (ji8)).toList = ([109, 105, 120, 101, 100, 32, 97, 108, 108, 111, 119, 59] : List UInt8) then (parapetlaw20_ParseItems.j2 k2 a0 (rdOf ByteArray.empty y127 (ji8)) true t131 t134 t137 t138 t141 t142 t143) else (parapetlaw20_ParseItems.j2 k2 a0 (rdOf ByteArray.empty y127 (ji8)) ((rdOf ByteArray.empty y127 (ji8)).toList == ([100, 101, 102, 97, 117, 108, 116, 32, 97, 108, 108, 111, 119, 59] : List UInt8)) t131 t134 t137 t138 t141 t142 t143)) = some r := H
                  have A16 := Aside0.mk A160
                  clear A160
                  have HC17 := Aside0.mk H
                  clear H
                  go_upto_region 10 with (first | ((with_reducible refine gate_callee (f := 12) rfl ?_); refine goesL_ (some 36) rfl rfl Tryd.func12 (by kernel_rfl) rfl #[.string x6_2] rfl (by (try simp only [List.map_toArray, List.map_cons, List.map_nil]); first | done | rfl | (simp only [List.length_drop, List.length_take]; rfl)) ?_; (with_reducible refine (parse_Policy.calls k2 x6_2 t131 t134 t137 t138 t141 t142 t143 _ ?side1 A16.out).mono ?_); (case side1 => (first | (with_reducible exact HLD.out) | exact Laid.below HLD.out (by repeat (first | (with_reducible first | exact HB.out | apply below_alloc | apply pw_below_drewN | apply below_drew1) | exact HB.out)))); rintro e w18 ⟨v132, v135, v139, rfl, ho0, ho1, ho2, hb⟩; refine ⟨_, rfl, ?_⟩; have n0_ := Aside0.mk (Kd.R_lower ho0 (below_size (by repeat (first | (with_reducible first | exact HB.out | apply below_alloc | apply pw_below_drewN | apply below_drew1) | exact HB.out)))); have n1_ := Aside0.mk (Kd.R_lower ho1 (below_size (by repeat (first | (with_reducible first | exact HB.out | apply below_alloc | apply pw_below_drewN | apply below_drew1) | exact HB.out)))); have n2_ := Aside0.mk (Kd.R_lower ho2 (below_size (by repeat (first | (with_reducible first | exact HB.out | apply below_alloc | apply pw_below_drewN | apply below_drew1) | exact HB.out)))); have n3_ := Aside0.mk (below_step (by repeat (first | (with_reducible first | exact HB.out | apply below_alloc | apply pw_below_drewN | apply below_drew1) | exact HB.out)) hb); clear HB; have HO133 := n0_; have HO136 := n1_; have HO140 := n2_; have HB := n3_; clear n0_ n1_ n2_ n3_; (try clear hb); (try clear hb2); (try clear hk); (try clear hi); (try clear ho0); (try clear ho1); (try clear ho2)) | ((with_reducible refine gate_dst (N := 8) rfl ?_); (try (refine gate_guard (by rfl) ?_; dsimp only)); refine box_event ?hg (N := 8) ?hd (cs := #[.slice none 0 0, .slice none 0 0, .string (⟨#[]⟩ : ByteArray), .slice none 0 0, .bool false]) (t := 27) ?hr ?_; (case hd => rfl); (case hg => rfl); (case hr => first | (go_simp; done) | (go_simp; rfl)); intro gb144 hg w19 hbox hb; have n0_ := Aside0.mk (Kd.R_below (by (with_reducible repeat (first | apply Kd.R_alloc | apply Kd.R_drewN | apply Kd.R_drew)); exact HO133.out) hb); have n1_ := Aside0.mk (Kd.R_below (by (with_reducible repeat (first | apply Kd.R_alloc | apply Kd.R_drewN | apply Kd.R_drew)); exact HO136.out) hb); have n2_ := Aside0.mk (Kd.R_below (by (with_reducible repeat (first | apply Kd.R_alloc | apply Kd.R_drewN | apply Kd.R_drew)); exact HO140.out) hb); have n3_ := Aside0.mk (below_step (by repeat (first | (with_reducible first | exact HB.out | apply below_alloc | apply pw_below_drewN | apply below_drew1) | exact HB.out)) hb); have n4_ := Aside0.mk (hbox); have n5_ := Aside0.mk ((by rw [hg]; exact (below_size (by repeat (first | (with_reducible first | exact HB.out | apply below_alloc | apply pw_below_drewN | apply below_drew1) | exact HB.out))) : w.heap.size ≤ gb144)); have n6_ := Aside0.mk ((by rw [hg]; exact (below_size (by repeat (first | (with_reducible first | exact HB.out | apply below_alloc | apply pw_below_drewN | apply below_drew1) | exact HB.out))) : w.heap.size ≤ gb144)); clear HO133; clear HO136; clear HO140; clear HB; have HO133 := n0_; have HO136 := n1_; have HO140 := n2_; have HB := n3_; have BK144 := n4_; have GW144 := n5_; have GE144 := n6_; clear n0_ n1_ n2_ n3_ n4_ n5_ n6_; clear hb hbox hg) | ((with_reducible refine gate_dst (N := 9) rfl ?_); (try (refine gate_guard (by rfl) ?_; dsimp only)); refine box_event ?hg (N := 9) ?hd (cs := #[.int .i64 0, .int .i64 0]) (t := 30) ?hr ?_; (case hd => rfl); (case hg => rfl); (case hr => first | (go_simp; done) | (go_simp; rfl)); intro gb145 hg w20 hbox hb; have n0_ := Aside0.mk (Kd.R_below (by (with_reducible repeat (first | apply Kd.R_alloc | apply Kd.R_drewN | apply Kd.R_drew)); exact HO133.out) hb); have n1_ := Aside0.mk (Kd.R_below (by (with_reducible repeat (first | apply Kd.R_alloc | apply Kd.R_drewN | apply Kd.R_drew)); exact HO136.out) hb); have n2_ := Aside0.mk (Kd.R_below (by (with_reducible repeat (first | apply Kd.R_alloc | apply Kd.R_drewN | apply Kd.R_drew)); exact HO140.out) hb); have n3_ := Aside0.mk (blk_below (g := gb144) (o := .cells #[.slice none 0 0, .slice none 0 0, .string (⟨#[]⟩ : ByteArray), .slice none 0 0, .bool false] 27 (0, 0)) (by (with_reducible repeat (first | refine blk_drewN ?_ _ | refine blk_drew ?_ | refine blk_alloc ?_ _)); exact BK144.out) hb); have n4_ := Aside0.mk (below_step (by repeat (first | (with_reducible first | exact HB.out | apply below_alloc | apply pw_below_drewN | apply below_drew1 | refine below_set ?_ GE144.out) | exact HB.out)) hb); have n5_ := Aside0.mk (hbox); have n6_ := Aside0.mk ((by rw [hg]; exact (below_size (by repeat (first | (with_reducible first | exact HB.out | apply below_alloc | apply pw_below_drewN | apply below_drew1 | refine below_set ?_ GE144.out) | exact HB.out))) : w.heap.size ≤ gb145)); have n7_ := Aside0.mk ((by rw [hg]; exact (below_size (by repeat (first | (with_reducible first | exact HB.out | apply below_alloc | apply pw_below_drewN | apply below_drew1 | refine below_set ?_ GE144.out) | exact HB.out))) : w.heap.size ≤ gb145)); have n8_ := Aside0.mk ((by rw [hg]; exact Nat.ne_of_lt (blk_lt (g := gb144) (o := .cells #[.slice none 0 0, .slice none 0 0, .string (⟨#[]⟩ : ByteArray), .slice none 0 0, .bool false] 27 (0, 0)) (by (with_reducible repeat (first | refine blk_drewN ?_ _ | refine blk_drew ?_ | refine blk_alloc ?_ _)); exact BK144.out)) : gb144 ≠ gb145)); have n9_ := Aside0.mk ((by rw [hg]; exact Nat.ne_of_gt (blk_lt (g := gb144) (o := .cells #[.slice none 0 0, .slice none 0 0, .string (⟨#[]⟩ : ByteArray), .slice none 0 0, .bool false] 27 (0, 0)) (by (with_reducible repeat (first | refine blk_drewN ?_ _ | refine blk_drew ?_ | refine blk_alloc ?_ _)); exact BK144.out)) : gb145 ≠ gb144)); clear HO133; clear HO136; clear HO140; clear BK144; clear HB; have HO133 := n0_; have HO136 := n1_; have HO140 := n2_; have BK144 := n3_; have HB := n4_; have BK145 := n5_; have GW145 := n6_; have GE145 := n7_; have NB144_145 := n8_; have NB145_144 := n9_; clear n0_ n1_ n2_ n3_ n4_ n5_ n6_ n7_ n8_ n9_; clear hb hbox hg; obtain ⟨Ao21, co21, eo21⟩ := Kd.R_slice HO133.out; subst eo21; have hnb22 := NB144_145.out; have hnc22 := NB145_144.out; have hcz23_0 : w20.cell? ⟨gb144, 0, none⟩ = some (.slice none 0 0) := (blk_cell BK144.out 0).trans rfl; have hcz23_1 : w20.cell? ⟨gb144, 1, none⟩ = some (.slice none 0 0) := (blk_cell BK144.out 1).trans rfl; have hcz23_2 : w20.cell? ⟨gb144, 2, none⟩ = some (.string (⟨#[]⟩ : ByteArray)) := (blk_cell BK144.out 2).trans rfl; have hcz23_3 : w20.cell? ⟨gb144, 3, none⟩ = some (.slice none 0 0) := (blk_cell BK144.out 3).trans rfl; have hcz23_4 : w20.cell? ⟨gb144, 4, none⟩ = some (.bool false) := (blk_cell BK144.out 4).trans rfl; have hfz23_0 := blk_frozen BK144.out 0; have hfz23_1 := blk_frozen BK144.out 1; have hfz23_2 := blk_frozen BK144.out 2; have hfz23_3 := blk_frozen BK144.out 3; have hfz23_4 := blk_frozen BK144.out 4; obtain ⟨Ao24, co24, eo24⟩ := Kd.R_slice HO136.out; subst eo24; obtain ⟨Ao25, co25, eo25⟩ := Kd.R_slice HO140.out; subst eo25; have hcz26_0 : w20.cell? ⟨gb145, 0, none⟩ = some (.int .i64 0) := (blk_cell BK145.out 0).trans rfl; have hcz26_1 : w20.cell? ⟨gb145, 1, none⟩ = some (.int .i64 0) := (blk_cell BK145.out 1).trans rfl; have hfz26_0 := blk_frozen BK145.out 0; have hfz26_1 := blk_frozen BK145.out 1))
                  (try simp only [Act.put, List.setIfInBounds_toArray, List.set_cons_zero, List.set_cons_succ])
                  go_cut [10] (fun v10 wc => ∃ (kq : Nat) (x10_16 : Bool), v10 = .bool x10_16 ∧ Aside0 (parapetlaw20_ParseItems.j2 kq a0 (rdOf ByteArray.empty y127 (ji8)) x10_16 t131 t134 t137 t138 t141 t142 t143 = some r) ∧ Aside0 (kq ≤ k2) ∧ Aside0 (Kd.R Kd.string 9 wc w.heap.size (fun _ => True) (.slice Ao21 t131.length co21) t131) ∧ Aside0 (Kd.R k44 44 wc w.heap.size (fun k_ => some k_ ≠ ((.slice Ao21 t131.length co21) : Value).ownBlock) (.slice Ao24 t134.length co24) t134) ∧ Aside0 (Kd.R k51 51 wc w.heap.size (fun _ => True) (.slice Ao25 t138.length co25) t138) ∧ Aside0 (wc.heap[gb144]? = some (.cells #[(.slice Ao21 t131.length co21), (.slice Ao24 t134.length co24), .string t137, (.slice Ao25 t138.length co25), .bool t141] 27 (0, 0))) ∧ Aside0 (wc.heap[gb145]? = some (.cells #[.int .i64 t142, .int .i64 t143] 30 (0, 0))) ∧ Aside0 (Below w.heap.size w wc))
                  case first =>
                    have H := HC17.out
                    clear HC17
                    by_cases c27 : (rdOf ByteArray.empty y127 (ji8)).toList = ([109, 105, 120, 101, 100, 32, 97, 108, 108, 111, 119, 59] : List UInt8)
                    · rw [if_pos c27] at H
                      have c27b0 : ((rdOf ByteArray.empty y127 (ji8)).toList == ([109, 105, 120, 101, 100, 32, 97, 108, 108, 111, 119, 59] : List UInt8)) = true := beq_iff_eq.mpr c27
                      have c27b1 : ((rdOf ByteArray.empty y127 (ji8)).toList != ([109, 105, 120, 101, 100, 32, 97, 108, 108, 111, 119, 59] : List UInt8)) = false := bne_eq_false_iff_eq.mpr c27
                      clear c27
                      (first | rw [c27b0] | (simp only [i64_w, i32_w]; rw [c27b0]) | skip)
                      have H' := Aside0.mk H
                      clear H
                      go_wp2
                      go_meet
                      case rel => exact ⟨_, (true), (by first | rfl | (simp; done) | (simp [*]; done)), H', ⟨by have := HJ2.out; have := HK2.out; first | omega | exact Nat.le_refl _⟩, ⟨by (with_reducible repeat (first | apply Kd.R_alloc | apply Kd.R_drewN | apply Kd.R_drew)); exact Kd.R_mono (Kd.R_far (p := ⟨gb145, 1, none⟩) (Kd.R_far (p := ⟨gb145, 0, none⟩) (Kd.R_far (p := ⟨gb144, 4, none⟩) (Kd.R_far (p := ⟨gb144, 3, none⟩) (Kd.R_far (p := ⟨gb144, 2, none⟩) (Kd.R_far (p := ⟨gb144, 1, none⟩) (Kd.R_far (p := ⟨gb144, 0, none⟩) (Kd.R_types (Kd.R_types HO133.out BK144.out (by decide)) BK145.out (by decide)) (fun _ hk => hk.1.2) (.slice Ao21 t131.length co21)) (fun _ hk => hk.1.2) (.slice Ao24 t134.length co24)) (fun _ hk => hk.1.2) (.string t137)) (fun _ hk => hk.1.2) (.slice Ao25 t138.length co25)) (fun _ hk => hk.1.2) (.bool t141)) (fun _ hk => hk.2) (.int .i64 t142)) (fun _ hk => hk.2) (.int .i64 t143)) (fun _ hk => trivial)⟩, ⟨by (with_reducible repeat (first | apply Kd.R_alloc | apply Kd.R_drewN | apply Kd.R_drew)); exact Kd.R_mono (Kd.R_far (p := ⟨gb145, 1, none⟩) (Kd.R_far (p := ⟨gb145, 0, none⟩) (Kd.R_far (p := ⟨gb144, 4, none⟩) (Kd.R_far (p := ⟨gb144, 3, none⟩) (Kd.R_far (p := ⟨gb144, 2, none⟩) (Kd.R_far (p := ⟨gb144, 1, none⟩) (Kd.R_far (p := ⟨gb144, 0, none⟩) (Kd.R_types (Kd.R_types HO136.out BK144.out (by decide)) BK145.out (by decide)) (fun _ hk => hk.1.2) (.slice Ao21 t131.length co21)) (fun _ hk => hk.1.2) (.slice Ao24 t134.length co24)) (fun _ hk => hk.1.2) (.string t137)) (fun _ hk => hk.1.2) (.slice Ao25 t138.length co25)) (fun _ hk => hk.1.2) (.bool t141)) (fun _ hk => hk.2) (.int .i64 t142)) (fun _ hk => hk.2) (.int .i64 t143)) (fun _ hk => hk.1.1)⟩, ⟨by (with_reducible repeat (first | apply Kd.R_alloc | apply Kd.R_drewN | apply Kd.R_drew)); exact Kd.R_mono (Kd.R_far (p := ⟨gb145, 1, none⟩) (Kd.R_far (p := ⟨gb145, 0, none⟩) (Kd.R_far (p := ⟨gb144, 4, none⟩) (Kd.R_far (p := ⟨gb144, 3, none⟩) (Kd.R_far (p := ⟨gb144, 2, none⟩) (Kd.R_far (p := ⟨gb144, 1, none⟩) (Kd.R_far (p := ⟨gb144, 0, none⟩) (Kd.R_types (Kd.R_types HO140.out BK144.out (by decide)) BK145.out (by decide)) (fun _ hk => hk.1.2) (.slice Ao21 t131.length co21)) (fun _ hk => hk.1.2) (.slice Ao24 t134.length co24)) (fun _ hk => hk.1.2) (.string t137)) (fun _ hk => hk.1.2) (.slice Ao25 t138.length co25)) (fun _ hk => hk.1.2) (.bool t141)) (fun _ hk => hk.2) (.int .i64 t142)) (fun _ hk => hk.2) (.int .i64 t143)) (fun _ hk => trivial)⟩, ⟨by (with_reducible repeat (first | refine blk_drewN ?_ _ | refine blk_drew ?_ | refine blk_alloc ?_ _)); refine blk_far ?_ NB144_145.out _; (with_reducible repeat (first | refine blk_drewN ?_ _ | refine blk_drew ?_ | refine blk_alloc ?_ _)); refine blk_far ?_ NB144_145.out _; (with_reducible repeat (first | refine blk_drewN ?_ _ | refine blk_drew ?_ | refine blk_alloc ?_ _)); refine blk_put (cs := #[.slice Ao21 t131.length co21, .slice Ao24 t134.length co24, .string t137, .slice Ao25 t138.length co25, .bool false]) ?_ 4 _ rfl; (with_reducible repeat (first | refine blk_drewN ?_ _ | refine blk_drew ?_ | refine blk_alloc ?_ _)); refine blk_put (cs := #[.slice Ao21 t131.length co21, .slice Ao24 t134.length co24, .string t137, .slice none 0 0, .bool false]) ?_ 3 _ rfl; (with_reducible repeat (first | refine blk_drewN ?_ _ | refine blk_drew ?_ | refine blk_alloc ?_ _)); refine blk_put (cs := #[.slice Ao21 t131.length co21, .slice Ao24 t134.length co24, .string (⟨#[]⟩ : ByteArray), .slice none 0 0, .bool false]) ?_ 2 _ rfl; (with_reducible repeat (first | refine blk_drewN ?_ _ | refine blk_drew ?_ | refine blk_alloc ?_ _)); refine blk_put (cs := #[.slice Ao21 t131.length co21, .slice none 0 0, .string (⟨#[]⟩ : ByteArray), .slice none 0 0, .bool false]) ?_ 1 _ rfl; (with_reducible repeat (first | refine blk_drewN ?_ _ | refine blk_drew ?_ | refine blk_alloc ?_ _)); refine blk_put (cs := #[.slice none 0 0, .slice none 0 0, .string (⟨#[]⟩ : ByteArray), .slice none 0 0, .bool false]) ?_ 0 _ rfl; (with_reducible repeat (first | refine blk_drewN ?_ _ | refine blk_drew ?_ | refine blk_alloc ?_ _)); exact BK144.out⟩, ⟨by (with_reducible repeat (first | refine blk_drewN ?_ _ | refine blk_drew ?_ | refine blk_alloc ?_ _)); refine blk_put (cs := #[.int .i64 t142, .int .i64 0]) ?_ 1 _ rfl; (with_reducible repeat (first | refine blk_drewN ?_ _ | refine blk_drew ?_ | refine blk_alloc ?_ _)); refine blk_put (cs := #[.int .i64 0, .int .i64 0]) ?_ 0 _ rfl; (with_reducible repeat (first | refine blk_drewN ?_ _ | refine blk_drew ?_ | refine blk_alloc ?_ _)); refine blk_far ?_ NB145_144.out _; (with_reducible repeat (first | refine blk_drewN ?_ _ | refine blk_drew ?_ | refine blk_alloc ?_ _)); refine blk_far ?_ NB145_144.out _; (with_reducible repeat (first | refine blk_drewN ?_ _ | refine blk_drew ?_ | refine blk_alloc ?_ _)); refine blk_far ?_ NB145_144.out _; (with_reducible repeat (first | refine blk_drewN ?_ _ | refine blk_drew ?_ | refine blk_alloc ?_ _)); refine blk_far ?_ NB145_144.out _; (with_reducible repeat (first | refine blk_drewN ?_ _ | refine blk_drew ?_ | refine blk_alloc ?_ _)); refine blk_far ?_ NB145_144.out _; (with_reducible repeat (first | refine blk_drewN ?_ _ | refine blk_drew ?_ | refine blk_alloc ?_ _)); exact BK145.out⟩, ⟨by repeat (first | (with_reducible first | exact HB.out | apply below_alloc | apply pw_below_drewN | apply below_drew1 | refine below_set ?_ GE144.out | refine below_set ?_ GE145.out) | exact HB.out)⟩⟩
                    · rw [if_neg c27] at H
                      have c27b0 : ((rdOf ByteArray.empty y127 (ji8)).toList == ([109, 105, 120, 101, 100, 32, 97, 108, 108, 111, 119, 59] : List UInt8)) = false := beq_eq_false_iff_ne.mpr c27
                      have c27b1 : ((rdOf ByteArray.empty y127 (ji8)).toList != ([109, 105, 120, 101, 100, 32, 97, 108, 108, 111, 119, 59] : List UInt8)) = true := bne_iff_ne.mpr c27
                      (first | rw [c27b0] | (simp only [i64_w, i32_w]; rw [c27b0]) | skip)
                      have H' := Aside0.mk H
                      clear H
                      go_wp2
                      go_meet
                      case rel => exact ⟨_, (((rdOf ByteArray.empty y127 (ji8)).toList == ([100, 101, 102, 97, 117, 108, 116, 32, 97, 108, 108, 111, 119, 59] : List UInt8))), (by first | rfl | (simp; done) | (simp only [← hji8] <;> (first | rfl | simp)) | (simp [*]; done)), H', ⟨by have := HJ2.out; have := HK2.out; first | omega | exact Nat.le_refl _⟩, ⟨by (with_reducible repeat (first | apply Kd.R_alloc | apply Kd.R_drewN | apply Kd.R_drew)); exact Kd.R_mono (Kd.R_far (p := ⟨gb145, 1, none⟩) (Kd.R_far (p := ⟨gb145, 0, none⟩) (Kd.R_far (p := ⟨gb144, 4, none⟩) (Kd.R_far (p := ⟨gb144, 3, none⟩) (Kd.R_far (p := ⟨gb144, 2, none⟩) (Kd.R_far (p := ⟨gb144, 1, none⟩) (Kd.R_far (p := ⟨gb144, 0, none⟩) (Kd.R_types (Kd.R_types HO133.out BK144.out (by decide)) BK145.out (by decide)) (fun _ hk => hk.1.2) (.slice Ao21 t131.length co21)) (fun _ hk => hk.1.2) (.slice Ao24 t134.length co24)) (fun _ hk => hk.1.2) (.string t137)) (fun _ hk => hk.1.2) (.slice Ao25 t138.length co25)) (fun _ hk => hk.1.2) (.bool t141)) (fun _ hk => hk.2) (.int .i64 t142)) (fun _ hk => hk.2) (.int .i64 t143)) (fun _ hk => trivial)⟩, ⟨by (with_reducible repeat (first | apply Kd.R_alloc | apply Kd.R_drewN | apply Kd.R_drew)); exact Kd.R_mono (Kd.R_far (p := ⟨gb145, 1, none⟩) (Kd.R_far (p := ⟨gb145, 0, none⟩) (Kd.R_far (p := ⟨gb144, 4, none⟩) (Kd.R_far (p := ⟨gb144, 3, none⟩) (Kd.R_far (p := ⟨gb144, 2, none⟩) (Kd.R_far (p := ⟨gb144, 1, none⟩) (Kd.R_far (p := ⟨gb144, 0, none⟩) (Kd.R_types (Kd.R_types HO136.out BK144.out (by decide)) BK145.out (by decide)) (fun _ hk => hk.1.2) (.slice Ao21 t131.length co21)) (fun _ hk => hk.1.2) (.slice Ao24 t134.length co24)) (fun _ hk => hk.1.2) (.string t137)) (fun _ hk => hk.1.2) (.slice Ao25 t138.length co25)) (fun _ hk => hk.1.2) (.bool t141)) (fun _ hk => hk.2) (.int .i64 t142)) (fun _ hk => hk.2) (.int .i64 t143)) (fun _ hk => hk.1.1)⟩, ⟨by (with_reducible repeat (first | apply Kd.R_alloc | apply Kd.R_drewN | apply Kd.R_drew)); exact Kd.R_mono (Kd.R_far (p := ⟨gb145, 1, none⟩) (Kd.R_far (p := ⟨gb145, 0, none⟩) (Kd.R_far (p := ⟨gb144, 4, none⟩) (Kd.R_far (p := ⟨gb144, 3, none⟩) (Kd.R_far (p := ⟨gb144, 2, none⟩) (Kd.R_far (p := ⟨gb144, 1, none⟩) (Kd.R_far (p := ⟨gb144, 0, none⟩) (Kd.R_types (Kd.R_types HO140.out BK144.out (by decide)) BK145.out (by decide)) (fun _ hk => hk.1.2) (.slice Ao21 t131.length co21)) (fun _ hk => hk.1.2) (.slice Ao24 t134.length co24)) (fun _ hk => hk.1.2) (.string t137)) (fun _ hk => hk.1.2) (.slice Ao25 t138.length co25)) (fun _ hk => hk.1.2) (.bool t141)) (fun _ hk => hk.2) (.int .i64 t142)) (fun _ hk => hk.2) (.int .i64 t143)) (fun _ hk => trivial)⟩, ⟨by (with_reducible repeat (first | refine blk_drewN ?_ _ | refine blk_drew ?_ | refine blk_alloc ?_ _)); refine blk_far ?_ NB144_145.out _; (with_reducible repeat (first | refine blk_drewN ?_ _ | refine blk_drew ?_ | refine blk_alloc ?_ _)); refine blk_far ?_ NB144_145.out _; (with_reducible repeat (first | refine blk_drewN ?_ _ | refine blk_drew ?_ | refine blk_alloc ?_ _)); refine blk_put (cs := #[.slice Ao21 t131.length co21, .slice Ao24 t134.length co24, .string t137, .slice Ao25 t138.length co25, .bool false]) ?_ 4 _ rfl; (with_reducible repeat (first | refine blk_drewN ?_ _ | refine blk_drew ?_ | refine blk_alloc ?_ _)); refine blk_put (cs := #[.slice Ao21 t131.length co21, .slice Ao24 t134.length co24, .string t137, .slice none 0 0, .bool false]) ?_ 3 _ rfl; (with_reducible repeat (first | refine blk_drewN ?_ _ | refine blk_drew ?_ | refine blk_alloc ?_ _)); refine blk_put (cs := #[.slice Ao21 t131.length co21, .slice Ao24 t134.length co24, .string (⟨#[]⟩ : ByteArray), .slice none 0 0, .bool false]) ?_ 2 _ rfl; (with_reducible repeat (first | refine blk_drewN ?_ _ | refine blk_drew ?_ | refine blk_alloc ?_ _)); refine blk_put (cs := #[.slice Ao21 t131.length co21, .slice none 0 0, .string (⟨#[]⟩ : ByteArray), .slice none 0 0, .bool false]) ?_ 1 _ rfl; (with_reducible repeat (first | refine blk_drewN ?_ _ | refine blk_drew ?_ | refine blk_alloc ?_ _)); refine blk_put (cs := #[.slice none 0 0, .slice none 0 0, .string (⟨#[]⟩ : ByteArray), .slice none 0 0, .bool false]) ?_ 0 _ rfl; (with_reducible repeat (first | refine blk_drewN ?_ _ | refine blk_drew ?_ | refine blk_alloc ?_ _)); exact BK144.out⟩, ⟨by (with_reducible repeat (first | refine blk_drewN ?_ _ | refine blk_drew ?_ | refine blk_alloc ?_ _)); refine blk_put (cs := #[.int .i64 t142, .int .i64 0]) ?_ 1 _ rfl; (with_reducible repeat (first | refine blk_drewN ?_ _ | refine blk_drew ?_ | refine blk_alloc ?_ _)); refine blk_put (cs := #[.int .i64 0, .int .i64 0]) ?_ 0 _ rfl; (with_reducible repeat (first | refine blk_drewN ?_ _ | refine blk_drew ?_ | refine blk_alloc ?_ _)); refine blk_far ?_ NB145_144.out _; (with_reducible repeat (first | refine blk_drewN ?_ _ | refine blk_drew ?_ | refine blk_alloc ?_ _)); refine blk_far ?_ NB145_144.out _; (with_reducible repeat (first | refine blk_drewN ?_ _ | refine blk_drew ?_ | refine blk_alloc ?_ _)); refine blk_far ?_ NB145_144.out _; (with_reducible repeat (first | refine blk_drewN ?_ _ | refine blk_drew ?_ | refine blk_alloc ?_ _)); refine blk_far ?_ NB145_144.out _; (with_reducible repeat (first | refine blk_drewN ?_ _ | refine blk_drew ?_ | refine blk_alloc ?_ _)); refine blk_far ?_ NB145_144.out _; (with_reducible repeat (first | refine blk_drewN ?_ _ | refine blk_drew ?_ | refine blk_alloc ?_ _)); exact BK145.out⟩, ⟨by repeat (first | (with_reducible first | exact HB.out | apply below_alloc | apply pw_below_drewN | apply below_drew1 | refine below_set ?_ GE144.out | refine below_set ?_ GE145.out) | exact HB.out)⟩⟩
                  case rest =>
                    clear HC17
                    try clear c1
                    try clear p1
                    try clear q1
                    try clear hx1
                    try clear c2
                    try clear p2
                    try clear c4
                    try clear c4b0
                    try clear c5
                    try clear p6
                    try clear c9
                    try clear c9b0
                    try clear c10
                    try clear c10b0
                    try clear c11
                    try clear c12
                    try clear p13
                    try clear q13
                    try clear hx13
                    try clear c14
                    try clear c14b0
                    try clear c15
                    try clear c15b0
                    try clear c15b1
                    try clear c15b2
                    try clear c22
                    try clear c27
                    try clear c27b0
                    try clear c27b1
                    try clear hcz23_0
                    try clear hcz23_1
                    try clear hcz23_2
                    try clear hcz23_3
                    try clear hcz23_4
                    try clear hcz26_0
                    try clear hcz26_1
                    try clear hfz23_0
                    try clear hfz23_1
                    try clear hfz23_2
                    try clear hfz23_3
                    try clear hfz23_4
                    try clear hfz26_0
                    try clear hfz26_1
                    try clear hx130_0
                    try clear p1
                    try clear p13
                    try clear p130
                    try clear p2
                    try clear p6
                    try clear q1
                    try clear q13
                    try clear q130
                    obtain ⟨kq, x10_16, rfl, HA, HJ16, HO_145000, HO_145001, HO_145003, BK144, BK145, HB⟩ := hcut
                    cases kq with
                    | zero => exact absurd HA.out (by simp [parapetlaw20_ParseItems.j2])
                    | succ kj16 =>
                      have H := HA.out
                      clear HA
                      simp only [parapetlaw20_ParseItems.j2] at H
                      have HC28 := Aside0.mk H
                      clear H
                      go_upto_region 11 with (fail)
                      go_cut [45] (fun v45 wc => ∃ (kq : Nat) (x45_27 : Bool), v45 = .bool x45_27 ∧ Aside0 (parapetlaw20_ParseItems.j3 kq a0 (rdOf ByteArray.empty y127 (ji8)) x10_16 x45_27 t131 t134 t137 t138 t141 t142 t143 = some r) ∧ Aside0 (kq ≤ kj16) ∧ Aside0 (Kd.R Kd.string 9 wc w.heap.size (fun _ => True) (.slice Ao21 t131.length co21) t131) ∧ Aside0 (Kd.R k44 44 wc w.heap.size (fun k_ => some k_ ≠ ((.slice Ao21 t131.length co21) : Value).ownBlock) (.slice Ao24 t134.length co24) t134) ∧ Aside0 (Kd.R k51 51 wc w.heap.size (fun _ => True) (.slice Ao25 t138.length co25) t138) ∧ Aside0 (wc.heap[gb144]? = some (.cells #[(.slice Ao21 t131.length co21), (.slice Ao24 t134.length co24), .string t137, (.slice Ao25 t138.length co25), .bool t141] 27 (0, 0))) ∧ Aside0 (wc.heap[gb145]? = some (.cells #[.int .i64 t142, .int .i64 t143] 30 (0, 0))) ∧ Aside0 (Below w.heap.size w wc))
                      case first =>
                        have H := HC28.out
                        clear HC28
                        by_cases c29 : x10_16 = true
                        · subst c29
                          have H1 : (parapetlaw20_ParseItems.j3 kj16 a0 (rdOf ByteArray.empty y127 (ji8)) true (decide (a0 > 1)) t131 t134 t137 t138 t141 t142 t143) = some r := by rw [if_pos rfl] at H; exact H
                          clear H
                          have H := H1
                          clear H1
                          have H' := Aside0.mk H
                          clear H
                          go_wp2
                          go_meet
                          case rel => exact ⟨_, (decide (a0 > 1)), (by first | rfl | (simp; done) | (simp [*]; done)), H', ⟨by have := HJ2.out; have := HK2.out; have := HJ16.out; first | omega | exact Nat.le_refl _⟩, ⟨by (with_reducible repeat (first | apply Kd.R_alloc | apply Kd.R_drewN | apply Kd.R_drew)); exact HO_145000.out⟩, ⟨by (with_reducible repeat (first | apply Kd.R_alloc | apply Kd.R_drewN | apply Kd.R_drew)); exact HO_145001.out⟩, ⟨by (with_reducible repeat (first | apply Kd.R_alloc | apply Kd.R_drewN | apply Kd.R_drew)); exact HO_145003.out⟩, ⟨by (with_reducible repeat (first | refine blk_drewN ?_ _ | refine blk_drew ?_ | refine blk_alloc ?_ _)); exact BK144.out⟩, ⟨by (with_reducible repeat (first | refine blk_drewN ?_ _ | refine blk_drew ?_ | refine blk_alloc ?_ _)); exact BK145.out⟩, ⟨by repeat (first | (with_reducible first | exact HB.out | apply below_alloc | apply pw_below_drewN | apply below_drew1 | refine below_set ?_ GE144.out | refine below_set ?_ GE145.out) | exact HB.out)⟩⟩
                        · replace c29 := Bool.eq_false_iff.mpr c29
                          subst c29
                          have H1 : (parapetlaw20_ParseItems.j3 kj16 a0 (rdOf ByteArray.empty y127 (ji8)) false false t131 t134 t137 t138 t141 t142 t143) = some r := by rw [if_neg (show ¬ (false = true) by decide)] at H; exact H
                          clear H
                          have H := H1
                          clear H1
                          have H' := Aside0.mk H
                          clear H
                          go_wp2
                          go_meet
                          case rel => exact ⟨_, (false), (by first | rfl | (simp; done) | (simp [*]; done)), H', ⟨by have := HJ2.out; have := HK2.out; have := HJ16.out; first | omega | exact Nat.le_refl _⟩, ⟨by (with_reducible repeat (first | apply Kd.R_alloc | apply Kd.R_drewN | apply Kd.R_drew)); exact HO_145000.out⟩, ⟨by (with_reducible repeat (first | apply Kd.R_alloc | apply Kd.R_drewN | apply Kd.R_drew)); exact HO_145001.out⟩, ⟨by (with_reducible repeat (first | apply Kd.R_alloc | apply Kd.R_drewN | apply Kd.R_drew)); exact HO_145003.out⟩, ⟨by (with_reducible repeat (first | refine blk_drewN ?_ _ | refine blk_drew ?_ | refine blk_alloc ?_ _)); exact BK144.out⟩, ⟨by (with_reducible repeat (first | refine blk_drewN ?_ _ | refine blk_drew ?_ | refine blk_alloc ?_ _)); exact BK145.out⟩, ⟨by repeat (first | (with_reducible first | exact HB.out | apply below_alloc | apply pw_below_drewN | apply below_drew1 | refine below_set ?_ GE144.out | refine below_set ?_ GE145.out) | exact HB.out)⟩⟩
                      case rest =>
                        clear HC28
                        try clear c1
                        try clear p1
                        try clear q1
                        try clear hx1
                        try clear c2
                        try clear p2
                        try clear c4
                        try clear c4b0
                        try clear c5
                        try clear p6
                        try clear c9
                        try clear c9b0
                        try clear c10
                        try clear c10b0
                        try clear c11
                        try clear c12
                        try clear p13
                        try clear q13
                        try clear hx13
                        try clear c14
                        try clear c14b0
                        try clear c15
                        try clear c15b0
                        try clear c15b1
                        try clear c15b2
                        try clear c22
                        try clear c27
                        try clear c27b0
                        try clear c27b1
                        try clear c29
                        try clear hcz23_0
                        try clear hcz23_1
                        try clear hcz23_2
                        try clear hcz23_3
                        try clear hcz23_4
                        try clear hcz26_0
                        try clear hcz26_1
                        try clear hfz23_0
                        try clear hfz23_1
                        try clear hfz23_2
                        try clear hfz23_3
                        try clear hfz23_4
                        try clear hfz26_0
                        try clear hfz26_1
                        try clear hx130_0
                        try clear p1
                        try clear p13
                        try clear p130
                        try clear p2
                        try clear p6
                        try clear q1
                        try clear q13
                        try clear q130
                        obtain ⟨kq, x45_27, rfl, HA, HJ27, HO_145000, HO_145001, HO_145003, BK144, BK145, HB⟩ := hcut
                        cases kq with
                        | zero => exact absurd HA.out (by simp [parapetlaw20_ParseItems.j3])
                        | succ kj27 =>
                          have H := HA.out
                          clear HA
                          simp only [parapetlaw20_ParseItems.j3] at H
                          by_cases c30 : x45_27 = true
                          · subst c30
                            have H1 : (if (t142 == 10 && (t143 == ((rdOf ByteArray.empty y127 (ji8)).size : Int))) = true then ((parapetlaw20_awake.f kj27).bind fun t146 => (some t146)) else (some false)) = some r := by rw [if_pos rfl] at H; exact H
                            clear H
                            have H := H1
                            clear H1
                            by_cases c31 : (t142 == 10 && (t143 == ((rdOf ByteArray.empty y127 (ji8)).size : Int))) = true
                            · rw [if_pos c31] at H
                              have c31b0 : (t142 == 10 && (t143 == ((rdOf ByteArray.empty y127 (ji8)).size : Int))) = true := c31
                              (try (have c31b1 : decide (t142 = 10 && (t143 == ((rdOf ByteArray.empty y127 (ji8)).size : Int))) = true := by simpa using c31))
                              (try (have c31b2 : (t142 == 10 && (t143 == ((rdOf ByteArray.empty y127 (ji8)).size : Int))) = true := by simpa using c31))
                              clear c31
                              replace H := Option.bind_eq_some_iff.mp H
                              obtain ⟨t146, A320, H⟩ := H
                              replace H : (some t146) = some r := H
                              have A32 := Aside0.mk A320
                              clear A320
                              obtain rfl := Option.some.inj H
                              have hnb33 := NB145_144.out
                              have hnc33 := NB144_145.out
                              have hcz34_0 : wc.cell? ⟨gb145, 0, none⟩ = some (.int .i64 t142) := (blk_cell BK145.out 0).trans rfl
                              have hcz34_1 : wc.cell? ⟨gb145, 1, none⟩ = some (.int .i64 t143) := (blk_cell BK145.out 1).trans rfl
                              have hfz34_0 := blk_frozen BK145.out 0
                              have hfz34_1 := blk_frozen BK145.out 1
                              go_wp2_with (first | (go_at_call 11; (with_reducible refine (parapetlaw20_awake.calls kj27  t146 _ ?side1 A32.out).mono ?_); (case side1 => (first | (with_reducible exact HLD.out) | exact Laid.below HLD.out (by repeat (first | (with_reducible first | exact HB.out | apply below_alloc | apply pw_below_drewN | apply below_drew1 | refine below_set ?_ GE144.out | refine below_set ?_ GE145.out) | exact HB.out)))); rintro e w35 ⟨rfl, hb⟩; have n0_ := Aside0.mk (Kd.R_below (by (with_reducible repeat (first | apply Kd.R_alloc | apply Kd.R_drewN | apply Kd.R_drew)); exact HO_145000.out) hb); have n1_ := Aside0.mk (Kd.R_below (by (with_reducible repeat (first | apply Kd.R_alloc | apply Kd.R_drewN | apply Kd.R_drew)); exact HO_145001.out) hb); have n2_ := Aside0.mk (Kd.R_below (by (with_reducible repeat (first | apply Kd.R_alloc | apply Kd.R_drewN | apply Kd.R_drew)); exact HO_145003.out) hb); have n3_ := Aside0.mk (blk_below (g := gb144) (o := .cells #[.slice Ao21 t131.length co21, .slice Ao24 t134.length co24, .string t137, .slice Ao25 t138.length co25, .bool t141] 27 (0, 0)) (by (with_reducible repeat (first | refine blk_drewN ?_ _ | refine blk_drew ?_ | refine blk_alloc ?_ _)); exact BK144.out) hb); have n4_ := Aside0.mk (blk_below (g := gb145) (o := .cells #[.int .i64 t142, .int .i64 t143] 30 (0, 0)) (by (with_reducible repeat (first | refine blk_drewN ?_ _ | refine blk_drew ?_ | refine blk_alloc ?_ _)); exact BK145.out) hb); have n5_ := Aside0.mk (below_step (by repeat (first | (with_reducible first | exact HB.out | apply below_alloc | apply pw_below_drewN | apply below_drew1 | refine below_set ?_ GE144.out | refine below_set ?_ GE145.out) | exact HB.out)) hb); clear HO_145000; clear HO_145001; clear HO_145003; clear BK144; clear BK145; clear HB; have HO_145000 := n0_; have HO_145001 := n1_; have HO_145003 := n2_; have BK144 := n3_; have BK145 := n4_; have HB := n5_; clear n0_ n1_ n2_ n3_ n4_ n5_; (try clear hb); (try clear hb2); (try clear hk); (try clear hi)))
                              go_ret
                              exact ⟨by first | rfl | (simp [errW_none, errW_some] <;> rfl) | (simp only [← hji8]; first | rfl | (simp [errW_none, errW_some] <;> rfl)) | (simp [*, errW_none, errW_some] <;> rfl), by repeat (first | (with_reducible first | exact HB.out | apply below_alloc | apply pw_below_drewN | apply below_drew1 | refine below_set ?_ GE144.out | refine below_set ?_ GE145.out) | exact HB.out)⟩
                            · rw [if_neg c31] at H
                              have c31b0 : (t142 == 10 && (t143 == ((rdOf ByteArray.empty y127 (ji8)).size : Int))) = false := by simpa using c31
                              (try (have c31b1 : decide (t142 = 10 && (t143 == ((rdOf ByteArray.empty y127 (ji8)).size : Int))) = false := by simpa using c31))
                              (try (have c31b2 : (t142 == 10 && (t143 == ((rdOf ByteArray.empty y127 (ji8)).size : Int))) = false := by simpa using c31))
                              (try (have c31b3 : ¬ (t142 = 10 && (t143 == ((rdOf ByteArray.empty y127 (ji8)).size : Int))) := by simpa using c31))
                              clear c31
                              obtain rfl := Option.some.inj H
                              have hnb36 := NB145_144.out
                              have hnc36 := NB144_145.out
                              have hcz37_0 : wc.cell? ⟨gb145, 0, none⟩ = some (.int .i64 t142) := (blk_cell BK145.out 0).trans rfl
                              have hcz37_1 : wc.cell? ⟨gb145, 1, none⟩ = some (.int .i64 t143) := (blk_cell BK145.out 1).trans rfl
                              have hfz37_0 := blk_frozen BK145.out 0
                              have hfz37_1 := blk_frozen BK145.out 1
                              go_wp2
                              go_ret
                              exact ⟨by first | rfl | (simp [errW_none, errW_some] <;> rfl) | (simp only [← hji8]; first | rfl | (simp [errW_none, errW_some] <;> rfl)) | (simp [*, errW_none, errW_some] <;> rfl), by repeat (first | (with_reducible first | exact HB.out | apply below_alloc | apply pw_below_drewN | apply below_drew1 | refine below_set ?_ GE144.out | refine below_set ?_ GE145.out) | exact HB.out)⟩
                          · replace c30 := Bool.eq_false_iff.mpr c30
                            subst c30
                            have H1 : (if a0 > 60 then (if (t142 == 2 && (t143 == (wrap64 (60 * ((rdOf ByteArray.empty y127 (ji8)).size : Int))))) = true then ((parapetlaw20_awake.f kj27).bind fun t147 => (some t147)) else (some false)) else (if x10_16 = true then (if t142 = 0 then (if (wrap64 ((t138.length : Int) + (t131.length : Int))) = 0 then (if (rdOf ByteArray.empty y127 (ji8)).toList = ([100, 101, 102, 97, 117, 108, 116, 32, 97, 108, 108, 111, 119, 59] : List UInt8) then (if (t141 == (a0 == 1)) = true then (if (rdOf ByteArray.empty y127 (ji8)).toList = ([109, 105, 120, 101, 100, 32, 97, 108, 108, 111, 119, 59] : List UInt8) then (if ((t137.toList == ([97, 108, 108, 111, 119] : List UInt8)) == (a0 == 1)) = true then ((parapetlaw20_awake.f kj27).bind fun t148 => (some t148)) else (some false)) else (if ((t137.toList == ([97, 108, 108, 111, 119] : List UInt8)) == false) = true then ((parapetlaw20_awake.f kj27).bind fun t149 => (some t149)) else (some false))) else (some false)) else (if (t141 == false) = true then (if (rdOf ByteArray.empty y127 (ji8)).toList = ([109, 105, 120, 101, 100, 32, 97, 108, 108, 111, 119, 59] : List UInt8) then (if ((t137.toList == ([97, 108, 108, 111, 119] : List UInt8)) == (a0 == 1)) = true then ((parapetlaw20_awake.f kj27).bind fun t150 => (some t150)) else (some false)) else (if ((t137.toList == ([97, 108, 108, 111, 119] : List UInt8)) == false) = true then ((parapetlaw20_awake.f kj27).bind fun t151 => (some t151)) else (some false))) else (some false))) else (some false)) else (some false)) else (if t142 = 0 then (if (wrap64 ((t138.length : Int) + (t131.length : Int))) = a0 then (if (rdOf ByteArray.empty y127 (ji8)).toList = ([100, 101, 102, 97, 117, 108, 116, 32, 97, 108, 108, 111, 119, 59] : List UInt8) then (if (t141 == (a0 == 1)) = true then (if (rdOf ByteArray.empty y127 (ji8)).toList = ([109, 105, 120, 101, 100, 32, 97, 108, 108, 111, 119, 59] : List UInt8) then (if ((t137.toList == ([97, 108, 108, 111, 119] : List UInt8)) == (a0 == 1)) = true then ((parapetlaw20_awake.f kj27).bind fun t152 => (some t152)) else (some false)) else (if ((t137.toList == ([97, 108, 108, 111, 119] : List UInt8)) == false) = true then ((parapetlaw20_awake.f kj27).bind fun t153 => (some t153)) else (some false))) else (some false)) else (if (t141 == false) = true then (if (rdOf ByteArray.empty y127 (ji8)).toList = ([109, 105, 120, 101, 100, 32, 97, 108, 108, 111, 119, 59] : List UInt8) then (if ((t137.toList == ([97, 108, 108, 111, 119] : List UInt8)) == (a0 == 1)) = true then ((parapetlaw20_awake.f kj27).bind fun t154 => (some t154)) else (some false)) else (if ((t137.toList == ([97, 108, 108, 111, 119] : List UInt8)) == false) = true then ((parapetlaw20_awake.f kj27).bind fun t155 => (some t155)) else (some false))) else (some false))) else (some false)) else (some false)))) = some r := by rw [if_neg (show ¬ (false = true) by decide)] at H; exact H
                            clear H
                            have H := H1
                            clear H1
                            by_cases c38 : a0 > 60
                            · rw [if_pos c38] at H
                              have c38b0 : decide (60 < a0) = true := decide_eq_true c38
                              clear c38
                              by_cases c39 : (t142 == 2 && (t143 == (wrap64 (60 * ((rdOf ByteArray.empty y127 (ji8)).size : Int))))) = true
                              · rw [if_pos c39] at H
                                have c39b0 : (t142 == 2 && (t143 == (wrap64 (60 * ((rdOf ByteArray.empty y127 (ji8)).size : Int))))) = true := c39
                                (try (have c39b1 : decide (t142 = 2 && (t143 == (wrap64 (60 * ((rdOf ByteArray.empty y127 (ji8)).size : Int))))) = true := by simpa using c39))
                                (try (have c39b2 : (t142 == 2 && (t143 == (wrap64 (60 * ((rdOf ByteArray.empty y127 (ji8)).size : Int))))) = true := by simpa using c39))
                                clear c39
                                replace H := Option.bind_eq_some_iff.mp H
                                obtain ⟨t147, A400, H⟩ := H
                                replace H : (some t147) = some r := H
                                have A40 := Aside0.mk A400
                                clear A400
                                obtain rfl := Option.some.inj H
                                have hnb41 := NB145_144.out
                                have hnc41 := NB144_145.out
                                have hcz42_0 : wc.cell? ⟨gb145, 0, none⟩ = some (.int .i64 t142) := (blk_cell BK145.out 0).trans rfl
                                have hcz42_1 : wc.cell? ⟨gb145, 1, none⟩ = some (.int .i64 t143) := (blk_cell BK145.out 1).trans rfl
                                have hfz42_0 := blk_frozen BK145.out 0
                                have hfz42_1 := blk_frozen BK145.out 1
                                go_wp2_with (first | (go_at_call 11; (with_reducible refine (parapetlaw20_awake.calls kj27  t147 _ ?side1 A40.out).mono ?_); (case side1 => (first | (with_reducible exact HLD.out) | exact Laid.below HLD.out (by repeat (first | (with_reducible first | exact HB.out | apply below_alloc | apply pw_below_drewN | apply below_drew1 | refine below_set ?_ GE144.out | refine below_set ?_ GE145.out) | exact HB.out)))); rintro e w43 ⟨rfl, hb⟩; have n0_ := Aside0.mk (Kd.R_below (by (with_reducible repeat (first | apply Kd.R_alloc | apply Kd.R_drewN | apply Kd.R_drew)); exact HO_145000.out) hb); have n1_ := Aside0.mk (Kd.R_below (by (with_reducible repeat (first | apply Kd.R_alloc | apply Kd.R_drewN | apply Kd.R_drew)); exact HO_145001.out) hb); have n2_ := Aside0.mk (Kd.R_below (by (with_reducible repeat (first | apply Kd.R_alloc | apply Kd.R_drewN | apply Kd.R_drew)); exact HO_145003.out) hb); have n3_ := Aside0.mk (blk_below (g := gb144) (o := .cells #[.slice Ao21 t131.length co21, .slice Ao24 t134.length co24, .string t137, .slice Ao25 t138.length co25, .bool t141] 27 (0, 0)) (by (with_reducible repeat (first | refine blk_drewN ?_ _ | refine blk_drew ?_ | refine blk_alloc ?_ _)); exact BK144.out) hb); have n4_ := Aside0.mk (blk_below (g := gb145) (o := .cells #[.int .i64 t142, .int .i64 t143] 30 (0, 0)) (by (with_reducible repeat (first | refine blk_drewN ?_ _ | refine blk_drew ?_ | refine blk_alloc ?_ _)); exact BK145.out) hb); have n5_ := Aside0.mk (below_step (by repeat (first | (with_reducible first | exact HB.out | apply below_alloc | apply pw_below_drewN | apply below_drew1 | refine below_set ?_ GE144.out | refine below_set ?_ GE145.out) | exact HB.out)) hb); clear HO_145000; clear HO_145001; clear HO_145003; clear BK144; clear BK145; clear HB; have HO_145000 := n0_; have HO_145001 := n1_; have HO_145003 := n2_; have BK144 := n3_; have BK145 := n4_; have HB := n5_; clear n0_ n1_ n2_ n3_ n4_ n5_; (try clear hb); (try clear hb2); (try clear hk); (try clear hi)))
                                go_ret
                                exact ⟨by first | rfl | (simp [errW_none, errW_some] <;> rfl) | (simp only [← hji8]; first | rfl | (simp [errW_none, errW_some] <;> rfl)) | (simp [*, errW_none, errW_some] <;> rfl), by repeat (first | (with_reducible first | exact HB.out | apply below_alloc | apply pw_below_drewN | apply below_drew1 | refine below_set ?_ GE144.out | refine below_set ?_ GE145.out) | exact HB.out)⟩
                              · rw [if_neg c39] at H
                                have c39b0 : (t142 == 2 && (t143 == (wrap64 (60 * ((rdOf ByteArray.empty y127 (ji8)).size : Int))))) = false := by simpa using c39
                                (try (have c39b1 : decide (t142 = 2 && (t143 == (wrap64 (60 * ((rdOf ByteArray.empty y127 (ji8)).size : Int))))) = false := by simpa using c39))
                                (try (have c39b2 : (t142 == 2 && (t143 == (wrap64 (60 * ((rdOf ByteArray.empty y127 (ji8)).size : Int))))) = false := by simpa using c39))
                                (try (have c39b3 : ¬ (t142 = 2 && (t143 == (wrap64 (60 * ((rdOf ByteArray.empty y127 (ji8)).size : Int))))) := by simpa using c39))
                                clear c39
                                obtain rfl := Option.some.inj H
                                have hnb44 := NB145_144.out
                                have hnc44 := NB144_145.out
                                have hcz45_0 : wc.cell? ⟨gb145, 0, none⟩ = some (.int .i64 t142) := (blk_cell BK145.out 0).trans rfl
                                have hcz45_1 : wc.cell? ⟨gb145, 1, none⟩ = some (.int .i64 t143) := (blk_cell BK145.out 1).trans rfl
                                have hfz45_0 := blk_frozen BK145.out 0
                                have hfz45_1 := blk_frozen BK145.out 1
                                go_wp2
                                go_ret
                                exact ⟨by first | rfl | (simp [errW_none, errW_some] <;> rfl) | (simp only [← hji8]; first | rfl | (simp [errW_none, errW_some] <;> rfl)) | (simp [*, errW_none, errW_some] <;> rfl), by repeat (first | (with_reducible first | exact HB.out | apply below_alloc | apply pw_below_drewN | apply below_drew1 | refine below_set ?_ GE144.out | refine below_set ?_ GE145.out) | exact HB.out)⟩
                            · rw [if_neg c38] at H
                              have c38b0 : decide (60 < a0) = false := decide_eq_false c38
                              clear c38
                              by_cases c46 : x10_16 = true
                              · subst c46
                                have H1 : (if t142 = 0 then (if (wrap64 ((t138.length : Int) + (t131.length : Int))) = 0 then (if (rdOf ByteArray.empty y127 (ji8)).toList = ([100, 101, 102, 97, 117, 108, 116, 32, 97, 108, 108, 111, 119, 59] : List UInt8) then (if (t141 == (a0 == 1)) = true then (if (rdOf ByteArray.empty y127 (ji8)).toList = ([109, 105, 120, 101, 100, 32, 97, 108, 108, 111, 119, 59] : List UInt8) then (if ((t137.toList == ([97, 108, 108, 111, 119] : List UInt8)) == (a0 == 1)) = true then ((parapetlaw20_awake.f kj27).bind fun t148 => (some t148)) else (some false)) else (if ((t137.toList == ([97, 108, 108, 111, 119] : List UInt8)) == false) = true then ((parapetlaw20_awake.f kj27).bind fun t149 => (some t149)) else (some false))) else (some false)) else (if (t141 == false) = true then (if (rdOf ByteArray.empty y127 (ji8)).toList = ([109, 105, 120, 101, 100, 32, 97, 108, 108, 111, 119, 59] : List UInt8) then (if ((t137.toList == ([97, 108, 108, 111, 119] : List UInt8)) == (a0 == 1)) = true then ((parapetlaw20_awake.f kj27).bind fun t150 => (some t150)) else (some false)) else (if ((t137.toList == ([97, 108, 108, 111, 119] : List UInt8)) == false) = true then ((parapetlaw20_awake.f kj27).bind fun t151 => (some t151)) else (some false))) else (some false))) else (some false)) else (some false)) = some r := by rw [if_pos rfl] at H; exact H
                                clear H
                                have H := H1
                                clear H1
                                by_cases c47 : t142 = 0
                                · rw [if_pos c47] at H
                                  have c47b0 : (t142 == 0) = true := beq_iff_eq.mpr c47
                                  have c47b1 : (t142 != 0) = false := bne_eq_false_iff_eq.mpr c47
                                  clear c47
                                  by_cases c48 : (wrap64 ((t138.length : Int) + (t131.length : Int))) = 0
                                  · rw [if_pos c48] at H
                                    have c48b0 : ((wrap64 ((t138.length : Int) + (t131.length : Int))) == 0) = true := beq_iff_eq.mpr c48
                                    have c48b1 : ((wrap64 ((t138.length : Int) + (t131.length : Int))) != 0) = false := bne_eq_false_iff_eq.mpr c48
                                    clear c48
                                    by_cases c49 : (rdOf ByteArray.empty y127 (ji8)).toList = ([100, 101, 102, 97, 117, 108, 116, 32, 97, 108, 108, 111, 119, 59] : List UInt8)
                                    · rw [if_pos c49] at H
                                      have c49b0 : ((rdOf ByteArray.empty y127 (ji8)).toList == ([100, 101, 102, 97, 117, 108, 116, 32, 97, 108, 108, 111, 119, 59] : List UInt8)) = true := beq_iff_eq.mpr c49
                                      have c49b1 : ((rdOf ByteArray.empty y127 (ji8)).toList != ([100, 101, 102, 97, 117, 108, 116, 32, 97, 108, 108, 111, 119, 59] : List UInt8)) = false := bne_eq_false_iff_eq.mpr c49
                                      clear c49
                                      by_cases c50 : (t141 == (a0 == 1)) = true
                                      · rw [if_pos c50] at H
                                        have c50b0 : (t141 == (a0 == 1)) = true := c50
                                        (try (have c50b1 : decide (t141 = (a0 == 1)) = true := by simpa using c50))
                                        (try (have c50b2 : (t141 == (a0 == 1)) = true := by simpa using c50))
                                        clear c50
                                        by_cases c51 : (rdOf ByteArray.empty y127 (ji8)).toList = ([109, 105, 120, 101, 100, 32, 97, 108, 108, 111, 119, 59] : List UInt8)
                                        · rw [if_pos c51] at H
                                          have c51b0 : ((rdOf ByteArray.empty y127 (ji8)).toList == ([109, 105, 120, 101, 100, 32, 97, 108, 108, 111, 119, 59] : List UInt8)) = true := beq_iff_eq.mpr c51
                                          have c51b1 : ((rdOf ByteArray.empty y127 (ji8)).toList != ([109, 105, 120, 101, 100, 32, 97, 108, 108, 111, 119, 59] : List UInt8)) = false := bne_eq_false_iff_eq.mpr c51
                                          clear c51
                                          by_cases c52 : ((t137.toList == ([97, 108, 108, 111, 119] : List UInt8)) == (a0 == 1)) = true
                                          · rw [if_pos c52] at H
                                            have c52b0 : ((t137.toList == ([97, 108, 108, 111, 119] : List UInt8)) == (a0 == 1)) = true := c52
                                            (try (have c52b1 : decide ((t137.toList == ([97, 108, 108, 111, 119] : List UInt8)) = (a0 == 1)) = true := by simpa using c52))
                                            (try (have c52b2 : ((t137.toList == ([97, 108, 108, 111, 119] : List UInt8)) == (a0 == 1)) = true := by simpa using c52))
                                            clear c52
                                            replace H := Option.bind_eq_some_iff.mp H
                                            obtain ⟨t148, A530, H⟩ := H
                                            replace H : (some t148) = some r := H
                                            have A53 := Aside0.mk A530
                                            clear A530
                                            obtain rfl := Option.some.inj H
                                            have hnb54 := NB145_144.out
                                            have hnc54 := NB144_145.out
                                            have hcz55_0 : wc.cell? ⟨gb145, 0, none⟩ = some (.int .i64 t142) := (blk_cell BK145.out 0).trans rfl
                                            have hcz55_1 : wc.cell? ⟨gb145, 1, none⟩ = some (.int .i64 t143) := (blk_cell BK145.out 1).trans rfl
                                            have hfz55_0 := blk_frozen BK145.out 0
                                            have hfz55_1 := blk_frozen BK145.out 1
                                            have hcz56_0 : wc.cell? ⟨gb144, 0, none⟩ = some (.slice Ao21 t131.length co21) := (blk_cell BK144.out 0).trans rfl
                                            have hcz56_1 : wc.cell? ⟨gb144, 1, none⟩ = some (.slice Ao24 t134.length co24) := (blk_cell BK144.out 1).trans rfl
                                            have hcz56_2 : wc.cell? ⟨gb144, 2, none⟩ = some (.string t137) := (blk_cell BK144.out 2).trans rfl
                                            have hcz56_3 : wc.cell? ⟨gb144, 3, none⟩ = some (.slice Ao25 t138.length co25) := (blk_cell BK144.out 3).trans rfl
                                            have hcz56_4 : wc.cell? ⟨gb144, 4, none⟩ = some (.bool t141) := (blk_cell BK144.out 4).trans rfl
                                            have hfz56_0 := blk_frozen BK144.out 0
                                            have hfz56_1 := blk_frozen BK144.out 1
                                            have hfz56_2 := blk_frozen BK144.out 2
                                            have hfz56_3 := blk_frozen BK144.out 3
                                            have hfz56_4 := blk_frozen BK144.out 4
                                            go_wp2_with (first | (go_at_call 11; (with_reducible refine (parapetlaw20_awake.calls kj27  t148 _ ?side1 A53.out).mono ?_); (case side1 => (first | (with_reducible exact HLD.out) | exact Laid.below HLD.out (by repeat (first | (with_reducible first | exact HB.out | apply below_alloc | apply pw_below_drewN | apply below_drew1 | refine below_set ?_ GE144.out | refine below_set ?_ GE145.out) | exact HB.out)))); rintro e w57 ⟨rfl, hb⟩; have n0_ := Aside0.mk (Kd.R_below (by (with_reducible repeat (first | apply Kd.R_alloc | apply Kd.R_drewN | apply Kd.R_drew)); exact HO_145000.out) hb); have n1_ := Aside0.mk (Kd.R_below (by (with_reducible repeat (first | apply Kd.R_alloc | apply Kd.R_drewN | apply Kd.R_drew)); exact HO_145001.out) hb); have n2_ := Aside0.mk (Kd.R_below (by (with_reducible repeat (first | apply Kd.R_alloc | apply Kd.R_drewN | apply Kd.R_drew)); exact HO_145003.out) hb); have n3_ := Aside0.mk (blk_below (g := gb144) (o := .cells #[.slice Ao21 t131.length co21, .slice Ao24 t134.length co24, .string t137, .slice Ao25 t138.length co25, .bool t141] 27 (0, 0)) (by (with_reducible repeat (first | refine blk_drewN ?_ _ | refine blk_drew ?_ | refine blk_alloc ?_ _)); exact BK144.out) hb); have n4_ := Aside0.mk (blk_below (g := gb145) (o := .cells #[.int .i64 t142, .int .i64 t143] 30 (0, 0)) (by (with_reducible repeat (first | refine blk_drewN ?_ _ | refine blk_drew ?_ | refine blk_alloc ?_ _)); exact BK145.out) hb); have n5_ := Aside0.mk (below_step (by repeat (first | (with_reducible first | exact HB.out | apply below_alloc | apply pw_below_drewN | apply below_drew1 | refine below_set ?_ GE144.out | refine below_set ?_ GE145.out) | exact HB.out)) hb); clear HO_145000; clear HO_145001; clear HO_145003; clear BK144; clear BK145; clear HB; have HO_145000 := n0_; have HO_145001 := n1_; have HO_145003 := n2_; have BK144 := n3_; have BK145 := n4_; have HB := n5_; clear n0_ n1_ n2_ n3_ n4_ n5_; (try clear hb); (try clear hb2); (try clear hk); (try clear hi)))
                                            go_ret
                                            exact ⟨by first | rfl | (simp [errW_none, errW_some] <;> rfl) | (simp only [← hji8]; first | rfl | (simp [errW_none, errW_some] <;> rfl)) | (simp [*, errW_none, errW_some] <;> rfl), by repeat (first | (with_reducible first | exact HB.out | apply below_alloc | apply pw_below_drewN | apply below_drew1 | refine below_set ?_ GE144.out | refine below_set ?_ GE145.out) | exact HB.out)⟩
                                          · rw [if_neg c52] at H
                                            have c52b0 : ((t137.toList == ([97, 108, 108, 111, 119] : List UInt8)) == (a0 == 1)) = false := by simpa using c52
                                            (try (have c52b1 : decide ((t137.toList == ([97, 108, 108, 111, 119] : List UInt8)) = (a0 == 1)) = false := by simpa using c52))
                                            (try (have c52b2 : ((t137.toList == ([97, 108, 108, 111, 119] : List UInt8)) == (a0 == 1)) = false := by simpa using c52))
                                            (try (have c52b3 : ¬ ((t137.toList == ([97, 108, 108, 111, 119] : List UInt8)) = (a0 == 1)) := by simpa using c52))
                                            clear c52
                                            obtain rfl := Option.some.inj H
                                            have hnb58 := NB145_144.out
                                            have hnc58 := NB144_145.out
                                            have hcz59_0 : wc.cell? ⟨gb145, 0, none⟩ = some (.int .i64 t142) := (blk_cell BK145.out 0).trans rfl
                                            have hcz59_1 : wc.cell? ⟨gb145, 1, none⟩ = some (.int .i64 t143) := (blk_cell BK145.out 1).trans rfl
                                            have hfz59_0 := blk_frozen BK145.out 0
                                            have hfz59_1 := blk_frozen BK145.out 1
                                            have hcz60_0 : wc.cell? ⟨gb144, 0, none⟩ = some (.slice Ao21 t131.length co21) := (blk_cell BK144.out 0).trans rfl
                                            have hcz60_1 : wc.cell? ⟨gb144, 1, none⟩ = some (.slice Ao24 t134.length co24) := (blk_cell BK144.out 1).trans rfl
                                            have hcz60_2 : wc.cell? ⟨gb144, 2, none⟩ = some (.string t137) := (blk_cell BK144.out 2).trans rfl
                                            have hcz60_3 : wc.cell? ⟨gb144, 3, none⟩ = some (.slice Ao25 t138.length co25) := (blk_cell BK144.out 3).trans rfl
                                            have hcz60_4 : wc.cell? ⟨gb144, 4, none⟩ = some (.bool t141) := (blk_cell BK144.out 4).trans rfl
                                            have hfz60_0 := blk_frozen BK144.out 0
                                            have hfz60_1 := blk_frozen BK144.out 1
                                            have hfz60_2 := blk_frozen BK144.out 2
                                            have hfz60_3 := blk_frozen BK144.out 3
                                            have hfz60_4 := blk_frozen BK144.out 4
                                            go_wp2
                                            go_ret
                                            exact ⟨by first | rfl | (simp [errW_none, errW_some] <;> rfl) | (simp only [← hji8]; first | rfl | (simp [errW_none, errW_some] <;> rfl)) | (simp [*, errW_none, errW_some] <;> rfl), by repeat (first | (with_reducible first | exact HB.out | apply below_alloc | apply pw_below_drewN | apply below_drew1 | refine below_set ?_ GE144.out | refine below_set ?_ GE145.out) | exact HB.out)⟩
                                        · rw [if_neg c51] at H
                                          have c51b0 : ((rdOf ByteArray.empty y127 (ji8)).toList == ([109, 105, 120, 101, 100, 32, 97, 108, 108, 111, 119, 59] : List UInt8)) = false := beq_eq_false_iff_ne.mpr c51
                                          have c51b1 : ((rdOf ByteArray.empty y127 (ji8)).toList != ([109, 105, 120, 101, 100, 32, 97, 108, 108, 111, 119, 59] : List UInt8)) = true := bne_iff_ne.mpr c51
                                          by_cases c61 : ((t137.toList == ([97, 108, 108, 111, 119] : List UInt8)) == false) = true
                                          · rw [if_pos c61] at H
                                            have c61b0 : ((t137.toList == ([97, 108, 108, 111, 119] : List UInt8)) == false) = true := c61
                                            (try (have c61b1 : decide ((t137.toList == ([97, 108, 108, 111, 119] : List UInt8)) = false) = true := by simpa using c61))
                                            (try (have c61b2 : ((t137.toList == ([97, 108, 108, 111, 119] : List UInt8)) == false) = true := by simpa using c61))
                                            clear c61
                                            replace H := Option.bind_eq_some_iff.mp H
                                            obtain ⟨t149, A620, H⟩ := H
                                            replace H : (some t149) = some r := H
                                            have A62 := Aside0.mk A620
                                            clear A620
                                            obtain rfl := Option.some.inj H
                                            have hnb63 := NB145_144.out
                                            have hnc63 := NB144_145.out
                                            have hcz64_0 : wc.cell? ⟨gb145, 0, none⟩ = some (.int .i64 t142) := (blk_cell BK145.out 0).trans rfl
                                            have hcz64_1 : wc.cell? ⟨gb145, 1, none⟩ = some (.int .i64 t143) := (blk_cell BK145.out 1).trans rfl
                                            have hfz64_0 := blk_frozen BK145.out 0
                                            have hfz64_1 := blk_frozen BK145.out 1
                                            have hcz65_0 : wc.cell? ⟨gb144, 0, none⟩ = some (.slice Ao21 t131.length co21) := (blk_cell BK144.out 0).trans rfl
                                            have hcz65_1 : wc.cell? ⟨gb144, 1, none⟩ = some (.slice Ao24 t134.length co24) := (blk_cell BK144.out 1).trans rfl
                                            have hcz65_2 : wc.cell? ⟨gb144, 2, none⟩ = some (.string t137) := (blk_cell BK144.out 2).trans rfl
                                            have hcz65_3 : wc.cell? ⟨gb144, 3, none⟩ = some (.slice Ao25 t138.length co25) := (blk_cell BK144.out 3).trans rfl
                                            have hcz65_4 : wc.cell? ⟨gb144, 4, none⟩ = some (.bool t141) := (blk_cell BK144.out 4).trans rfl
                                            have hfz65_0 := blk_frozen BK144.out 0
                                            have hfz65_1 := blk_frozen BK144.out 1
                                            have hfz65_2 := blk_frozen BK144.out 2
                                            have hfz65_3 := blk_frozen BK144.out 3
                                            have hfz65_4 := blk_frozen BK144.out 4
                                            go_wp2_with (first | (go_at_call 11; (with_reducible refine (parapetlaw20_awake.calls kj27  t149 _ ?side1 A62.out).mono ?_); (case side1 => (first | (with_reducible exact HLD.out) | exact Laid.below HLD.out (by repeat (first | (with_reducible first | exact HB.out | apply below_alloc | apply pw_below_drewN | apply below_drew1 | refine below_set ?_ GE144.out | refine below_set ?_ GE145.out) | exact HB.out)))); rintro e w66 ⟨rfl, hb⟩; have n0_ := Aside0.mk (Kd.R_below (by (with_reducible repeat (first | apply Kd.R_alloc | apply Kd.R_drewN | apply Kd.R_drew)); exact HO_145000.out) hb); have n1_ := Aside0.mk (Kd.R_below (by (with_reducible repeat (first | apply Kd.R_alloc | apply Kd.R_drewN | apply Kd.R_drew)); exact HO_145001.out) hb); have n2_ := Aside0.mk (Kd.R_below (by (with_reducible repeat (first | apply Kd.R_alloc | apply Kd.R_drewN | apply Kd.R_drew)); exact HO_145003.out) hb); have n3_ := Aside0.mk (blk_below (g := gb144) (o := .cells #[.slice Ao21 t131.length co21, .slice Ao24 t134.length co24, .string t137, .slice Ao25 t138.length co25, .bool t141] 27 (0, 0)) (by (with_reducible repeat (first | refine blk_drewN ?_ _ | refine blk_drew ?_ | refine blk_alloc ?_ _)); exact BK144.out) hb); have n4_ := Aside0.mk (blk_below (g := gb145) (o := .cells #[.int .i64 t142, .int .i64 t143] 30 (0, 0)) (by (with_reducible repeat (first | refine blk_drewN ?_ _ | refine blk_drew ?_ | refine blk_alloc ?_ _)); exact BK145.out) hb); have n5_ := Aside0.mk (below_step (by repeat (first | (with_reducible first | exact HB.out | apply below_alloc | apply pw_below_drewN | apply below_drew1 | refine below_set ?_ GE144.out | refine below_set ?_ GE145.out) | exact HB.out)) hb); clear HO_145000; clear HO_145001; clear HO_145003; clear BK144; clear BK145; clear HB; have HO_145000 := n0_; have HO_145001 := n1_; have HO_145003 := n2_; have BK144 := n3_; have BK145 := n4_; have HB := n5_; clear n0_ n1_ n2_ n3_ n4_ n5_; (try clear hb); (try clear hb2); (try clear hk); (try clear hi)))
                                            go_ret
                                            exact ⟨by first | rfl | (simp [errW_none, errW_some] <;> rfl) | (simp only [← hji8]; first | rfl | (simp [errW_none, errW_some] <;> rfl)) | (simp [*, errW_none, errW_some] <;> rfl), by repeat (first | (with_reducible first | exact HB.out | apply below_alloc | apply pw_below_drewN | apply below_drew1 | refine below_set ?_ GE144.out | refine below_set ?_ GE145.out) | exact HB.out)⟩
                                          · rw [if_neg c61] at H
                                            have c61b0 : ((t137.toList == ([97, 108, 108, 111, 119] : List UInt8)) == false) = false := by simpa using c61
                                            (try (have c61b1 : decide ((t137.toList == ([97, 108, 108, 111, 119] : List UInt8)) = false) = false := by simpa using c61))
                                            (try (have c61b2 : ((t137.toList == ([97, 108, 108, 111, 119] : List UInt8)) == false) = false := by simpa using c61))
                                            (try (have c61b3 : ¬ ((t137.toList == ([97, 108, 108, 111, 119] : List UInt8)) = false) := by simpa using c61))
                                            clear c61
                                            obtain rfl := Option.some.inj H
                                            have hnb67 := NB145_144.out
                                            have hnc67 := NB144_145.out
                                            have hcz68_0 : wc.cell? ⟨gb145, 0, none⟩ = some (.int .i64 t142) := (blk_cell BK145.out 0).trans rfl
                                            have hcz68_1 : wc.cell? ⟨gb145, 1, none⟩ = some (.int .i64 t143) := (blk_cell BK145.out 1).trans rfl
                                            have hfz68_0 := blk_frozen BK145.out 0
                                            have hfz68_1 := blk_frozen BK145.out 1
                                            have hcz69_0 : wc.cell? ⟨gb144, 0, none⟩ = some (.slice Ao21 t131.length co21) := (blk_cell BK144.out 0).trans rfl
                                            have hcz69_1 : wc.cell? ⟨gb144, 1, none⟩ = some (.slice Ao24 t134.length co24) := (blk_cell BK144.out 1).trans rfl
                                            have hcz69_2 : wc.cell? ⟨gb144, 2, none⟩ = some (.string t137) := (blk_cell BK144.out 2).trans rfl
                                            have hcz69_3 : wc.cell? ⟨gb144, 3, none⟩ = some (.slice Ao25 t138.length co25) := (blk_cell BK144.out 3).trans rfl
                                            have hcz69_4 : wc.cell? ⟨gb144, 4, none⟩ = some (.bool t141) := (blk_cell BK144.out 4).trans rfl
                                            have hfz69_0 := blk_frozen BK144.out 0
                                            have hfz69_1 := blk_frozen BK144.out 1
                                            have hfz69_2 := blk_frozen BK144.out 2
                                            have hfz69_3 := blk_frozen BK144.out 3
                                            have hfz69_4 := blk_frozen BK144.out 4
                                            go_wp2
                                            go_ret
                                            exact ⟨by first | rfl | (simp [errW_none, errW_some] <;> rfl) | (simp only [← hji8]; first | rfl | (simp [errW_none, errW_some] <;> rfl)) | (simp [*, errW_none, errW_some] <;> rfl), by repeat (first | (with_reducible first | exact HB.out | apply below_alloc | apply pw_below_drewN | apply below_drew1 | refine below_set ?_ GE144.out | refine below_set ?_ GE145.out) | exact HB.out)⟩
                                      · rw [if_neg c50] at H
                                        have c50b0 : (t141 == (a0 == 1)) = false := by simpa using c50
                                        (try (have c50b1 : decide (t141 = (a0 == 1)) = false := by simpa using c50))
                                        (try (have c50b2 : (t141 == (a0 == 1)) = false := by simpa using c50))
                                        (try (have c50b3 : ¬ (t141 = (a0 == 1)) := by simpa using c50))
                                        clear c50
                                        obtain rfl := Option.some.inj H
                                        have hnb70 := NB145_144.out
                                        have hnc70 := NB144_145.out
                                        have hcz71_0 : wc.cell? ⟨gb145, 0, none⟩ = some (.int .i64 t142) := (blk_cell BK145.out 0).trans rfl
                                        have hcz71_1 : wc.cell? ⟨gb145, 1, none⟩ = some (.int .i64 t143) := (blk_cell BK145.out 1).trans rfl
                                        have hfz71_0 := blk_frozen BK145.out 0
                                        have hfz71_1 := blk_frozen BK145.out 1
                                        have hcz72_0 : wc.cell? ⟨gb144, 0, none⟩ = some (.slice Ao21 t131.length co21) := (blk_cell BK144.out 0).trans rfl
                                        have hcz72_1 : wc.cell? ⟨gb144, 1, none⟩ = some (.slice Ao24 t134.length co24) := (blk_cell BK144.out 1).trans rfl
                                        have hcz72_2 : wc.cell? ⟨gb144, 2, none⟩ = some (.string t137) := (blk_cell BK144.out 2).trans rfl
                                        have hcz72_3 : wc.cell? ⟨gb144, 3, none⟩ = some (.slice Ao25 t138.length co25) := (blk_cell BK144.out 3).trans rfl
                                        have hcz72_4 : wc.cell? ⟨gb144, 4, none⟩ = some (.bool t141) := (blk_cell BK144.out 4).trans rfl
                                        have hfz72_0 := blk_frozen BK144.out 0
                                        have hfz72_1 := blk_frozen BK144.out 1
                                        have hfz72_2 := blk_frozen BK144.out 2
                                        have hfz72_3 := blk_frozen BK144.out 3
                                        have hfz72_4 := blk_frozen BK144.out 4
                                        go_wp2
                                        go_ret
                                        exact ⟨by first | rfl | (simp [errW_none, errW_some] <;> rfl) | (simp only [← hji8]; first | rfl | (simp [errW_none, errW_some] <;> rfl)) | (simp [*, errW_none, errW_some] <;> rfl), by repeat (first | (with_reducible first | exact HB.out | apply below_alloc | apply pw_below_drewN | apply below_drew1 | refine below_set ?_ GE144.out | refine below_set ?_ GE145.out) | exact HB.out)⟩
                                    · rw [if_neg c49] at H
                                      have c49b0 : ((rdOf ByteArray.empty y127 (ji8)).toList == ([100, 101, 102, 97, 117, 108, 116, 32, 97, 108, 108, 111, 119, 59] : List UInt8)) = false := beq_eq_false_iff_ne.mpr c49
                                      have c49b1 : ((rdOf ByteArray.empty y127 (ji8)).toList != ([100, 101, 102, 97, 117, 108, 116, 32, 97, 108, 108, 111, 119, 59] : List UInt8)) = true := bne_iff_ne.mpr c49
                                      by_cases c73 : (t141 == false) = true
                                      · rw [if_pos c73] at H
                                        have c73b0 : (t141 == false) = true := c73
                                        (try (have c73b1 : decide (t141 = false) = true := by simpa using c73))
                                        (try (have c73b2 : (t141 == false) = true := by simpa using c73))
                                        clear c73
                                        by_cases c74 : (rdOf ByteArray.empty y127 (ji8)).toList = ([109, 105, 120, 101, 100, 32, 97, 108, 108, 111, 119, 59] : List UInt8)
                                        · rw [if_pos c74] at H
                                          have c74b0 : ((rdOf ByteArray.empty y127 (ji8)).toList == ([109, 105, 120, 101, 100, 32, 97, 108, 108, 111, 119, 59] : List UInt8)) = true := beq_iff_eq.mpr c74
                                          have c74b1 : ((rdOf ByteArray.empty y127 (ji8)).toList != ([109, 105, 120, 101, 100, 32, 97, 108, 108, 111, 119, 59] : List UInt8)) = false := bne_eq_false_iff_eq.mpr c74
                                          clear c74
                                          by_cases c75 : ((t137.toList == ([97, 108, 108, 111, 119] : List UInt8)) == (a0 == 1)) = true
                                          · rw [if_pos c75] at H
                                            have c75b0 : ((t137.toList == ([97, 108, 108, 111, 119] : List UInt8)) == (a0 == 1)) = true := c75
                                            (try (have c75b1 : decide ((t137.toList == ([97, 108, 108, 111, 119] : List UInt8)) = (a0 == 1)) = true := by simpa using c75))
                                            (try (have c75b2 : ((t137.toList == ([97, 108, 108, 111, 119] : List UInt8)) == (a0 == 1)) = true := by simpa using c75))
                                            clear c75
                                            replace H := Option.bind_eq_some_iff.mp H
                                            obtain ⟨t150, A760, H⟩ := H
                                            replace H : (some t150) = some r := H
                                            have A76 := Aside0.mk A760
                                            clear A760
                                            obtain rfl := Option.some.inj H
                                            have hnb77 := NB145_144.out
                                            have hnc77 := NB144_145.out
                                            have hcz78_0 : wc.cell? ⟨gb145, 0, none⟩ = some (.int .i64 t142) := (blk_cell BK145.out 0).trans rfl
                                            have hcz78_1 : wc.cell? ⟨gb145, 1, none⟩ = some (.int .i64 t143) := (blk_cell BK145.out 1).trans rfl
                                            have hfz78_0 := blk_frozen BK145.out 0
                                            have hfz78_1 := blk_frozen BK145.out 1
                                            have hcz79_0 : wc.cell? ⟨gb144, 0, none⟩ = some (.slice Ao21 t131.length co21) := (blk_cell BK144.out 0).trans rfl
                                            have hcz79_1 : wc.cell? ⟨gb144, 1, none⟩ = some (.slice Ao24 t134.length co24) := (blk_cell BK144.out 1).trans rfl
                                            have hcz79_2 : wc.cell? ⟨gb144, 2, none⟩ = some (.string t137) := (blk_cell BK144.out 2).trans rfl
                                            have hcz79_3 : wc.cell? ⟨gb144, 3, none⟩ = some (.slice Ao25 t138.length co25) := (blk_cell BK144.out 3).trans rfl
                                            have hcz79_4 : wc.cell? ⟨gb144, 4, none⟩ = some (.bool t141) := (blk_cell BK144.out 4).trans rfl
                                            have hfz79_0 := blk_frozen BK144.out 0
                                            have hfz79_1 := blk_frozen BK144.out 1
                                            have hfz79_2 := blk_frozen BK144.out 2
                                            have hfz79_3 := blk_frozen BK144.out 3
                                            have hfz79_4 := blk_frozen BK144.out 4
                                            go_wp2_with (first | (go_at_call 11; (with_reducible refine (parapetlaw20_awake.calls kj27  t150 _ ?side1 A76.out).mono ?_); (case side1 => (first | (with_reducible exact HLD.out) | exact Laid.below HLD.out (by repeat (first | (with_reducible first | exact HB.out | apply below_alloc | apply pw_below_drewN | apply below_drew1 | refine below_set ?_ GE144.out | refine below_set ?_ GE145.out) | exact HB.out)))); rintro e w80 ⟨rfl, hb⟩; have n0_ := Aside0.mk (Kd.R_below (by (with_reducible repeat (first | apply Kd.R_alloc | apply Kd.R_drewN | apply Kd.R_drew)); exact HO_145000.out) hb); have n1_ := Aside0.mk (Kd.R_below (by (with_reducible repeat (first | apply Kd.R_alloc | apply Kd.R_drewN | apply Kd.R_drew)); exact HO_145001.out) hb); have n2_ := Aside0.mk (Kd.R_below (by (with_reducible repeat (first | apply Kd.R_alloc | apply Kd.R_drewN | apply Kd.R_drew)); exact HO_145003.out) hb); have n3_ := Aside0.mk (blk_below (g := gb144) (o := .cells #[.slice Ao21 t131.length co21, .slice Ao24 t134.length co24, .string t137, .slice Ao25 t138.length co25, .bool t141] 27 (0, 0)) (by (with_reducible repeat (first | refine blk_drewN ?_ _ | refine blk_drew ?_ | refine blk_alloc ?_ _)); exact BK144.out) hb); have n4_ := Aside0.mk (blk_below (g := gb145) (o := .cells #[.int .i64 t142, .int .i64 t143] 30 (0, 0)) (by (with_reducible repeat (first | refine blk_drewN ?_ _ | refine blk_drew ?_ | refine blk_alloc ?_ _)); exact BK145.out) hb); have n5_ := Aside0.mk (below_step (by repeat (first | (with_reducible first | exact HB.out | apply below_alloc | apply pw_below_drewN | apply below_drew1 | refine below_set ?_ GE144.out | refine below_set ?_ GE145.out) | exact HB.out)) hb); clear HO_145000; clear HO_145001; clear HO_145003; clear BK144; clear BK145; clear HB; have HO_145000 := n0_; have HO_145001 := n1_; have HO_145003 := n2_; have BK144 := n3_; have BK145 := n4_; have HB := n5_; clear n0_ n1_ n2_ n3_ n4_ n5_; (try clear hb); (try clear hb2); (try clear hk); (try clear hi)))
                                            go_ret
                                            exact ⟨by first | rfl | (simp [errW_none, errW_some] <;> rfl) | (simp only [← hji8]; first | rfl | (simp [errW_none, errW_some] <;> rfl)) | (simp [*, errW_none, errW_some] <;> rfl), by repeat (first | (with_reducible first | exact HB.out | apply below_alloc | apply pw_below_drewN | apply below_drew1 | refine below_set ?_ GE144.out | refine below_set ?_ GE145.out) | exact HB.out)⟩
                                          · rw [if_neg c75] at H
                                            have c75b0 : ((t137.toList == ([97, 108, 108, 111, 119] : List UInt8)) == (a0 == 1)) = false := by simpa using c75
                                            (try (have c75b1 : decide ((t137.toList == ([97, 108, 108, 111, 119] : List UInt8)) = (a0 == 1)) = false := by simpa using c75))
                                            (try (have c75b2 : ((t137.toList == ([97, 108, 108, 111, 119] : List UInt8)) == (a0 == 1)) = false := by simpa using c75))
                                            (try (have c75b3 : ¬ ((t137.toList == ([97, 108, 108, 111, 119] : List UInt8)) = (a0 == 1)) := by simpa using c75))
                                            clear c75
                                            obtain rfl := Option.some.inj H
                                            have hnb81 := NB145_144.out
                                            have hnc81 := NB144_145.out
                                            have hcz82_0 : wc.cell? ⟨gb145, 0, none⟩ = some (.int .i64 t142) := (blk_cell BK145.out 0).trans rfl
                                            have hcz82_1 : wc.cell? ⟨gb145, 1, none⟩ = some (.int .i64 t143) := (blk_cell BK145.out 1).trans rfl
                                            have hfz82_0 := blk_frozen BK145.out 0
                                            have hfz82_1 := blk_frozen BK145.out 1
                                            have hcz83_0 : wc.cell? ⟨gb144, 0, none⟩ = some (.slice Ao21 t131.length co21) := (blk_cell BK144.out 0).trans rfl
                                            have hcz83_1 : wc.cell? ⟨gb144, 1, none⟩ = some (.slice Ao24 t134.length co24) := (blk_cell BK144.out 1).trans rfl
                                            have hcz83_2 : wc.cell? ⟨gb144, 2, none⟩ = some (.string t137) := (blk_cell BK144.out 2).trans rfl
                                            have hcz83_3 : wc.cell? ⟨gb144, 3, none⟩ = some (.slice Ao25 t138.length co25) := (blk_cell BK144.out 3).trans rfl
                                            have hcz83_4 : wc.cell? ⟨gb144, 4, none⟩ = some (.bool t141) := (blk_cell BK144.out 4).trans rfl
                                            have hfz83_0 := blk_frozen BK144.out 0
                                            have hfz83_1 := blk_frozen BK144.out 1
                                            have hfz83_2 := blk_frozen BK144.out 2
                                            have hfz83_3 := blk_frozen BK144.out 3
                                            have hfz83_4 := blk_frozen BK144.out 4
                                            go_wp2
                                            go_ret
                                            exact ⟨by first | rfl | (simp [errW_none, errW_some] <;> rfl) | (simp only [← hji8]; first | rfl | (simp [errW_none, errW_some] <;> rfl)) | (simp [*, errW_none, errW_some] <;> rfl), by repeat (first | (with_reducible first | exact HB.out | apply below_alloc | apply pw_below_drewN | apply below_drew1 | refine below_set ?_ GE144.out | refine below_set ?_ GE145.out) | exact HB.out)⟩
                                        · rw [if_neg c74] at H
                                          have c74b0 : ((rdOf ByteArray.empty y127 (ji8)).toList == ([109, 105, 120, 101, 100, 32, 97, 108, 108, 111, 119, 59] : List UInt8)) = false := beq_eq_false_iff_ne.mpr c74
                                          have c74b1 : ((rdOf ByteArray.empty y127 (ji8)).toList != ([109, 105, 120, 101, 100, 32, 97, 108, 108, 111, 119, 59] : List UInt8)) = true := bne_iff_ne.mpr c74
                                          by_cases c84 : ((t137.toList == ([97, 108, 108, 111, 119] : List UInt8)) == false) = true
                                          · rw [if_pos c84] at H
                                            have c84b0 : ((t137.toList == ([97, 108, 108, 111, 119] : List UInt8)) == false) = true := c84
                                            (try (have c84b1 : decide ((t137.toList == ([97, 108, 108, 111, 119] : List UInt8)) = false) = true := by simpa using c84))
                                            (try (have c84b2 : ((t137.toList == ([97, 108, 108, 111, 119] : List UInt8)) == false) = true := by simpa using c84))
                                            clear c84
                                            replace H := Option.bind_eq_some_iff.mp H
                                            obtain ⟨t151, A850, H⟩ := H
                                            replace H : (some t151) = some r := H
                                            have A85 := Aside0.mk A850
                                            clear A850
                                            obtain rfl := Option.some.inj H
                                            have hnb86 := NB145_144.out
                                            have hnc86 := NB144_145.out
                                            have hcz87_0 : wc.cell? ⟨gb145, 0, none⟩ = some (.int .i64 t142) := (blk_cell BK145.out 0).trans rfl
                                            have hcz87_1 : wc.cell? ⟨gb145, 1, none⟩ = some (.int .i64 t143) := (blk_cell BK145.out 1).trans rfl
                                            have hfz87_0 := blk_frozen BK145.out 0
                                            have hfz87_1 := blk_frozen BK145.out 1
                                            have hcz88_0 : wc.cell? ⟨gb144, 0, none⟩ = some (.slice Ao21 t131.length co21) := (blk_cell BK144.out 0).trans rfl
                                            have hcz88_1 : wc.cell? ⟨gb144, 1, none⟩ = some (.slice Ao24 t134.length co24) := (blk_cell BK144.out 1).trans rfl
                                            have hcz88_2 : wc.cell? ⟨gb144, 2, none⟩ = some (.string t137) := (blk_cell BK144.out 2).trans rfl
                                            have hcz88_3 : wc.cell? ⟨gb144, 3, none⟩ = some (.slice Ao25 t138.length co25) := (blk_cell BK144.out 3).trans rfl
                                            have hcz88_4 : wc.cell? ⟨gb144, 4, none⟩ = some (.bool t141) := (blk_cell BK144.out 4).trans rfl
                                            have hfz88_0 := blk_frozen BK144.out 0
                                            have hfz88_1 := blk_frozen BK144.out 1
                                            have hfz88_2 := blk_frozen BK144.out 2
                                            have hfz88_3 := blk_frozen BK144.out 3
                                            have hfz88_4 := blk_frozen BK144.out 4
                                            go_wp2_with (first | (go_at_call 11; (with_reducible refine (parapetlaw20_awake.calls kj27  t151 _ ?side1 A85.out).mono ?_); (case side1 => (first | (with_reducible exact HLD.out) | exact Laid.below HLD.out (by repeat (first | (with_reducible first | exact HB.out | apply below_alloc | apply pw_below_drewN | apply below_drew1 | refine below_set ?_ GE144.out | refine below_set ?_ GE145.out) | exact HB.out)))); rintro e w89 ⟨rfl, hb⟩; have n0_ := Aside0.mk (Kd.R_below (by (with_reducible repeat (first | apply Kd.R_alloc | apply Kd.R_drewN | apply Kd.R_drew)); exact HO_145000.out) hb); have n1_ := Aside0.mk (Kd.R_below (by (with_reducible repeat (first | apply Kd.R_alloc | apply Kd.R_drewN | apply Kd.R_drew)); exact HO_145001.out) hb); have n2_ := Aside0.mk (Kd.R_below (by (with_reducible repeat (first | apply Kd.R_alloc | apply Kd.R_drewN | apply Kd.R_drew)); exact HO_145003.out) hb); have n3_ := Aside0.mk (blk_below (g := gb144) (o := .cells #[.slice Ao21 t131.length co21, .slice Ao24 t134.length co24, .string t137, .slice Ao25 t138.length co25, .bool t141] 27 (0, 0)) (by (with_reducible repeat (first | refine blk_drewN ?_ _ | refine blk_drew ?_ | refine blk_alloc ?_ _)); exact BK144.out) hb); have n4_ := Aside0.mk (blk_below (g := gb145) (o := .cells #[.int .i64 t142, .int .i64 t143] 30 (0, 0)) (by (with_reducible repeat (first | refine blk_drewN ?_ _ | refine blk_drew ?_ | refine blk_alloc ?_ _)); exact BK145.out) hb); have n5_ := Aside0.mk (below_step (by repeat (first | (with_reducible first | exact HB.out | apply below_alloc | apply pw_below_drewN | apply below_drew1 | refine below_set ?_ GE144.out | refine below_set ?_ GE145.out) | exact HB.out)) hb); clear HO_145000; clear HO_145001; clear HO_145003; clear BK144; clear BK145; clear HB; have HO_145000 := n0_; have HO_145001 := n1_; have HO_145003 := n2_; have BK144 := n3_; have BK145 := n4_; have HB := n5_; clear n0_ n1_ n2_ n3_ n4_ n5_; (try clear hb); (try clear hb2); (try clear hk); (try clear hi)))
                                            go_ret
                                            exact ⟨by first | rfl | (simp [errW_none, errW_some] <;> rfl) | (simp only [← hji8]; first | rfl | (simp [errW_none, errW_some] <;> rfl)) | (simp [*, errW_none, errW_some] <;> rfl), by repeat (first | (with_reducible first | exact HB.out | apply below_alloc | apply pw_below_drewN | apply below_drew1 | refine below_set ?_ GE144.out | refine below_set ?_ GE145.out) | exact HB.out)⟩
                                          · rw [if_neg c84] at H
                                            have c84b0 : ((t137.toList == ([97, 108, 108, 111, 119] : List UInt8)) == false) = false := by simpa using c84
                                            (try (have c84b1 : decide ((t137.toList == ([97, 108, 108, 111, 119] : List UInt8)) = false) = false := by simpa using c84))
                                            (try (have c84b2 : ((t137.toList == ([97, 108, 108, 111, 119] : List UInt8)) == false) = false := by simpa using c84))
                                            (try (have c84b3 : ¬ ((t137.toList == ([97, 108, 108, 111, 119] : List UInt8)) = false) := by simpa using c84))
                                            clear c84
                                            obtain rfl := Option.some.inj H
                                            have hnb90 := NB145_144.out
                                            have hnc90 := NB144_145.out
                                            have hcz91_0 : wc.cell? ⟨gb145, 0, none⟩ = some (.int .i64 t142) := (blk_cell BK145.out 0).trans rfl
                                            have hcz91_1 : wc.cell? ⟨gb145, 1, none⟩ = some (.int .i64 t143) := (blk_cell BK145.out 1).trans rfl
                                            have hfz91_0 := blk_frozen BK145.out 0
                                            have hfz91_1 := blk_frozen BK145.out 1
                                            have hcz92_0 : wc.cell? ⟨gb144, 0, none⟩ = some (.slice Ao21 t131.length co21) := (blk_cell BK144.out 0).trans rfl
                                            have hcz92_1 : wc.cell? ⟨gb144, 1, none⟩ = some (.slice Ao24 t134.length co24) := (blk_cell BK144.out 1).trans rfl
                                            have hcz92_2 : wc.cell? ⟨gb144, 2, none⟩ = some (.string t137) := (blk_cell BK144.out 2).trans rfl
                                            have hcz92_3 : wc.cell? ⟨gb144, 3, none⟩ = some (.slice Ao25 t138.length co25) := (blk_cell BK144.out 3).trans rfl
                                            have hcz92_4 : wc.cell? ⟨gb144, 4, none⟩ = some (.bool t141) := (blk_cell BK144.out 4).trans rfl
                                            have hfz92_0 := blk_frozen BK144.out 0
                                            have hfz92_1 := blk_frozen BK144.out 1
                                            have hfz92_2 := blk_frozen BK144.out 2
                                            have hfz92_3 := blk_frozen BK144.out 3
                                            have hfz92_4 := blk_frozen BK144.out 4
                                            go_wp2
                                            go_ret
                                            exact ⟨by first | rfl | (simp [errW_none, errW_some] <;> rfl) | (simp only [← hji8]; first | rfl | (simp [errW_none, errW_some] <;> rfl)) | (simp [*, errW_none, errW_some] <;> rfl), by repeat (first | (with_reducible first | exact HB.out | apply below_alloc | apply pw_below_drewN | apply below_drew1 | refine below_set ?_ GE144.out | refine below_set ?_ GE145.out) | exact HB.out)⟩
                                      · rw [if_neg c73] at H
                                        have c73b0 : (t141 == false) = false := by simpa using c73
                                        (try (have c73b1 : decide (t141 = false) = false := by simpa using c73))
                                        (try (have c73b2 : (t141 == false) = false := by simpa using c73))
                                        (try (have c73b3 : ¬ (t141 = false) := by simpa using c73))
                                        clear c73
                                        obtain rfl := Option.some.inj H
                                        have hnb93 := NB145_144.out
                                        have hnc93 := NB144_145.out
                                        have hcz94_0 : wc.cell? ⟨gb145, 0, none⟩ = some (.int .i64 t142) := (blk_cell BK145.out 0).trans rfl
                                        have hcz94_1 : wc.cell? ⟨gb145, 1, none⟩ = some (.int .i64 t143) := (blk_cell BK145.out 1).trans rfl
                                        have hfz94_0 := blk_frozen BK145.out 0
                                        have hfz94_1 := blk_frozen BK145.out 1
                                        have hcz95_0 : wc.cell? ⟨gb144, 0, none⟩ = some (.slice Ao21 t131.length co21) := (blk_cell BK144.out 0).trans rfl
                                        have hcz95_1 : wc.cell? ⟨gb144, 1, none⟩ = some (.slice Ao24 t134.length co24) := (blk_cell BK144.out 1).trans rfl
                                        have hcz95_2 : wc.cell? ⟨gb144, 2, none⟩ = some (.string t137) := (blk_cell BK144.out 2).trans rfl
                                        have hcz95_3 : wc.cell? ⟨gb144, 3, none⟩ = some (.slice Ao25 t138.length co25) := (blk_cell BK144.out 3).trans rfl
                                        have hcz95_4 : wc.cell? ⟨gb144, 4, none⟩ = some (.bool t141) := (blk_cell BK144.out 4).trans rfl
                                        have hfz95_0 := blk_frozen BK144.out 0
                                        have hfz95_1 := blk_frozen BK144.out 1
                                        have hfz95_2 := blk_frozen BK144.out 2
                                        have hfz95_3 := blk_frozen BK144.out 3
                                        have hfz95_4 := blk_frozen BK144.out 4
                                        go_wp2
                                        go_ret
                                        exact ⟨by first | rfl | (simp [errW_none, errW_some] <;> rfl) | (simp only [← hji8]; first | rfl | (simp [errW_none, errW_some] <;> rfl)) | (simp [*, errW_none, errW_some] <;> rfl), by repeat (first | (with_reducible first | exact HB.out | apply below_alloc | apply pw_below_drewN | apply below_drew1 | refine below_set ?_ GE144.out | refine below_set ?_ GE145.out) | exact HB.out)⟩
                                  · rw [if_neg c48] at H
                                    have c48b0 : ((wrap64 ((t138.length : Int) + (t131.length : Int))) == 0) = false := beq_eq_false_iff_ne.mpr c48
                                    have c48b1 : ((wrap64 ((t138.length : Int) + (t131.length : Int))) != 0) = true := bne_iff_ne.mpr c48
                                    obtain rfl := Option.some.inj H
                                    have hnb96 := NB145_144.out
                                    have hnc96 := NB144_145.out
                                    have hcz97_0 : wc.cell? ⟨gb145, 0, none⟩ = some (.int .i64 t142) := (blk_cell BK145.out 0).trans rfl
                                    have hcz97_1 : wc.cell? ⟨gb145, 1, none⟩ = some (.int .i64 t143) := (blk_cell BK145.out 1).trans rfl
                                    have hfz97_0 := blk_frozen BK145.out 0
                                    have hfz97_1 := blk_frozen BK145.out 1
                                    have hcz98_0 : wc.cell? ⟨gb144, 0, none⟩ = some (.slice Ao21 t131.length co21) := (blk_cell BK144.out 0).trans rfl
                                    have hcz98_1 : wc.cell? ⟨gb144, 1, none⟩ = some (.slice Ao24 t134.length co24) := (blk_cell BK144.out 1).trans rfl
                                    have hcz98_2 : wc.cell? ⟨gb144, 2, none⟩ = some (.string t137) := (blk_cell BK144.out 2).trans rfl
                                    have hcz98_3 : wc.cell? ⟨gb144, 3, none⟩ = some (.slice Ao25 t138.length co25) := (blk_cell BK144.out 3).trans rfl
                                    have hcz98_4 : wc.cell? ⟨gb144, 4, none⟩ = some (.bool t141) := (blk_cell BK144.out 4).trans rfl
                                    have hfz98_0 := blk_frozen BK144.out 0
                                    have hfz98_1 := blk_frozen BK144.out 1
                                    have hfz98_2 := blk_frozen BK144.out 2
                                    have hfz98_3 := blk_frozen BK144.out 3
                                    have hfz98_4 := blk_frozen BK144.out 4
                                    go_wp2
                                    go_ret
                                    exact ⟨by first | rfl | (simp [errW_none, errW_some] <;> rfl) | (simp only [← hji8]; first | rfl | (simp [errW_none, errW_some] <;> rfl)) | (simp [*, errW_none, errW_some] <;> rfl), by repeat (first | (with_reducible first | exact HB.out | apply below_alloc | apply pw_below_drewN | apply below_drew1 | refine below_set ?_ GE144.out | refine below_set ?_ GE145.out) | exact HB.out)⟩
                                · rw [if_neg c47] at H
                                  have c47b0 : (t142 == 0) = false := beq_eq_false_iff_ne.mpr c47
                                  have c47b1 : (t142 != 0) = true := bne_iff_ne.mpr c47
                                  obtain rfl := Option.some.inj H
                                  have hnb99 := NB145_144.out
                                  have hnc99 := NB144_145.out
                                  have hcz100_0 : wc.cell? ⟨gb145, 0, none⟩ = some (.int .i64 t142) := (blk_cell BK145.out 0).trans rfl
                                  have hcz100_1 : wc.cell? ⟨gb145, 1, none⟩ = some (.int .i64 t143) := (blk_cell BK145.out 1).trans rfl
                                  have hfz100_0 := blk_frozen BK145.out 0
                                  have hfz100_1 := blk_frozen BK145.out 1
                                  go_wp2
                                  go_ret
                                  exact ⟨by first | rfl | (simp [errW_none, errW_some] <;> rfl) | (simp only [← hji8]; first | rfl | (simp [errW_none, errW_some] <;> rfl)) | (simp [*, errW_none, errW_some] <;> rfl), by repeat (first | (with_reducible first | exact HB.out | apply below_alloc | apply pw_below_drewN | apply below_drew1 | refine below_set ?_ GE144.out | refine below_set ?_ GE145.out) | exact HB.out)⟩
                              · replace c46 := Bool.eq_false_iff.mpr c46
                                subst c46
                                have H1 : (if t142 = 0 then (if (wrap64 ((t138.length : Int) + (t131.length : Int))) = a0 then (if (rdOf ByteArray.empty y127 (ji8)).toList = ([100, 101, 102, 97, 117, 108, 116, 32, 97, 108, 108, 111, 119, 59] : List UInt8) then (if (t141 == (a0 == 1)) = true then (if (rdOf ByteArray.empty y127 (ji8)).toList = ([109, 105, 120, 101, 100, 32, 97, 108, 108, 111, 119, 59] : List UInt8) then (if ((t137.toList == ([97, 108, 108, 111, 119] : List UInt8)) == (a0 == 1)) = true then ((parapetlaw20_awake.f kj27).bind fun t152 => (some t152)) else (some false)) else (if ((t137.toList == ([97, 108, 108, 111, 119] : List UInt8)) == false) = true then ((parapetlaw20_awake.f kj27).bind fun t153 => (some t153)) else (some false))) else (some false)) else (if (t141 == false) = true then (if (rdOf ByteArray.empty y127 (ji8)).toList = ([109, 105, 120, 101, 100, 32, 97, 108, 108, 111, 119, 59] : List UInt8) then (if ((t137.toList == ([97, 108, 108, 111, 119] : List UInt8)) == (a0 == 1)) = true then ((parapetlaw20_awake.f kj27).bind fun t154 => (some t154)) else (some false)) else (if ((t137.toList == ([97, 108, 108, 111, 119] : List UInt8)) == false) = true then ((parapetlaw20_awake.f kj27).bind fun t155 => (some t155)) else (some false))) else (some false))) else (some false)) else (some false)) = some r := by rw [if_neg (show ¬ (false = true) by decide)] at H; exact H
                                clear H
                                have H := H1
                                clear H1
                                by_cases c101 : t142 = 0
                                · rw [if_pos c101] at H
                                  have c101b0 : (t142 == 0) = true := beq_iff_eq.mpr c101
                                  have c101b1 : (t142 != 0) = false := bne_eq_false_iff_eq.mpr c101
                                  clear c101
                                  by_cases c102 : (wrap64 ((t138.length : Int) + (t131.length : Int))) = a0
                                  · rw [if_pos c102] at H
                                    have c102b0 : ((wrap64 ((t138.length : Int) + (t131.length : Int))) == a0) = true := beq_iff_eq.mpr c102
                                    have c102b1 : ((wrap64 ((t138.length : Int) + (t131.length : Int))) != a0) = false := bne_eq_false_iff_eq.mpr c102
                                    clear c102
                                    by_cases c103 : (rdOf ByteArray.empty y127 (ji8)).toList = ([100, 101, 102, 97, 117, 108, 116, 32, 97, 108, 108, 111, 119, 59] : List UInt8)
                                    · rw [if_pos c103] at H
                                      have c103b0 : ((rdOf ByteArray.empty y127 (ji8)).toList == ([100, 101, 102, 97, 117, 108, 116, 32, 97, 108, 108, 111, 119, 59] : List UInt8)) = true := beq_iff_eq.mpr c103
                                      have c103b1 : ((rdOf ByteArray.empty y127 (ji8)).toList != ([100, 101, 102, 97, 117, 108, 116, 32, 97, 108, 108, 111, 119, 59] : List UInt8)) = false := bne_eq_false_iff_eq.mpr c103
                                      clear c103
                                      by_cases c104 : (t141 == (a0 == 1)) = true
                                      · rw [if_pos c104] at H
                                        have c104b0 : (t141 == (a0 == 1)) = true := c104
                                        (try (have c104b1 : decide (t141 = (a0 == 1)) = true := by simpa using c104))
                                        (try (have c104b2 : (t141 == (a0 == 1)) = true := by simpa using c104))
                                        clear c104
                                        by_cases c105 : (rdOf ByteArray.empty y127 (ji8)).toList = ([109, 105, 120, 101, 100, 32, 97, 108, 108, 111, 119, 59] : List UInt8)
                                        · rw [if_pos c105] at H
                                          have c105b0 : ((rdOf ByteArray.empty y127 (ji8)).toList == ([109, 105, 120, 101, 100, 32, 97, 108, 108, 111, 119, 59] : List UInt8)) = true := beq_iff_eq.mpr c105
                                          have c105b1 : ((rdOf ByteArray.empty y127 (ji8)).toList != ([109, 105, 120, 101, 100, 32, 97, 108, 108, 111, 119, 59] : List UInt8)) = false := bne_eq_false_iff_eq.mpr c105
                                          clear c105
                                          by_cases c106 : ((t137.toList == ([97, 108, 108, 111, 119] : List UInt8)) == (a0 == 1)) = true
                                          · rw [if_pos c106] at H
                                            have c106b0 : ((t137.toList == ([97, 108, 108, 111, 119] : List UInt8)) == (a0 == 1)) = true := c106
                                            (try (have c106b1 : decide ((t137.toList == ([97, 108, 108, 111, 119] : List UInt8)) = (a0 == 1)) = true := by simpa using c106))
                                            (try (have c106b2 : ((t137.toList == ([97, 108, 108, 111, 119] : List UInt8)) == (a0 == 1)) = true := by simpa using c106))
                                            clear c106
                                            replace H := Option.bind_eq_some_iff.mp H
                                            obtain ⟨t152, A1070, H⟩ := H
                                            replace H : (some t152) = some r := H
                                            have A107 := Aside0.mk A1070
                                            clear A1070
                                            obtain rfl := Option.some.inj H
                                            have hnb108 := NB145_144.out
                                            have hnc108 := NB144_145.out
                                            have hcz109_0 : wc.cell? ⟨gb145, 0, none⟩ = some (.int .i64 t142) := (blk_cell BK145.out 0).trans rfl
                                            have hcz109_1 : wc.cell? ⟨gb145, 1, none⟩ = some (.int .i64 t143) := (blk_cell BK145.out 1).trans rfl
                                            have hfz109_0 := blk_frozen BK145.out 0
                                            have hfz109_1 := blk_frozen BK145.out 1
                                            have hcz110_0 : wc.cell? ⟨gb144, 0, none⟩ = some (.slice Ao21 t131.length co21) := (blk_cell BK144.out 0).trans rfl
                                            have hcz110_1 : wc.cell? ⟨gb144, 1, none⟩ = some (.slice Ao24 t134.length co24) := (blk_cell BK144.out 1).trans rfl
                                            have hcz110_2 : wc.cell? ⟨gb144, 2, none⟩ = some (.string t137) := (blk_cell BK144.out 2).trans rfl
                                            have hcz110_3 : wc.cell? ⟨gb144, 3, none⟩ = some (.slice Ao25 t138.length co25) := (blk_cell BK144.out 3).trans rfl
                                            have hcz110_4 : wc.cell? ⟨gb144, 4, none⟩ = some (.bool t141) := (blk_cell BK144.out 4).trans rfl
                                            have hfz110_0 := blk_frozen BK144.out 0
                                            have hfz110_1 := blk_frozen BK144.out 1
                                            have hfz110_2 := blk_frozen BK144.out 2
                                            have hfz110_3 := blk_frozen BK144.out 3
                                            have hfz110_4 := blk_frozen BK144.out 4
                                            go_wp2_with (first | (go_at_call 11; (with_reducible refine (parapetlaw20_awake.calls kj27  t152 _ ?side1 A107.out).mono ?_); (case side1 => (first | (with_reducible exact HLD.out) | exact Laid.below HLD.out (by repeat (first | (with_reducible first | exact HB.out | apply below_alloc | apply pw_below_drewN | apply below_drew1 | refine below_set ?_ GE144.out | refine below_set ?_ GE145.out) | exact HB.out)))); rintro e w111 ⟨rfl, hb⟩; have n0_ := Aside0.mk (Kd.R_below (by (with_reducible repeat (first | apply Kd.R_alloc | apply Kd.R_drewN | apply Kd.R_drew)); exact HO_145000.out) hb); have n1_ := Aside0.mk (Kd.R_below (by (with_reducible repeat (first | apply Kd.R_alloc | apply Kd.R_drewN | apply Kd.R_drew)); exact HO_145001.out) hb); have n2_ := Aside0.mk (Kd.R_below (by (with_reducible repeat (first | apply Kd.R_alloc | apply Kd.R_drewN | apply Kd.R_drew)); exact HO_145003.out) hb); have n3_ := Aside0.mk (blk_below (g := gb144) (o := .cells #[.slice Ao21 t131.length co21, .slice Ao24 t134.length co24, .string t137, .slice Ao25 t138.length co25, .bool t141] 27 (0, 0)) (by (with_reducible repeat (first | refine blk_drewN ?_ _ | refine blk_drew ?_ | refine blk_alloc ?_ _)); exact BK144.out) hb); have n4_ := Aside0.mk (blk_below (g := gb145) (o := .cells #[.int .i64 t142, .int .i64 t143] 30 (0, 0)) (by (with_reducible repeat (first | refine blk_drewN ?_ _ | refine blk_drew ?_ | refine blk_alloc ?_ _)); exact BK145.out) hb); have n5_ := Aside0.mk (below_step (by repeat (first | (with_reducible first | exact HB.out | apply below_alloc | apply pw_below_drewN | apply below_drew1 | refine below_set ?_ GE144.out | refine below_set ?_ GE145.out) | exact HB.out)) hb); clear HO_145000; clear HO_145001; clear HO_145003; clear BK144; clear BK145; clear HB; have HO_145000 := n0_; have HO_145001 := n1_; have HO_145003 := n2_; have BK144 := n3_; have BK145 := n4_; have HB := n5_; clear n0_ n1_ n2_ n3_ n4_ n5_; (try clear hb); (try clear hb2); (try clear hk); (try clear hi)))
                                            go_ret
                                            exact ⟨by first | rfl | (simp [errW_none, errW_some] <;> rfl) | (simp only [← hji8]; first | rfl | (simp [errW_none, errW_some] <;> rfl)) | (simp [*, errW_none, errW_some] <;> rfl), by repeat (first | (with_reducible first | exact HB.out | apply below_alloc | apply pw_below_drewN | apply below_drew1 | refine below_set ?_ GE144.out | refine below_set ?_ GE145.out) | exact HB.out)⟩
                                          · rw [if_neg c106] at H
                                            have c106b0 : ((t137.toList == ([97, 108, 108, 111, 119] : List UInt8)) == (a0 == 1)) = false := by simpa using c106
                                            (try (have c106b1 : decide ((t137.toList == ([97, 108, 108, 111, 119] : List UInt8)) = (a0 == 1)) = false := by simpa using c106))
                                            (try (have c106b2 : ((t137.toList == ([97, 108, 108, 111, 119] : List UInt8)) == (a0 == 1)) = false := by simpa using c106))
                                            (try (have c106b3 : ¬ ((t137.toList == ([97, 108, 108, 111, 119] : List UInt8)) = (a0 == 1)) := by simpa using c106))
                                            clear c106
                                            obtain rfl := Option.some.inj H
                                            have hnb112 := NB145_144.out
                                            have hnc112 := NB144_145.out
                                            have hcz113_0 : wc.cell? ⟨gb145, 0, none⟩ = some (.int .i64 t142) := (blk_cell BK145.out 0).trans rfl
                                            have hcz113_1 : wc.cell? ⟨gb145, 1, none⟩ = some (.int .i64 t143) := (blk_cell BK145.out 1).trans rfl
                                            have hfz113_0 := blk_frozen BK145.out 0
                                            have hfz113_1 := blk_frozen BK145.out 1
                                            have hcz114_0 : wc.cell? ⟨gb144, 0, none⟩ = some (.slice Ao21 t131.length co21) := (blk_cell BK144.out 0).trans rfl
                                            have hcz114_1 : wc.cell? ⟨gb144, 1, none⟩ = some (.slice Ao24 t134.length co24) := (blk_cell BK144.out 1).trans rfl
                                            have hcz114_2 : wc.cell? ⟨gb144, 2, none⟩ = some (.string t137) := (blk_cell BK144.out 2).trans rfl
                                            have hcz114_3 : wc.cell? ⟨gb144, 3, none⟩ = some (.slice Ao25 t138.length co25) := (blk_cell BK144.out 3).trans rfl
                                            have hcz114_4 : wc.cell? ⟨gb144, 4, none⟩ = some (.bool t141) := (blk_cell BK144.out 4).trans rfl
                                            have hfz114_0 := blk_frozen BK144.out 0
                                            have hfz114_1 := blk_frozen BK144.out 1
                                            have hfz114_2 := blk_frozen BK144.out 2
                                            have hfz114_3 := blk_frozen BK144.out 3
                                            have hfz114_4 := blk_frozen BK144.out 4
                                            go_wp2
                                            go_ret
                                            exact ⟨by first | rfl | (simp [errW_none, errW_some] <;> rfl) | (simp only [← hji8]; first | rfl | (simp [errW_none, errW_some] <;> rfl)) | (simp [*, errW_none, errW_some] <;> rfl), by repeat (first | (with_reducible first | exact HB.out | apply below_alloc | apply pw_below_drewN | apply below_drew1 | refine below_set ?_ GE144.out | refine below_set ?_ GE145.out) | exact HB.out)⟩
                                        · rw [if_neg c105] at H
                                          have c105b0 : ((rdOf ByteArray.empty y127 (ji8)).toList == ([109, 105, 120, 101, 100, 32, 97, 108, 108, 111, 119, 59] : List UInt8)) = false := beq_eq_false_iff_ne.mpr c105
                                          have c105b1 : ((rdOf ByteArray.empty y127 (ji8)).toList != ([109, 105, 120, 101, 100, 32, 97, 108, 108, 111, 119, 59] : List UInt8)) = true := bne_iff_ne.mpr c105
                                          by_cases c115 : ((t137.toList == ([97, 108, 108, 111, 119] : List UInt8)) == false) = true
                                          · rw [if_pos c115] at H
                                            have c115b0 : ((t137.toList == ([97, 108, 108, 111, 119] : List UInt8)) == false) = true := c115
                                            (try (have c115b1 : decide ((t137.toList == ([97, 108, 108, 111, 119] : List UInt8)) = false) = true := by simpa using c115))
                                            (try (have c115b2 : ((t137.toList == ([97, 108, 108, 111, 119] : List UInt8)) == false) = true := by simpa using c115))
                                            clear c115
                                            replace H := Option.bind_eq_some_iff.mp H
                                            obtain ⟨t153, A1160, H⟩ := H
                                            replace H : (some t153) = some r := H
                                            have A116 := Aside0.mk A1160
                                            clear A1160
                                            obtain rfl := Option.some.inj H
                                            have hnb117 := NB145_144.out
                                            have hnc117 := NB144_145.out
                                            have hcz118_0 : wc.cell? ⟨gb145, 0, none⟩ = some (.int .i64 t142) := (blk_cell BK145.out 0).trans rfl
                                            have hcz118_1 : wc.cell? ⟨gb145, 1, none⟩ = some (.int .i64 t143) := (blk_cell BK145.out 1).trans rfl
                                            have hfz118_0 := blk_frozen BK145.out 0
                                            have hfz118_1 := blk_frozen BK145.out 1
                                            have hcz119_0 : wc.cell? ⟨gb144, 0, none⟩ = some (.slice Ao21 t131.length co21) := (blk_cell BK144.out 0).trans rfl
                                            have hcz119_1 : wc.cell? ⟨gb144, 1, none⟩ = some (.slice Ao24 t134.length co24) := (blk_cell BK144.out 1).trans rfl
                                            have hcz119_2 : wc.cell? ⟨gb144, 2, none⟩ = some (.string t137) := (blk_cell BK144.out 2).trans rfl
                                            have hcz119_3 : wc.cell? ⟨gb144, 3, none⟩ = some (.slice Ao25 t138.length co25) := (blk_cell BK144.out 3).trans rfl
                                            have hcz119_4 : wc.cell? ⟨gb144, 4, none⟩ = some (.bool t141) := (blk_cell BK144.out 4).trans rfl
                                            have hfz119_0 := blk_frozen BK144.out 0
                                            have hfz119_1 := blk_frozen BK144.out 1
                                            have hfz119_2 := blk_frozen BK144.out 2
                                            have hfz119_3 := blk_frozen BK144.out 3
                                            have hfz119_4 := blk_frozen BK144.out 4
                                            go_wp2_with (first | (go_at_call 11; (with_reducible refine (parapetlaw20_awake.calls kj27  t153 _ ?side1 A116.out).mono ?_); (case side1 => (first | (with_reducible exact HLD.out) | exact Laid.below HLD.out (by repeat (first | (with_reducible first | exact HB.out | apply below_alloc | apply pw_below_drewN | apply below_drew1 | refine below_set ?_ GE144.out | refine below_set ?_ GE145.out) | exact HB.out)))); rintro e w120 ⟨rfl, hb⟩; have n0_ := Aside0.mk (Kd.R_below (by (with_reducible repeat (first | apply Kd.R_alloc | apply Kd.R_drewN | apply Kd.R_drew)); exact HO_145000.out) hb); have n1_ := Aside0.mk (Kd.R_below (by (with_reducible repeat (first | apply Kd.R_alloc | apply Kd.R_drewN | apply Kd.R_drew)); exact HO_145001.out) hb); have n2_ := Aside0.mk (Kd.R_below (by (with_reducible repeat (first | apply Kd.R_alloc | apply Kd.R_drewN | apply Kd.R_drew)); exact HO_145003.out) hb); have n3_ := Aside0.mk (blk_below (g := gb144) (o := .cells #[.slice Ao21 t131.length co21, .slice Ao24 t134.length co24, .string t137, .slice Ao25 t138.length co25, .bool t141] 27 (0, 0)) (by (with_reducible repeat (first | refine blk_drewN ?_ _ | refine blk_drew ?_ | refine blk_alloc ?_ _)); exact BK144.out) hb); have n4_ := Aside0.mk (blk_below (g := gb145) (o := .cells #[.int .i64 t142, .int .i64 t143] 30 (0, 0)) (by (with_reducible repeat (first | refine blk_drewN ?_ _ | refine blk_drew ?_ | refine blk_alloc ?_ _)); exact BK145.out) hb); have n5_ := Aside0.mk (below_step (by repeat (first | (with_reducible first | exact HB.out | apply below_alloc | apply pw_below_drewN | apply below_drew1 | refine below_set ?_ GE144.out | refine below_set ?_ GE145.out) | exact HB.out)) hb); clear HO_145000; clear HO_145001; clear HO_145003; clear BK144; clear BK145; clear HB; have HO_145000 := n0_; have HO_145001 := n1_; have HO_145003 := n2_; have BK144 := n3_; have BK145 := n4_; have HB := n5_; clear n0_ n1_ n2_ n3_ n4_ n5_; (try clear hb); (try clear hb2); (try clear hk); (try clear hi)))
                                            go_ret
                                            exact ⟨by first | rfl | (simp [errW_none, errW_some] <;> rfl) | (simp only [← hji8]; first | rfl | (simp [errW_none, errW_some] <;> rfl)) | (simp [*, errW_none, errW_some] <;> rfl), by repeat (first | (with_reducible first | exact HB.out | apply below_alloc | apply pw_below_drewN | apply below_drew1 | refine below_set ?_ GE144.out | refine below_set ?_ GE145.out) | exact HB.out)⟩
                                          · rw [if_neg c115] at H
                                            have c115b0 : ((t137.toList == ([97, 108, 108, 111, 119] : List UInt8)) == false) = false := by simpa using c115
                                            (try (have c115b1 : decide ((t137.toList == ([97, 108, 108, 111, 119] : List UInt8)) = false) = false := by simpa using c115))
                                            (try (have c115b2 : ((t137.toList == ([97, 108, 108, 111, 119] : List UInt8)) == false) = false := by simpa using c115))
                                            (try (have c115b3 : ¬ ((t137.toList == ([97, 108, 108, 111, 119] : List UInt8)) = false) := by simpa using c115))
                                            clear c115
                                            obtain rfl := Option.some.inj H
                                            have hnb121 := NB145_144.out
                                            have hnc121 := NB144_145.out
                                            have hcz122_0 : wc.cell? ⟨gb145, 0, none⟩ = some (.int .i64 t142) := (blk_cell BK145.out 0).trans rfl
                                            have hcz122_1 : wc.cell? ⟨gb145, 1, none⟩ = some (.int .i64 t143) := (blk_cell BK145.out 1).trans rfl
                                            have hfz122_0 := blk_frozen BK145.out 0
                                            have hfz122_1 := blk_frozen BK145.out 1
                                            have hcz123_0 : wc.cell? ⟨gb144, 0, none⟩ = some (.slice Ao21 t131.length co21) := (blk_cell BK144.out 0).trans rfl
                                            have hcz123_1 : wc.cell? ⟨gb144, 1, none⟩ = some (.slice Ao24 t134.length co24) := (blk_cell BK144.out 1).trans rfl
                                            have hcz123_2 : wc.cell? ⟨gb144, 2, none⟩ = some (.string t137) := (blk_cell BK144.out 2).trans rfl
                                            have hcz123_3 : wc.cell? ⟨gb144, 3, none⟩ = some (.slice Ao25 t138.length co25) := (blk_cell BK144.out 3).trans rfl
                                            have hcz123_4 : wc.cell? ⟨gb144, 4, none⟩ = some (.bool t141) := (blk_cell BK144.out 4).trans rfl
                                            have hfz123_0 := blk_frozen BK144.out 0
                                            have hfz123_1 := blk_frozen BK144.out 1
                                            have hfz123_2 := blk_frozen BK144.out 2
                                            have hfz123_3 := blk_frozen BK144.out 3
                                            have hfz123_4 := blk_frozen BK144.out 4
                                            go_wp2
                                            go_ret
                                            exact ⟨by first | rfl | (simp [errW_none, errW_some] <;> rfl) | (simp only [← hji8]; first | rfl | (simp [errW_none, errW_some] <;> rfl)) | (simp [*, errW_none, errW_some] <;> rfl), by repeat (first | (with_reducible first | exact HB.out | apply below_alloc | apply pw_below_drewN | apply below_drew1 | refine below_set ?_ GE144.out | refine below_set ?_ GE145.out) | exact HB.out)⟩
                                      · rw [if_neg c104] at H
                                        have c104b0 : (t141 == (a0 == 1)) = false := by simpa using c104
                                        (try (have c104b1 : decide (t141 = (a0 == 1)) = false := by simpa using c104))
                                        (try (have c104b2 : (t141 == (a0 == 1)) = false := by simpa using c104))
                                        (try (have c104b3 : ¬ (t141 = (a0 == 1)) := by simpa using c104))
                                        clear c104
                                        obtain rfl := Option.some.inj H
                                        have hnb124 := NB145_144.out
                                        have hnc124 := NB144_145.out
                                        have hcz125_0 : wc.cell? ⟨gb145, 0, none⟩ = some (.int .i64 t142) := (blk_cell BK145.out 0).trans rfl
                                        have hcz125_1 : wc.cell? ⟨gb145, 1, none⟩ = some (.int .i64 t143) := (blk_cell BK145.out 1).trans rfl
                                        have hfz125_0 := blk_frozen BK145.out 0
                                        have hfz125_1 := blk_frozen BK145.out 1
                                        have hcz126_0 : wc.cell? ⟨gb144, 0, none⟩ = some (.slice Ao21 t131.length co21) := (blk_cell BK144.out 0).trans rfl
                                        have hcz126_1 : wc.cell? ⟨gb144, 1, none⟩ = some (.slice Ao24 t134.length co24) := (blk_cell BK144.out 1).trans rfl
                                        have hcz126_2 : wc.cell? ⟨gb144, 2, none⟩ = some (.string t137) := (blk_cell BK144.out 2).trans rfl
                                        have hcz126_3 : wc.cell? ⟨gb144, 3, none⟩ = some (.slice Ao25 t138.length co25) := (blk_cell BK144.out 3).trans rfl
                                        have hcz126_4 : wc.cell? ⟨gb144, 4, none⟩ = some (.bool t141) := (blk_cell BK144.out 4).trans rfl
                                        have hfz126_0 := blk_frozen BK144.out 0
                                        have hfz126_1 := blk_frozen BK144.out 1
                                        have hfz126_2 := blk_frozen BK144.out 2
                                        have hfz126_3 := blk_frozen BK144.out 3
                                        have hfz126_4 := blk_frozen BK144.out 4
                                        go_wp2
                                        go_ret
                                        exact ⟨by first | rfl | (simp [errW_none, errW_some] <;> rfl) | (simp only [← hji8]; first | rfl | (simp [errW_none, errW_some] <;> rfl)) | (simp [*, errW_none, errW_some] <;> rfl), by repeat (first | (with_reducible first | exact HB.out | apply below_alloc | apply pw_below_drewN | apply below_drew1 | refine below_set ?_ GE144.out | refine below_set ?_ GE145.out) | exact HB.out)⟩
                                    · rw [if_neg c103] at H
                                      have c103b0 : ((rdOf ByteArray.empty y127 (ji8)).toList == ([100, 101, 102, 97, 117, 108, 116, 32, 97, 108, 108, 111, 119, 59] : List UInt8)) = false := beq_eq_false_iff_ne.mpr c103
                                      have c103b1 : ((rdOf ByteArray.empty y127 (ji8)).toList != ([100, 101, 102, 97, 117, 108, 116, 32, 97, 108, 108, 111, 119, 59] : List UInt8)) = true := bne_iff_ne.mpr c103
                                      by_cases c127 : (t141 == false) = true
                                      · rw [if_pos c127] at H
                                        have c127b0 : (t141 == false) = true := c127
                                        (try (have c127b1 : decide (t141 = false) = true := by simpa using c127))
                                        (try (have c127b2 : (t141 == false) = true := by simpa using c127))
                                        clear c127
                                        by_cases c128 : (rdOf ByteArray.empty y127 (ji8)).toList = ([109, 105, 120, 101, 100, 32, 97, 108, 108, 111, 119, 59] : List UInt8)
                                        · rw [if_pos c128] at H
                                          have c128b0 : ((rdOf ByteArray.empty y127 (ji8)).toList == ([109, 105, 120, 101, 100, 32, 97, 108, 108, 111, 119, 59] : List UInt8)) = true := beq_iff_eq.mpr c128
                                          have c128b1 : ((rdOf ByteArray.empty y127 (ji8)).toList != ([109, 105, 120, 101, 100, 32, 97, 108, 108, 111, 119, 59] : List UInt8)) = false := bne_eq_false_iff_eq.mpr c128
                                          clear c128
                                          by_cases c129 : ((t137.toList == ([97, 108, 108, 111, 119] : List UInt8)) == (a0 == 1)) = true
                                          · rw [if_pos c129] at H
                                            have c129b0 : ((t137.toList == ([97, 108, 108, 111, 119] : List UInt8)) == (a0 == 1)) = true := c129
                                            (try (have c129b1 : decide ((t137.toList == ([97, 108, 108, 111, 119] : List UInt8)) = (a0 == 1)) = true := by simpa using c129))
                                            (try (have c129b2 : ((t137.toList == ([97, 108, 108, 111, 119] : List UInt8)) == (a0 == 1)) = true := by simpa using c129))
                                            clear c129
                                            replace H := Option.bind_eq_some_iff.mp H
                                            obtain ⟨t154, A1300, H⟩ := H
                                            replace H : (some t154) = some r := H
                                            have A130 := Aside0.mk A1300
                                            clear A1300
                                            obtain rfl := Option.some.inj H
                                            have hnb131 := NB145_144.out
                                            have hnc131 := NB144_145.out
                                            have hcz132_0 : wc.cell? ⟨gb145, 0, none⟩ = some (.int .i64 t142) := (blk_cell BK145.out 0).trans rfl
                                            have hcz132_1 : wc.cell? ⟨gb145, 1, none⟩ = some (.int .i64 t143) := (blk_cell BK145.out 1).trans rfl
                                            have hfz132_0 := blk_frozen BK145.out 0
                                            have hfz132_1 := blk_frozen BK145.out 1
                                            have hcz133_0 : wc.cell? ⟨gb144, 0, none⟩ = some (.slice Ao21 t131.length co21) := (blk_cell BK144.out 0).trans rfl
                                            have hcz133_1 : wc.cell? ⟨gb144, 1, none⟩ = some (.slice Ao24 t134.length co24) := (blk_cell BK144.out 1).trans rfl
                                            have hcz133_2 : wc.cell? ⟨gb144, 2, none⟩ = some (.string t137) := (blk_cell BK144.out 2).trans rfl
                                            have hcz133_3 : wc.cell? ⟨gb144, 3, none⟩ = some (.slice Ao25 t138.length co25) := (blk_cell BK144.out 3).trans rfl
                                            have hcz133_4 : wc.cell? ⟨gb144, 4, none⟩ = some (.bool t141) := (blk_cell BK144.out 4).trans rfl
                                            have hfz133_0 := blk_frozen BK144.out 0
                                            have hfz133_1 := blk_frozen BK144.out 1
                                            have hfz133_2 := blk_frozen BK144.out 2
                                            have hfz133_3 := blk_frozen BK144.out 3
                                            have hfz133_4 := blk_frozen BK144.out 4
                                            go_wp2_with (first | (go_at_call 11; (with_reducible refine (parapetlaw20_awake.calls kj27  t154 _ ?side1 A130.out).mono ?_); (case side1 => (first | (with_reducible exact HLD.out) | exact Laid.below HLD.out (by repeat (first | (with_reducible first | exact HB.out | apply below_alloc | apply pw_below_drewN | apply below_drew1 | refine below_set ?_ GE144.out | refine below_set ?_ GE145.out) | exact HB.out)))); rintro e w134 ⟨rfl, hb⟩; have n0_ := Aside0.mk (Kd.R_below (by (with_reducible repeat (first | apply Kd.R_alloc | apply Kd.R_drewN | apply Kd.R_drew)); exact HO_145000.out) hb); have n1_ := Aside0.mk (Kd.R_below (by (with_reducible repeat (first | apply Kd.R_alloc | apply Kd.R_drewN | apply Kd.R_drew)); exact HO_145001.out) hb); have n2_ := Aside0.mk (Kd.R_below (by (with_reducible repeat (first | apply Kd.R_alloc | apply Kd.R_drewN | apply Kd.R_drew)); exact HO_145003.out) hb); have n3_ := Aside0.mk (blk_below (g := gb144) (o := .cells #[.slice Ao21 t131.length co21, .slice Ao24 t134.length co24, .string t137, .slice Ao25 t138.length co25, .bool t141] 27 (0, 0)) (by (with_reducible repeat (first | refine blk_drewN ?_ _ | refine blk_drew ?_ | refine blk_alloc ?_ _)); exact BK144.out) hb); have n4_ := Aside0.mk (blk_below (g := gb145) (o := .cells #[.int .i64 t142, .int .i64 t143] 30 (0, 0)) (by (with_reducible repeat (first | refine blk_drewN ?_ _ | refine blk_drew ?_ | refine blk_alloc ?_ _)); exact BK145.out) hb); have n5_ := Aside0.mk (below_step (by repeat (first | (with_reducible first | exact HB.out | apply below_alloc | apply pw_below_drewN | apply below_drew1 | refine below_set ?_ GE144.out | refine below_set ?_ GE145.out) | exact HB.out)) hb); clear HO_145000; clear HO_145001; clear HO_145003; clear BK144; clear BK145; clear HB; have HO_145000 := n0_; have HO_145001 := n1_; have HO_145003 := n2_; have BK144 := n3_; have BK145 := n4_; have HB := n5_; clear n0_ n1_ n2_ n3_ n4_ n5_; (try clear hb); (try clear hb2); (try clear hk); (try clear hi)))
                                            go_ret
                                            exact ⟨by first | rfl | (simp [errW_none, errW_some] <;> rfl) | (simp only [← hji8]; first | rfl | (simp [errW_none, errW_some] <;> rfl)) | (simp [*, errW_none, errW_some] <;> rfl), by repeat (first | (with_reducible first | exact HB.out | apply below_alloc | apply pw_below_drewN | apply below_drew1 | refine below_set ?_ GE144.out | refine below_set ?_ GE145.out) | exact HB.out)⟩
                                          · rw [if_neg c129] at H
                                            have c129b0 : ((t137.toList == ([97, 108, 108, 111, 119] : List UInt8)) == (a0 == 1)) = false := by simpa using c129
                                            (try (have c129b1 : decide ((t137.toList == ([97, 108, 108, 111, 119] : List UInt8)) = (a0 == 1)) = false := by simpa using c129))
                                            (try (have c129b2 : ((t137.toList == ([97, 108, 108, 111, 119] : List UInt8)) == (a0 == 1)) = false := by simpa using c129))
                                            (try (have c129b3 : ¬ ((t137.toList == ([97, 108, 108, 111, 119] : List UInt8)) = (a0 == 1)) := by simpa using c129))
                                            clear c129
                                            obtain rfl := Option.some.inj H
                                            have hnb135 := NB145_144.out
                                            have hnc135 := NB144_145.out
                                            have hcz136_0 : wc.cell? ⟨gb145, 0, none⟩ = some (.int .i64 t142) := (blk_cell BK145.out 0).trans rfl
                                            have hcz136_1 : wc.cell? ⟨gb145, 1, none⟩ = some (.int .i64 t143) := (blk_cell BK145.out 1).trans rfl
                                            have hfz136_0 := blk_frozen BK145.out 0
                                            have hfz136_1 := blk_frozen BK145.out 1
                                            have hcz137_0 : wc.cell? ⟨gb144, 0, none⟩ = some (.slice Ao21 t131.length co21) := (blk_cell BK144.out 0).trans rfl
                                            have hcz137_1 : wc.cell? ⟨gb144, 1, none⟩ = some (.slice Ao24 t134.length co24) := (blk_cell BK144.out 1).trans rfl
                                            have hcz137_2 : wc.cell? ⟨gb144, 2, none⟩ = some (.string t137) := (blk_cell BK144.out 2).trans rfl
                                            have hcz137_3 : wc.cell? ⟨gb144, 3, none⟩ = some (.slice Ao25 t138.length co25) := (blk_cell BK144.out 3).trans rfl
                                            have hcz137_4 : wc.cell? ⟨gb144, 4, none⟩ = some (.bool t141) := (blk_cell BK144.out 4).trans rfl
                                            have hfz137_0 := blk_frozen BK144.out 0
                                            have hfz137_1 := blk_frozen BK144.out 1
                                            have hfz137_2 := blk_frozen BK144.out 2
                                            have hfz137_3 := blk_frozen BK144.out 3
                                            have hfz137_4 := blk_frozen BK144.out 4
                                            go_wp2
                                            go_ret
                                            exact ⟨by first | rfl | (simp [errW_none, errW_some] <;> rfl) | (simp only [← hji8]; first | rfl | (simp [errW_none, errW_some] <;> rfl)) | (simp [*, errW_none, errW_some] <;> rfl), by repeat (first | (with_reducible first | exact HB.out | apply below_alloc | apply pw_below_drewN | apply below_drew1 | refine below_set ?_ GE144.out | refine below_set ?_ GE145.out) | exact HB.out)⟩
                                        · rw [if_neg c128] at H
                                          have c128b0 : ((rdOf ByteArray.empty y127 (ji8)).toList == ([109, 105, 120, 101, 100, 32, 97, 108, 108, 111, 119, 59] : List UInt8)) = false := beq_eq_false_iff_ne.mpr c128
                                          have c128b1 : ((rdOf ByteArray.empty y127 (ji8)).toList != ([109, 105, 120, 101, 100, 32, 97, 108, 108, 111, 119, 59] : List UInt8)) = true := bne_iff_ne.mpr c128
                                          by_cases c138 : ((t137.toList == ([97, 108, 108, 111, 119] : List UInt8)) == false) = true
                                          · rw [if_pos c138] at H
                                            have c138b0 : ((t137.toList == ([97, 108, 108, 111, 119] : List UInt8)) == false) = true := c138
                                            (try (have c138b1 : decide ((t137.toList == ([97, 108, 108, 111, 119] : List UInt8)) = false) = true := by simpa using c138))
                                            (try (have c138b2 : ((t137.toList == ([97, 108, 108, 111, 119] : List UInt8)) == false) = true := by simpa using c138))
                                            clear c138
                                            replace H := Option.bind_eq_some_iff.mp H
                                            obtain ⟨t155, A1390, H⟩ := H
                                            replace H : (some t155) = some r := H
                                            have A139 := Aside0.mk A1390
                                            clear A1390
                                            obtain rfl := Option.some.inj H
                                            have hnb140 := NB145_144.out
                                            have hnc140 := NB144_145.out
                                            have hcz141_0 : wc.cell? ⟨gb145, 0, none⟩ = some (.int .i64 t142) := (blk_cell BK145.out 0).trans rfl
                                            have hcz141_1 : wc.cell? ⟨gb145, 1, none⟩ = some (.int .i64 t143) := (blk_cell BK145.out 1).trans rfl
                                            have hfz141_0 := blk_frozen BK145.out 0
                                            have hfz141_1 := blk_frozen BK145.out 1
                                            have hcz142_0 : wc.cell? ⟨gb144, 0, none⟩ = some (.slice Ao21 t131.length co21) := (blk_cell BK144.out 0).trans rfl
                                            have hcz142_1 : wc.cell? ⟨gb144, 1, none⟩ = some (.slice Ao24 t134.length co24) := (blk_cell BK144.out 1).trans rfl
                                            have hcz142_2 : wc.cell? ⟨gb144, 2, none⟩ = some (.string t137) := (blk_cell BK144.out 2).trans rfl
                                            have hcz142_3 : wc.cell? ⟨gb144, 3, none⟩ = some (.slice Ao25 t138.length co25) := (blk_cell BK144.out 3).trans rfl
                                            have hcz142_4 : wc.cell? ⟨gb144, 4, none⟩ = some (.bool t141) := (blk_cell BK144.out 4).trans rfl
                                            have hfz142_0 := blk_frozen BK144.out 0
                                            have hfz142_1 := blk_frozen BK144.out 1
                                            have hfz142_2 := blk_frozen BK144.out 2
                                            have hfz142_3 := blk_frozen BK144.out 3
                                            have hfz142_4 := blk_frozen BK144.out 4
                                            go_wp2_with (first | (go_at_call 11; (with_reducible refine (parapetlaw20_awake.calls kj27  t155 _ ?side1 A139.out).mono ?_); (case side1 => (first | (with_reducible exact HLD.out) | exact Laid.below HLD.out (by repeat (first | (with_reducible first | exact HB.out | apply below_alloc | apply pw_below_drewN | apply below_drew1 | refine below_set ?_ GE144.out | refine below_set ?_ GE145.out) | exact HB.out)))); rintro e w143 ⟨rfl, hb⟩; have n0_ := Aside0.mk (Kd.R_below (by (with_reducible repeat (first | apply Kd.R_alloc | apply Kd.R_drewN | apply Kd.R_drew)); exact HO_145000.out) hb); have n1_ := Aside0.mk (Kd.R_below (by (with_reducible repeat (first | apply Kd.R_alloc | apply Kd.R_drewN | apply Kd.R_drew)); exact HO_145001.out) hb); have n2_ := Aside0.mk (Kd.R_below (by (with_reducible repeat (first | apply Kd.R_alloc | apply Kd.R_drewN | apply Kd.R_drew)); exact HO_145003.out) hb); have n3_ := Aside0.mk (blk_below (g := gb144) (o := .cells #[.slice Ao21 t131.length co21, .slice Ao24 t134.length co24, .string t137, .slice Ao25 t138.length co25, .bool t141] 27 (0, 0)) (by (with_reducible repeat (first | refine blk_drewN ?_ _ | refine blk_drew ?_ | refine blk_alloc ?_ _)); exact BK144.out) hb); have n4_ := Aside0.mk (blk_below (g := gb145) (o := .cells #[.int .i64 t142, .int .i64 t143] 30 (0, 0)) (by (with_reducible repeat (first | refine blk_drewN ?_ _ | refine blk_drew ?_ | refine blk_alloc ?_ _)); exact BK145.out) hb); have n5_ := Aside0.mk (below_step (by repeat (first | (with_reducible first | exact HB.out | apply below_alloc | apply pw_below_drewN | apply below_drew1 | refine below_set ?_ GE144.out | refine below_set ?_ GE145.out) | exact HB.out)) hb); clear HO_145000; clear HO_145001; clear HO_145003; clear BK144; clear BK145; clear HB; have HO_145000 := n0_; have HO_145001 := n1_; have HO_145003 := n2_; have BK144 := n3_; have BK145 := n4_; have HB := n5_; clear n0_ n1_ n2_ n3_ n4_ n5_; (try clear hb); (try clear hb2); (try clear hk); (try clear hi)))
                                            go_ret
                                            exact ⟨by first | rfl | (simp [errW_none, errW_some] <;> rfl) | (simp only [← hji8]; first | rfl | (simp [errW_none, errW_some] <;> rfl)) | (simp [*, errW_none, errW_some] <;> rfl), by repeat (first | (with_reducible first | exact HB.out | apply below_alloc | apply pw_below_drewN | apply below_drew1 | refine below_set ?_ GE144.out | refine below_set ?_ GE145.out) | exact HB.out)⟩
                                          · rw [if_neg c138] at H
                                            have c138b0 : ((t137.toList == ([97, 108, 108, 111, 119] : List UInt8)) == false) = false := by simpa using c138
                                            (try (have c138b1 : decide ((t137.toList == ([97, 108, 108, 111, 119] : List UInt8)) = false) = false := by simpa using c138))
                                            (try (have c138b2 : ((t137.toList == ([97, 108, 108, 111, 119] : List UInt8)) == false) = false := by simpa using c138))
                                            (try (have c138b3 : ¬ ((t137.toList == ([97, 108, 108, 111, 119] : List UInt8)) = false) := by simpa using c138))
                                            clear c138
                                            obtain rfl := Option.some.inj H
                                            have hnb144 := NB145_144.out
                                            have hnc144 := NB144_145.out
                                            have hcz145_0 : wc.cell? ⟨gb145, 0, none⟩ = some (.int .i64 t142) := (blk_cell BK145.out 0).trans rfl
                                            have hcz145_1 : wc.cell? ⟨gb145, 1, none⟩ = some (.int .i64 t143) := (blk_cell BK145.out 1).trans rfl
                                            have hfz145_0 := blk_frozen BK145.out 0
                                            have hfz145_1 := blk_frozen BK145.out 1
                                            have hcz146_0 : wc.cell? ⟨gb144, 0, none⟩ = some (.slice Ao21 t131.length co21) := (blk_cell BK144.out 0).trans rfl
                                            have hcz146_1 : wc.cell? ⟨gb144, 1, none⟩ = some (.slice Ao24 t134.length co24) := (blk_cell BK144.out 1).trans rfl
                                            have hcz146_2 : wc.cell? ⟨gb144, 2, none⟩ = some (.string t137) := (blk_cell BK144.out 2).trans rfl
                                            have hcz146_3 : wc.cell? ⟨gb144, 3, none⟩ = some (.slice Ao25 t138.length co25) := (blk_cell BK144.out 3).trans rfl
                                            have hcz146_4 : wc.cell? ⟨gb144, 4, none⟩ = some (.bool t141) := (blk_cell BK144.out 4).trans rfl
                                            have hfz146_0 := blk_frozen BK144.out 0
                                            have hfz146_1 := blk_frozen BK144.out 1
                                            have hfz146_2 := blk_frozen BK144.out 2
                                            have hfz146_3 := blk_frozen BK144.out 3
                                            have hfz146_4 := blk_frozen BK144.out 4
                                            go_wp2
                                            go_ret
                                            exact ⟨by first | rfl | (simp [errW_none, errW_some] <;> rfl) | (simp only [← hji8]; first | rfl | (simp [errW_none, errW_some] <;> rfl)) | (simp [*, errW_none, errW_some] <;> rfl), by repeat (first | (with_reducible first | exact HB.out | apply below_alloc | apply pw_below_drewN | apply below_drew1 | refine below_set ?_ GE144.out | refine below_set ?_ GE145.out) | exact HB.out)⟩
                                      · rw [if_neg c127] at H
                                        have c127b0 : (t141 == false) = false := by simpa using c127
                                        (try (have c127b1 : decide (t141 = false) = false := by simpa using c127))
                                        (try (have c127b2 : (t141 == false) = false := by simpa using c127))
                                        (try (have c127b3 : ¬ (t141 = false) := by simpa using c127))
                                        clear c127
                                        obtain rfl := Option.some.inj H
                                        have hnb147 := NB145_144.out
                                        have hnc147 := NB144_145.out
                                        have hcz148_0 : wc.cell? ⟨gb145, 0, none⟩ = some (.int .i64 t142) := (blk_cell BK145.out 0).trans rfl
                                        have hcz148_1 : wc.cell? ⟨gb145, 1, none⟩ = some (.int .i64 t143) := (blk_cell BK145.out 1).trans rfl
                                        have hfz148_0 := blk_frozen BK145.out 0
                                        have hfz148_1 := blk_frozen BK145.out 1
                                        have hcz149_0 : wc.cell? ⟨gb144, 0, none⟩ = some (.slice Ao21 t131.length co21) := (blk_cell BK144.out 0).trans rfl
                                        have hcz149_1 : wc.cell? ⟨gb144, 1, none⟩ = some (.slice Ao24 t134.length co24) := (blk_cell BK144.out 1).trans rfl
                                        have hcz149_2 : wc.cell? ⟨gb144, 2, none⟩ = some (.string t137) := (blk_cell BK144.out 2).trans rfl
                                        have hcz149_3 : wc.cell? ⟨gb144, 3, none⟩ = some (.slice Ao25 t138.length co25) := (blk_cell BK144.out 3).trans rfl
                                        have hcz149_4 : wc.cell? ⟨gb144, 4, none⟩ = some (.bool t141) := (blk_cell BK144.out 4).trans rfl
                                        have hfz149_0 := blk_frozen BK144.out 0
                                        have hfz149_1 := blk_frozen BK144.out 1
                                        have hfz149_2 := blk_frozen BK144.out 2
                                        have hfz149_3 := blk_frozen BK144.out 3
                                        have hfz149_4 := blk_frozen BK144.out 4
                                        go_wp2
                                        go_ret
                                        exact ⟨by first | rfl | (simp [errW_none, errW_some] <;> rfl) | (simp only [← hji8]; first | rfl | (simp [errW_none, errW_some] <;> rfl)) | (simp [*, errW_none, errW_some] <;> rfl), by repeat (first | (with_reducible first | exact HB.out | apply below_alloc | apply pw_below_drewN | apply below_drew1 | refine below_set ?_ GE144.out | refine below_set ?_ GE145.out) | exact HB.out)⟩
                                  · rw [if_neg c102] at H
                                    have c102b0 : ((wrap64 ((t138.length : Int) + (t131.length : Int))) == a0) = false := beq_eq_false_iff_ne.mpr c102
                                    have c102b1 : ((wrap64 ((t138.length : Int) + (t131.length : Int))) != a0) = true := bne_iff_ne.mpr c102
                                    obtain rfl := Option.some.inj H
                                    have hnb150 := NB145_144.out
                                    have hnc150 := NB144_145.out
                                    have hcz151_0 : wc.cell? ⟨gb145, 0, none⟩ = some (.int .i64 t142) := (blk_cell BK145.out 0).trans rfl
                                    have hcz151_1 : wc.cell? ⟨gb145, 1, none⟩ = some (.int .i64 t143) := (blk_cell BK145.out 1).trans rfl
                                    have hfz151_0 := blk_frozen BK145.out 0
                                    have hfz151_1 := blk_frozen BK145.out 1
                                    have hcz152_0 : wc.cell? ⟨gb144, 0, none⟩ = some (.slice Ao21 t131.length co21) := (blk_cell BK144.out 0).trans rfl
                                    have hcz152_1 : wc.cell? ⟨gb144, 1, none⟩ = some (.slice Ao24 t134.length co24) := (blk_cell BK144.out 1).trans rfl
                                    have hcz152_2 : wc.cell? ⟨gb144, 2, none⟩ = some (.string t137) := (blk_cell BK144.out 2).trans rfl
                                    have hcz152_3 : wc.cell? ⟨gb144, 3, none⟩ = some (.slice Ao25 t138.length co25) := (blk_cell BK144.out 3).trans rfl
                                    have hcz152_4 : wc.cell? ⟨gb144, 4, none⟩ = some (.bool t141) := (blk_cell BK144.out 4).trans rfl
                                    have hfz152_0 := blk_frozen BK144.out 0
                                    have hfz152_1 := blk_frozen BK144.out 1
                                    have hfz152_2 := blk_frozen BK144.out 2
                                    have hfz152_3 := blk_frozen BK144.out 3
                                    have hfz152_4 := blk_frozen BK144.out 4
                                    go_wp2
                                    go_ret
                                    exact ⟨by first | rfl | (simp [errW_none, errW_some] <;> rfl) | (simp only [← hji8]; first | rfl | (simp [errW_none, errW_some] <;> rfl)) | (simp [*, errW_none, errW_some] <;> rfl), by repeat (first | (with_reducible first | exact HB.out | apply below_alloc | apply pw_below_drewN | apply below_drew1 | refine below_set ?_ GE144.out | refine below_set ?_ GE145.out) | exact HB.out)⟩
                                · rw [if_neg c101] at H
                                  have c101b0 : (t142 == 0) = false := beq_eq_false_iff_ne.mpr c101
                                  have c101b1 : (t142 != 0) = true := bne_iff_ne.mpr c101
                                  obtain rfl := Option.some.inj H
                                  have hnb153 := NB145_144.out
                                  have hnc153 := NB144_145.out
                                  have hcz154_0 : wc.cell? ⟨gb145, 0, none⟩ = some (.int .i64 t142) := (blk_cell BK145.out 0).trans rfl
                                  have hcz154_1 : wc.cell? ⟨gb145, 1, none⟩ = some (.int .i64 t143) := (blk_cell BK145.out 1).trans rfl
                                  have hfz154_0 := blk_frozen BK145.out 0
                                  have hfz154_1 := blk_frozen BK145.out 1
                                  go_wp2
                                  go_ret
                                  exact ⟨by first | rfl | (simp [errW_none, errW_some] <;> rfl) | (simp only [← hji8]; first | rfl | (simp [errW_none, errW_some] <;> rfl)) | (simp [*, errW_none, errW_some] <;> rfl), by repeat (first | (with_reducible first | exact HB.out | apply below_alloc | apply pw_below_drewN | apply below_drew1 | refine below_set ?_ GE144.out | refine below_set ?_ GE145.out) | exact HB.out)⟩
          · rw [if_neg c10] at H
            exact absurd H (by simp)
        · rw [if_neg c9] at H
          exact absurd H (by simp)
/-- THE ONE PURE STATEMENT of parapetlaw20_ParseItems: yours. -/
def parapetlaw20_ParseItems.Pure : Prop := ∀ (a0 : Int) (a1 : Int), (Lit.int .i64 a0).wf = true → (Lit.int .i64 a1).wf = true → ∃ k, parapetlaw20_ParseItems.f k a0 a1 = some true
theorem parapetlaw20_ParseItems.walk (P : parapetlaw20_ParseItems.Pure) (a0 : Int) (a1 : Int) (w : World) (w0 : (Lit.int .i64 a0).wf = true) (w1 : (Lit.int .i64 a1).wf = true) (hL : Laid w) :
    Calls Tryd.prog 4 #[.int .i64 a0, .int .i64 a1] w fun e w' => e = .returned (.bool true) ∧ Below w.heap.size w w' := by
  obtain ⟨k, h⟩ := P a0 a1 w0 w1
  refine (parapetlaw20_ParseItems.calls k a0 a1 true w hL h).mono ?_
  rintro e w' ⟨rfl, hd⟩
  exact ⟨rfl, hd⟩
end Go.Proofs.YtngedmioeodmfaaDoor.Pr
