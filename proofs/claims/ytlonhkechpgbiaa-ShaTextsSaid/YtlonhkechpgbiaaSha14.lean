/- The walk of ShaSums. -/
import Derived.Test.YtlonhkechpgbiaaShaRow
namespace Go.Proofs.Ytlonhkechpgbiaa.Sh
open Go.RowKit Go.Proofs.Ytlonhkechpgbiaa.Pr Go.Proofs.YtlonhkechpgbiaaW.PrintWords Go.Proofs.YtlonhkechpgbiaaW.PrintLast Go.Proofs.YtlonhkechpgbiaaW.PrintMore
open Go.Proofs.Ytlonhkechpgbiaa.QT (OwnAt)
set_option linter.unusedVariables false
set_option linter.unusedSimpArgs false
theorem Parts.below {w w' : World} {A : Option Addr} {L : List (List Int)} (h : Parts w A L) (hb : Below w.heap.size w w') : Parts w' A L := fun i hi => by
  obtain ⟨ad, Ai, ci, rfl, h1, h2, h3⟩ := h i hi
  exact ⟨ad, Ai, ci, rfl, (hb.cell (World.block_lt_of_cell? w _ h1)).trans h1, h2, Kd.C_below h3 hb⟩
theorem Parts.C {w : World} {A : Option Addr} {L : List (List Int)} (h : Parts w A L) (hm : L.length ≤ 9223372036854775807) : Kd.C (Kd.slice 5 (Kd.int .u8)) w A L.length L := by
  refine ⟨rfl, hm, fun h0 => ?_⟩
  obtain ⟨ad, _, _, rfl, _⟩ := h 0 h0
  refine ⟨ad, rfl, fun j p hj => ?_⟩
  obtain ⟨hj', rfl⟩ := List.getElem?_eq_some_iff.1 hj
  obtain ⟨ad', Ai, ci, he, h1, h2, h3⟩ := h j hj'
  cases he
  have e : L.getD j [] = L[j] := by simp [List.getD_eq_getElem?_getD, hj']
  rw [e] at h1 h2 h3
  refine ⟨[_], rfl, ⟨Ai, ci, rfl, h2, h3⟩, fun i u hu => ?_⟩
  match i, hu with
  | 0, hu => cases hu; rw [show j * (Kd.slice 5 (Kd.int .u8)).sz + 0 = j by simp [Kd.slice]]; exact h1
  | i + 1, hu => simp at hu
theorem tot_flatten : ∀ L : List (List Int), L.flatten.length = tot L
  | [] => rfl
  | l :: L => by rw [List.flatten_cons, List.length_append, tot_flatten L]; rfl
theorem tot_take (L : List (List Int)) (i : Nat) : (L.take i).flatten.length ≤ tot L := by
  rw [← tot_flatten L]
  conv => rhs; rw [← List.take_append_drop i L]
  rw [List.flatten_append, List.length_append]; omega
theorem joined_l (L : List (List Int)) (hl : L.length ≤ 4611686018427387904) (ht : tot L < 140737488355328) : ∀ (m i : Nat), i + m = L.length → parapetalike_Joined.l0 (m + 1) L (L.take i).flatten i = some L.flatten
  | 0, i, h => by
    rw [parapetalike_Joined.l0, if_neg (by omega), List.take_of_length_le (by omega)]
  | m + 1, i, h => by
    have hi : i < L.length := by omega
    have e : rd_L3 L i = L[i] := by simp [rd_L3, List.getD_eq_getElem?_getD, hi]
    have et : (L.take (i + 1)).flatten = (L.take i).flatten ++ L[i] := by rw [List.take_succ_eq_append_getElem hi, List.flatten_append]; simp
    have := tot_take L (i + 1)
    rw [et, List.length_append] at this
    rw [parapetalike_Joined.l0, if_pos (by omega), if_pos (by omega), e, if_pos (by omega), ← et, show wrap64 ((i : Int) + 1) = ((i + 1 : Nat) : Int) by unfold wrap64; omega]
    exact joined_l L hl ht m (i + 1) (by omega)
theorem joined_f (L : List (List Int)) (hl : L.length ≤ 4611686018427387904) (ht : tot L < 140737488355328) : parapetalike_Joined.f (L.length + 1) L = some L.flatten :=
  joined_l L hl ht L.length 0 (by omega)
theorem joined_calls (A : Option Addr) (c : Nat) (L : List (List Int)) (w : World) (hP : Parts w A L) (hc : L.length ≤ c) (hl : L.length ≤ 4611686018427387904) (ht : tot L < 140737488355328) (n : Nat) (hn : n = L.length) (X : List Int) (hX : X = L.flatten) :
    Calls Try.prog 8 #[.slice A n c] w fun e w' => ∃ A1 c1, e = .returned (.slice A1 X.length c1) ∧ X.length ≤ c1 ∧ Kd.C (Kd.int .u8) w' A1 X.length X ∧ Below w.heap.size w w' ∧ ∀ ad, A1 = some ad → w.heap.size ≤ ad.block := by
  rw [hn, hX]
  refine (parapetalike_Joined.calls (L.length + 1) A c L L.flatten w (hP.C (by omega)) hc (joined_f L hl ht)).mono ?_
  rintro e w1 ⟨v, rfl, hR, hb⟩
  obtain ⟨A1, c1, rfl, hc1, hC1⟩ := Kd.R_reads hR
  exact ⟨A1, c1, rfl, hc1, hC1, hb, fun ad hA => by subst hA; exact Kd.R_base hR _ rfl⟩
theorem flat_bytes {L : List (List Int)} (hb : ∀ l ∈ L, ∀ x ∈ l, 0 ≤ x ∧ x ≤ 255) : ∀ x ∈ L.flatten, 0 ≤ x ∧ x ≤ 255 := fun x hx => by
  obtain ⟨l, hl, hx⟩ := List.mem_flatten.1 hx
  exact hb l hl x hx
set_option maxHeartbeats 400000 in
set_option maxRecDepth 100000 in
theorem sums_calls (A : Option Addr) (n c : Nat) (L : List (List Int)) (w : World) (hP : Parts w A L) (hn : n = L.length) (hc : n ≤ c) (hcm : c ≤ maxLen) (hb : ∀ l ∈ L, ∀ x ∈ l, 0 ≤ x ∧ x ≤ 255) (hl : L.length ≤ 1048576) (ht : tot L ≤ 1048576) :
    Calls Try.prog 3 #[.slice A n c] w fun e w' => e = .returned (.bool true) ∧ Below w.heap.size w w' := by
  have hA := fun w => awake_calls w
  have HA := Aside0.mk hA
  have HP := Aside0.mk hP
  have HB := Aside0.mk hb
  clear hA hP hb
  obtain ⟨X, hX⟩ : ∃ X, X = L.flatten := ⟨_, rfl⟩
  have hXl : X.length ≤ 1048576 := by rw [hX, tot_flatten]; exact ht
  have HX := Aside0.mk hX
  have HXb : Aside0 (∀ x ∈ X, 0 ≤ x ∧ x ≤ 255) := ⟨by rw [hX]; exact flat_bytes HB.out⟩
  have HN := Aside0.mk hn
  have hl' : n ≤ 1048576 := by omega
  clear hX hn hXl
  go_enter Try.func3, Try.ntmps3
  go_wp2_with fail
  refine (joined_calls A c L w HP.out (by rw [← HN.out]; exact hc) (by omega) (by omega) n HN.out X HX.out).mono ?_
  rintro e w1 ⟨A1, c1, rfl, hc1, hC1, hb1, _⟩
  have HP1 : Aside0 (Parts w1 A L) := ⟨HP.out.below hb1⟩
  have HW1 : Aside0 (Below w.heap.size w w1) := ⟨hb1⟩
  have HC1 := Aside0.mk hC1
  obtain ⟨m, hm⟩ : ∃ m, m = X.length := ⟨_, rfl⟩
  rw [← hm] at hc1 ⊢
  have HM := Aside0.mk hm
  clear hb1 hC1 hm
  by_cases h1 : 700 < m
  · have e1 : decide (700 < (m : Int)) = true := decide_eq_true (by omega)
    go_wp2_with fail
    refine (HA.out _).mono ?_
    rintro e w2 ⟨rfl, hb⟩
    go_wp2
    go_ret
    exact ⟨rfl, HW1.out.trans (hb.mono HW1.out.size)⟩
  have e1 : decide (700 < (m : Int)) = false := decide_eq_false (by omega)
  by_cases h2 : 50 < n
  · have e2 : decide (50 < (n : Int)) = true := decide_eq_true (by omega)
    go_wp2_with fail
    refine (HA.out _).mono ?_
    rintro e w2 ⟨rfl, hb⟩
    go_wp2
    go_ret
    exact ⟨rfl, HW1.out.trans (hb.mono HW1.out.size)⟩
  have e2 : decide (50 < (n : Int)) = false := decide_eq_false (by omega)
  obtain ⟨R1, hR1⟩ : ∃ R, R = refS X := ⟨_, rfl⟩
  have E1 := eqA R1 R1 (by rw [hR1]; exact refS_length _) (by rw [hR1]; exact refS_length _) 27 (by kernel_rfl)
  rw [decide_eq_true rfl] at E1
  have HR1 := Aside0.mk hR1
  clear hR1
  go_wp2_with fail
  refine (sumLr A c L _ HP1.out (by omega) HB.out (by omega) n HN.out R1 (by rw [HR1.out, HX.out])).mono ?_
  rintro e w2 ⟨rfl, hb2⟩
  have HC2 : Aside0 (Kd.C (Kd.int .u8) w2 A1 X.length X) := ⟨Kd.C_below HC1.out hb2⟩
  have HW2 : Aside0 (Below w.heap.size w w2) := ⟨HW1.out.trans (hb2.mono HW1.out.size)⟩
  clear hb2
  go_wp2_with fail
  refine (rsumr A1 c1 X _ HC2.out (by rw [← HM.out]; exact hc1) HXb.out (by rw [← HM.out]; omega) m HM.out R1 HR1.out).mono ?_
  rintro e w3 ⟨rfl, hb3⟩
  have HW3 : Aside0 (Below w.heap.size w w3) := ⟨HW2.out.trans (hb3.mono HW2.out.size)⟩
  clear hb3
  go_wp2_with fail
  refine (HA.out _).mono ?_
  rintro e w4 ⟨rfl, hb⟩
  go_wp2
  go_ret
  exact ⟨rfl, HW3.out.trans (hb.mono HW3.out.size)⟩
end Go.Proofs.Ytlonhkechpgbiaa.Sh
