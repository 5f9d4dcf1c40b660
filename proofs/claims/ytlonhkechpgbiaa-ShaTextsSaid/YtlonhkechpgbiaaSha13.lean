/- The walk of ShaLengths. -/
import Derived.Test.YtlonhkechpgbiaaSha12
import Derived.ChangeKeysEq
namespace Go.Proofs.Ytlonhkechpgbiaa.Sh
open Go.RowKit Go.Proofs.Ytlonhkechpgbiaa.Pr Go.Proofs.YtlonhkechpgbiaaW.PrintWords Go.Proofs.YtlonhkechpgbiaaW.PrintLast Go.Proofs.YtlonhkechpgbiaaW.PrintMore
open Go.Proofs.Ytlonhkechpgbiaa.QT (OwnAt)
set_option linter.unusedVariables false
set_option linter.unusedSimpArgs false
theorem part8 (L : List Int) (i : Nat) (hi : i < L.length) (w : World) : (part 5 (u8s L) i).run Try.prog w = .ok (.int .u8 (L.getD i 0)) w :=
  run_part_plain w (by kernel_rfl) (u8s_get L i hi)
theorem items8 (d : Nat) (X Y : List Int) (w : World) : ∀ is : List Nat, (∀ i ∈ is, i < X.length ∧ i < Y.length) → (Op.eqItems (d + 1) 5 1 (u8s X) (u8s Y) is).run Try.prog w = .ok (is.all fun i => X.getD i 0 == Y.getD i 0) w
  | [], _ => by simp [Op.eqItems]
  | i :: is, h => by
    have h1 := h i (List.mem_cons_self ..)
    have ih := items8 d X Y w is (fun j hj => h j (List.mem_cons_of_mem _ hj))
    have he := run_equalIn_int (P := Try.prog) w d 5 .u8 .u8 (X.getD i 0) (Y.getD i 0) Try.underlying5
    simp only [Op.eqItems, Sem.run_bind, Nat.mul_one, part8 X i h1.1, part8 Y i h1.2, Result.andThen_ok, he, List.all_cons]
    cases hb : (X.getD i 0 == Y.getD i 0)
    · simp
    · simpa using ih
theorem all_range (X Y : List Int) (n : Nat) (hX : X.length = n) (hY : Y.length = n) : ((List.range n).all fun i => X.getD i 0 == Y.getD i 0) = decide (X = Y) := by
  rw [Bool.eq_iff_iff, List.all_eq_true, decide_eq_true_iff]
  constructor
  · intro h
    refine List.ext_getElem (by omega) fun i h1 h2 => ?_
    have := h i (List.mem_range.2 (by omega))
    simpa [h1, h2] using this
  · rintro rfl i _
    simp
theorem eqA (X Y : List Int) (hX : X.length = 32) (hY : Y.length = 32) (t : TypeId) (ht : Try.prog.underlying t = some (.array 32 5)) (w : World) : (Op.equalIn 10000 t (.agg (u8s X)) (.agg (u8s Y))).run Try.prog w = .ok (decide (X = Y)) w := by
  obtain ⟨i0, hi, hz0, hz1, hz2⟩ := info_parts infoB
  rw [show (10000 : Nat) = 9999 + 1 from rfl, run_equalIn_array w 9999 (u8s X) (u8s Y) ht hi, show Try.prog.cellsOf 5 = 1 by kernel_rfl, items8 9998 X Y w _ (fun i hi => by have := List.mem_range.1 hi; omega), all_range X Y 32 hX hY]
theorem made8 (n : Nat) : madeCells #[.int .u8 0] n = u8s (List.replicate n 0) := by
  apply Array.ext
  · simp [madeCells, u8s]
  · intro i h1 h2
    simp [madeCells, u8s, Nat.mod_one]
theorem make8 (n : Nat) (hn : n ≤ 1048576) (w : World) : (Instr.makeSlice 23 (.int .i64 (n : Int)) (.int .i64 (n : Int))).run Try.prog w = .ok (.slice (some ⟨w.heap.size, 0, none⟩) n n) (w.alloc (.cells (u8s (List.replicate n 0)) 5)) := by
  obtain ⟨i0, hi, hz0, hz1, hz2⟩ := info_parts infoB
  have hr := run_make (P := Try.prog) w 23 5 i0 (.int .u8 0) Try.underlying23 hi hz0 .i64 .i64 n n (by omega) (by omega) (by rw [hz2]; omega) (by omega)
  rw [hr]
  simp only [Int.toNat_natCast, hz1, Nat.mul_one]
  rw [show (Value.cells (.int .u8 0)) = #[.int .u8 0] from rfl, made8]
theorem parts1 {w : World} {A : Option Addr} {n c : Nat} {l : List Int} (t : TypeId) (hC : Kd.C (Kd.int .u8) w A l.length l) (hn : n = l.length) (hc : n ≤ c) : Parts (w.alloc (.cells #[.slice A n c] t)) (some ⟨w.heap.size, 0, none⟩) [l] := by
  subst hn
  intro i hi
  have : i = 0 := by simp at hi; omega
  subst this
  exact ⟨_, A, c, rfl, blk_cell (blk_new w _) 0, hc, Kd.C_alloc hC _⟩
theorem parts2 {w : World} {A B : Option Addr} {n c m d : Nat} {l r : List Int} (t : TypeId) (hC : Kd.C (Kd.int .u8) w A l.length l) (hn : n = l.length) (hc : n ≤ c) (hC' : Kd.C (Kd.int .u8) w B r.length r) (hm : m = r.length) (hd : m ≤ d) : Parts (w.alloc (.cells #[.slice A n c, .slice B m d] t)) (some ⟨w.heap.size, 0, none⟩) [l, r] := by
  subst hn; subst hm
  intro i hi
  have : i = 0 ∨ i = 1 := by simp at hi; omega
  rcases this with rfl | rfl
  · exact ⟨_, A, c, rfl, blk_cell (blk_new w _) 0, hc, Kd.C_alloc hC _⟩
  · exact ⟨_, B, d, rfl, (by rw [add_plain]; exact blk_cell (blk_new w _) 1), hd, Kd.C_alloc hC' _⟩
theorem mem2 {P : List Int → Prop} {X Y : List Int} (hx : P X) (hy : P Y) : ∀ l ∈ [X, Y], P l := fun l hl => by
  simp at hl
  rcases hl with rfl | rfl
  · exact hx
  · exact hy
def fillL (n i : Nat) (c : Int) : List Int := List.replicate i c ++ List.replicate (n - i) 0
theorem fillL_length (n i : Nat) (c : Int) (h : i ≤ n) : (fillL n i c).length = n := by simp [fillL]; omega
theorem fillL_zero (n : Nat) (c : Int) : fillL n 0 c = List.replicate n 0 := by simp [fillL]
theorem fillL_all (n : Nat) (c : Int) : fillL n n c = List.replicate n c := by simp [fillL]
theorem fillL_set (n i : Nat) (c : Int) (h : i < n) : (fillL n i c).set i c = fillL n (i + 1) c := by
  apply List.ext_getElem
  · simp [fillL]; omega
  · intro j h1 h2
    simp only [fillL, List.getElem_set, List.getElem_append, List.length_replicate, List.getElem_replicate]
    split
    · rw [dif_pos (by omega)]
    · split
      · rw [dif_pos (by omega)]
      · rw [dif_neg (by omega)]
set_option maxHeartbeats 4000000 in
set_option maxRecDepth 100000 in
theorem lengths_calls (n m c : Int) (w : World) (hc0 : 0 ≤ c) (hc1 : c ≤ 255) : Calls Try.prog 5 #[.int .i64 n, .int .i64 m, .int .u8 c] w fun e w' => e = .returned (.bool true) ∧ Below w.heap.size w w' := by
  have hA := fun w => awake_calls w
  have HA := Aside0.mk hA
  clear hA
  by_cases h1 : n < 0
  · have e1 : decide (n < 0) = true := decide_eq_true h1
    go_enter Try.func5, Try.ntmps5
    go_wp2_with fail
    refine (HA.out _).mono ?_
    rintro e w1 ⟨rfl, hb⟩
    go_wp2
    go_ret
    exact ⟨rfl, hb⟩
  have e1 : decide (n < 0) = false := decide_eq_false h1
  by_cases h2 : 700 < n
  · have e2 : decide (700 < n) = true := decide_eq_true h2
    go_enter Try.func5, Try.ntmps5
    go_wp2_with fail
    refine (HA.out _).mono ?_
    rintro e w1 ⟨rfl, hb⟩
    go_wp2
    go_ret
    exact ⟨rfl, hb⟩
  have e2 : decide (700 < n) = false := decide_eq_false h2
  by_cases h3 : m < 0
  · have e3 : decide (m < 0) = true := decide_eq_true h3
    go_enter Try.func5, Try.ntmps5
    go_wp2_with fail
    refine (HA.out _).mono ?_
    rintro e w1 ⟨rfl, hb⟩
    go_wp2
    go_ret
    exact ⟨rfl, hb⟩
  have e3 : decide (m < 0) = false := decide_eq_false h3
  by_cases h4 : 700 < m
  · have e4 : decide (700 < m) = true := decide_eq_true h4
    go_enter Try.func5, Try.ntmps5
    go_wp2_with fail
    refine (HA.out _).mono ?_
    rintro e w1 ⟨rfl, hb⟩
    go_wp2
    go_ret
    exact ⟨rfl, hb⟩
  have e4 : decide (700 < m) = false := decide_eq_false h4
  obtain ⟨N, rfl⟩ : ∃ N : Nat, n = N := ⟨n.toNat, by omega⟩
  obtain ⟨M, rfl⟩ : ∃ M : Nat, m = M := ⟨m.toNat, by omega⟩
  go_enter Try.func5, Try.ntmps5
  have mkN := make8 N (by omega)
  have mkM := make8 M (by omega)
  go_wp2_with fail
  clear mkN mkM
  obtain ⟨ga, hga⟩ : ∃ g, g = w.heap.size := ⟨_, rfl⟩
  obtain ⟨gb, hgb⟩ : ∃ g, g = w.heap.size + 1 := ⟨_, rfl⟩
  obtain ⟨w1, hw1⟩ : ∃ w1, w1 = (w.alloc (.cells (u8s (List.replicate N 0)) 5)).alloc (.cells (u8s (List.replicate M 0)) 5) := ⟨_, rfl⟩
  rw [← hgb, ← hga, ← hw1]
  have HX : Aside0 (ArrB w1 ga 5 (fillL N 0 c)) := ⟨by rw [hw1, hga, fillL_zero]; exact blk_alloc (blk_new _ _) _⟩
  have HY : Aside0 (ArrB w1 gb 5 (fillL M 0 c)) := ⟨by rw [hw1, hgb, fillL_zero]; exact blk_at _ (by simp)⟩
  have HW : Aside0 (Below w.heap.size w w1) := ⟨by rw [hw1]; exact below_alloc (below_alloc (Below.refl _ _) _) _⟩
  have HAB : Aside0 (ga ≠ gb) := ⟨by omega⟩
  have HGA : Aside0 (w.heap.size ≤ ga) := ⟨by omega⟩
  have HGB : Aside0 (w.heap.size ≤ gb) := ⟨by omega⟩
  clear hga hgb hw1
  go_loopg [9] N (fun gk v9 wr => ∃ (i : Nat), v9 = .int .i64 i ∧ Aside0 (i ≤ N) ∧ Aside0 (N - i ≤ gk) ∧ Aside0 (ArrB wr ga 5 (fillL N i c)) ∧ Aside0 (ArrB wr gb 5 (fillL M 0 c)) ∧ Aside0 (Below w.heap.size w wr))
  case atStart => exact ⟨0, rfl, ⟨by omega⟩, ⟨by omega⟩, HX, HY, HW⟩
  case round =>
    clear HX HY HW
    obtain ⟨i, rfl, Hi, HG, HX, HY, HW⟩ := hrel
    have hi := Hi.out
    by_cases hlt : i < N
    · have l1 : decide (i < N) = true := decide_eq_true hlt
      have z1 : (i : Int) < (N : Int) := by omega
      have m1 := HX.out.fr i
      have m0 := HX.out.cell i (by rw [fillL_length _ _ _ (Nat.le_of_lt hlt)]; exact hlt)
      have a1 : (⟨ga, 0, none⟩ : Addr).add i = ⟨ga, i, none⟩ := add_plain _ _
      go_wp2
      go_roundg (N - (i + 1))
      case measure => have := HG.out; omega
      case rel =>
        refine ⟨i + 1, by go_num, ⟨by omega⟩, ⟨Nat.le_refl _⟩, ⟨?_⟩, ⟨blk_far HY.out (Ne.symm HAB.out) _⟩, ⟨HW.out.setCell HGA.out _⟩⟩
        rw [← fillL_set N i c hlt]
        exact ArrB.set HX.out _ _
    · have l1 : decide (i < N) = false := decide_eq_false hlt
      have hiN : i = N := by omega
      subst hiN
      clear hlt l1 hi Hi HG
      go_wp2
      obtain ⟨wo, hwo⟩ : ∃ wo : World, wo = wr := ⟨_, rfl⟩
      subst hwo
      go_loopg [10] M (fun gk v10 wr => ∃ (k : Nat), v10 = .int .i64 k ∧ Aside0 (k ≤ M) ∧ Aside0 (M - k ≤ gk) ∧ Aside0 (ArrB wr ga 5 (fillL i i c)) ∧ Aside0 (ArrB wr gb 5 (fillL M k c)) ∧ Aside0 (Below w.heap.size w wr))
      case atStart => exact ⟨0, rfl, ⟨by omega⟩, ⟨by omega⟩, HX, HY, HW⟩
      case round =>
        clear HX HY HW
        obtain ⟨k, rfl, Hk, HG, HX, HY, HW⟩ := hrel
        have hk := Hk.out
        by_cases hlt : k < M
        · have l1 : decide (k < M) = true := decide_eq_true hlt
          have z1 : (k : Int) < (M : Int) := by omega
          have m1 := HY.out.fr k
          have m0 := HY.out.cell k (by rw [fillL_length _ _ _ (Nat.le_of_lt hlt)]; exact hlt)
          have a1 : (⟨gb, 0, none⟩ : Addr).add k = ⟨gb, k, none⟩ := add_plain _ _
          go_wp2
          go_roundg (M - (k + 1))
          case measure => have := HG.out; omega
          case rel =>
            refine ⟨k + 1, by go_num, ⟨by omega⟩, ⟨Nat.le_refl _⟩, ⟨blk_far HX.out HAB.out _⟩, ⟨?_⟩, ⟨HW.out.setCell HGB.out _⟩⟩
            rw [← fillL_set M k c hlt]
            exact ArrB.set HY.out _ _
        · have l1 : decide (k < M) = false := decide_eq_false hlt
          have hkM : k = M := by omega
          subst hkM
          clear hlt l1 hk Hk HG
          rw [fillL_all] at HX HY
          obtain ⟨X, hX⟩ : ∃ X, X = List.replicate i c := ⟨_, rfl⟩
          obtain ⟨Y, hY⟩ : ∃ Y, Y = List.replicate k c := ⟨_, rfl⟩
          rw [← hX] at HX
          rw [← hY] at HY
          obtain ⟨R1, hR1⟩ : ∃ R, R = refS X := ⟨_, rfl⟩
          obtain ⟨R2, hR2⟩ : ∃ R, R = refS (X ++ Y) := ⟨_, rfl⟩
          obtain ⟨R3, hR3⟩ : ∃ R, R = refS Y := ⟨_, rfl⟩
          have hXl : X.length = i := by rw [hX]; simp
          have hYl : Y.length = k := by rw [hY]; simp
          have hXb : ∀ x ∈ X, 0 ≤ x ∧ x ≤ 255 := by rw [hX]; intro x hx; obtain rfl := List.eq_of_mem_replicate hx; exact ⟨hc0, hc1⟩
          have hYb : ∀ x ∈ Y, 0 ≤ x ∧ x ≤ 255 := by rw [hY]; intro x hx; obtain rfl := List.eq_of_mem_replicate hx; exact ⟨hc0, hc1⟩
          have hXY : Y ++ X = X ++ Y := by rw [hX, hY, List.replicate_append_replicate, List.replicate_append_replicate, Nat.add_comm]
          have HXl := Aside0.mk hXl
          have HYl := Aside0.mk hYl
          have HXb := Aside0.mk hXb
          have HYb := Aside0.mk hYb
          have HXY := Aside0.mk hXY
          have HR1 := Aside0.mk hR1
          have HR2 := Aside0.mk hR2
          have HR3 := Aside0.mk hR3
          have E1 := eqA R1 R1 (by rw [hR1]; exact refS_length _) (by rw [hR1]; exact refS_length _) 27 (by kernel_rfl)
          have E2 := eqA R2 R2 (by rw [hR2]; exact refS_length _) (by rw [hR2]; exact refS_length _) 27 (by kernel_rfl)
          have E3 : i = k → ∀ w, (Op.equalIn 10000 27 (.agg (u8s R1)) (.agg (u8s R3))).run Try.prog w = .ok true w := fun hik w => by
            rw [eqA R1 R3 (by rw [hR1]; exact refS_length _) (by rw [hR3]; exact refS_length _) 27 (by kernel_rfl)]
            rw [decide_eq_true (show R1 = R3 by rw [hR1, hR3, hX, hY, hik])]
          rw [decide_eq_true rfl] at E1 E2
          have HE3 := Aside0.mk E3
          clear E3 hX hY hXl hYl hXb hYb hXY hR1 hR2 hR3
          have HCX : ∀ {W : World}, ArrB W ga 5 X → Kd.C (Kd.int .u8) W (some ⟨ga, 0, none⟩) X.length X := fun h => C_blk h (fun j hj => u8s_get X j hj) (by rw [HXl.out]; omega)
          have HCY : ∀ {W : World}, ArrB W gb 5 Y → Kd.C (Kd.int .u8) W (some ⟨gb, 0, none⟩) Y.length Y := fun h => C_blk h (fun j hj => u8s_get Y j hj) (by rw [HYl.out]; omega)
          have HCX' := Aside0.mk @HCX
          have HCY' := Aside0.mk @HCY
          clear HCX HCY
          go_wp2_with fail
          refine (sumLr _ 1 [X] _ (parts1 _ (HCX'.out HX.out) HXl.out.symm (Nat.le_refl _)) (by simp) (fun l hl => by rw [List.mem_singleton.1 hl]; exact HXb.out) (by show _ ≤ _; simp [tot, HXl.out]; omega) 1 rfl R1 (by rw [HR1.out]; simp)).mono ?_
          rintro e w2 ⟨rfl, hb2⟩
          have HX2 : Aside0 (ArrB w2 ga 5 X) := ⟨blk_below (blk_alloc HX.out _) hb2⟩
          have HY2 : Aside0 (ArrB w2 gb 5 Y) := ⟨blk_below (blk_alloc HY.out _) hb2⟩
          have HW2 : Aside0 (Below w.heap.size w w2) := ⟨(HW.out.alloc HW.out.size _).trans (hb2.mono (HW.out.alloc HW.out.size _).size)⟩
          clear hb2 HX HY HW
          go_wp2_with fail
          refine (rsumr _ i X _ (HCX'.out HX2.out) (Nat.le_of_eq HXl.out) HXb.out (by rw [HXl.out]; omega) i HXl.out.symm R1 HR1.out).mono ?_
          rintro e w3 ⟨rfl, hb3⟩
          have HX3 : Aside0 (ArrB w3 ga 5 X) := ⟨blk_below HX2.out hb3⟩
          have HY3 : Aside0 (ArrB w3 gb 5 Y) := ⟨blk_below HY2.out hb3⟩
          have HW3 : Aside0 (Below w.heap.size w w3) := ⟨HW2.out.trans (hb3.mono HW2.out.size)⟩
          clear hb3 HX2 HY2 HW2
          go_wp2_with fail
          refine (sumLr _ 2 [X, Y] _ (parts2 _ (HCX'.out HX3.out) HXl.out.symm (Nat.le_refl _) (HCY'.out HY3.out) HYl.out.symm (Nat.le_refl _)) (by simp) (mem2 HXb.out HYb.out) (by show _ ≤ _; simp [tot, HXl.out, HYl.out]; omega) 2 rfl R2 (by rw [HR2.out]; simp)).mono ?_
          rintro e w4 ⟨rfl, hb4⟩
          have HX4 : Aside0 (ArrB w4 ga 5 X) := ⟨blk_below (blk_alloc HX3.out _) hb4⟩
          have HY4 : Aside0 (ArrB w4 gb 5 Y) := ⟨blk_below (blk_alloc HY3.out _) hb4⟩
          have HW4 : Aside0 (Below w.heap.size w w4) := ⟨(HW3.out.alloc HW3.out.size _).trans (hb4.mono (HW3.out.alloc HW3.out.size _).size)⟩
          clear hb4 HX3 HY3 HW3
          go_wp2_with fail
          refine (sumLr _ 2 [Y, X] _ (parts2 _ (HCY'.out HY4.out) HYl.out.symm (Nat.le_refl _) (HCX'.out HX4.out) HXl.out.symm (Nat.le_refl _)) (by simp) (mem2 HYb.out HXb.out) (by show _ ≤ _; simp [tot, HXl.out, HYl.out]; omega) 2 rfl R2 (by rw [HR2.out, ← HXY.out]; simp)).mono ?_
          rintro e w5 ⟨rfl, hb5⟩
          have HX5 : Aside0 (ArrB w5 ga 5 X) := ⟨blk_below (blk_alloc HX4.out _) hb5⟩
          have HY5 : Aside0 (ArrB w5 gb 5 Y) := ⟨blk_below (blk_alloc HY4.out _) hb5⟩
          have HW5 : Aside0 (Below w.heap.size w w5) := ⟨(HW4.out.alloc HW4.out.size _).trans (hb5.mono (HW4.out.alloc HW4.out.size _).size)⟩
          clear hb5 HX4 HY4 HW4
          by_cases hik : i = k
          · have l1 : ((i : Int) != (k : Int)) = false := by simp [hik]
            have E3 := HE3.out hik
            clear hik
            go_wp2_with fail
            refine (sumLr _ 1 [X] _ (parts1 _ (HCX'.out HX5.out) HXl.out.symm (Nat.le_refl _)) (by simp) (fun l hl => by rw [List.mem_singleton.1 hl]; exact HXb.out) (by show _ ≤ _; simp [tot, HXl.out]; omega) 1 rfl R1 (by rw [HR1.out]; simp)).mono ?_
            rintro e w6 ⟨rfl, hb6⟩
            have HY6 : Aside0 (ArrB w6 gb 5 Y) := ⟨blk_below (blk_alloc HY5.out _) hb6⟩
            have HW6 : Aside0 (Below w.heap.size w w6) := ⟨(HW5.out.alloc HW5.out.size _).trans (hb6.mono (HW5.out.alloc HW5.out.size _).size)⟩
            clear hb6 HX5 HY5 HW5
            go_wp2_with fail
            refine (sumLr _ 1 [Y] _ (parts1 _ (HCY'.out HY6.out) HYl.out.symm (Nat.le_refl _)) (by simp) (fun l hl => by rw [List.mem_singleton.1 hl]; exact HYb.out) (by show _ ≤ _; simp [tot, HYl.out]; omega) 1 rfl R3 (by rw [HR3.out]; simp)).mono ?_
            rintro e w7 ⟨rfl, hb7⟩
            have HW7 : Aside0 (Below w.heap.size w w7) := ⟨(HW6.out.alloc HW6.out.size _).trans (hb7.mono (HW6.out.alloc HW6.out.size _).size)⟩
            clear hb7 HY6 HW6
            go_wp2_with fail
            refine (HA.out _).mono ?_
            rintro e w8 ⟨rfl, hb8⟩
            have HW8 : Aside0 (Below w.heap.size w w8) := ⟨HW7.out.trans (hb8.mono HW7.out.size)⟩
            clear hb8
            go_wp2
            go_ret
            exact ⟨rfl, HW8.out⟩
          · have l1 : ((i : Int) != (k : Int)) = true := by simp; omega
            go_wp2_with fail
            refine (HA.out _).mono ?_
            rintro e w8 ⟨rfl, hb8⟩
            have HW8 : Aside0 (Below w.heap.size w w8) := ⟨HW5.out.trans (hb8.mono HW5.out.size)⟩
            clear hb8
            go_wp2
            go_ret
            exact ⟨rfl, HW8.out⟩
end Go.Proofs.Ytlonhkechpgbiaa.Sh
