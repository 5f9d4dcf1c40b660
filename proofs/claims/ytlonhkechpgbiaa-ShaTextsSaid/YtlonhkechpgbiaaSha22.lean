/- The walk of ShaTexts. -/
import Derived.Test.YtlonhkechpgbiaaSha21
namespace Go.Proofs.Ytlonhkechpgbiaa.Sh
open Go.RowKit Go.Proofs.Ytlonhkechpgbiaa.Pr Go.Proofs.YtlonhkechpgbiaaW.PrintWords Go.Proofs.YtlonhkechpgbiaaW.PrintLast Go.Proofs.YtlonhkechpgbiaaW.PrintMore
open Go.Proofs.Ytlonhkechpgbiaa.QT (OwnAt Fresh)
set_option linter.unusedVariables false
set_option linter.unusedSimpArgs false
def headL (l : List Int) (i : Nat) : List Int := l.take i ++ List.replicate (32 - i) 0
theorem prs_length (s : ByteArray) : ∀ (k : Nat) (L : List Int), prs s k = some L → L.length = 32
  | 0, L, h => by rw [prs] at h; cases h; simp
  | k + 1, L, h => by
    rw [prs] at h
    cases h1 : prs s k with
    | none => rw [h1] at h; cases h
    | some M =>
      rw [h1] at h
      have := prs_length s k M h1
      simp only [] at h
      split at h
      · cases h; simpa using this
      · cases h
theorem parsed_length (s : ByteArray) : (parsed s).1.length = 32 := by
  unfold parsed
  split
  · cases h : prs s 32 with
    | none => simp
    | some L => exact prs_length s 32 L h
  · simp
theorem headL_length (l : List Int) (i : Nat) (h : i ≤ 32) (hl : i ≤ l.length) : (headL l i).length = 32 := by simp [headL]; omega
theorem headL_set (l : List Int) (i : Nat) (h : i < 32) (hl : i < l.length) : (headL l i).set i (l.getD i 0) = headL l (i + 1) := by
  rw [headL, headL, List.set_append, if_neg (by rw [List.length_take]; omega), List.length_take, show i - min i l.length = 0 by omega, show 32 - i = (32 - (i + 1)) + 1 by omega, List.replicate_succ, List.set_cons_zero, List.take_succ_eq_append_getElem hl, List.append_assoc, List.getD_eq_getElem?_getD, List.getElem?_eq_getElem hl]
  rfl
theorem hexS_calls (g : Nat) (H : List Int) (T : ByteArray) (w : World) (hA : ArrB w g 27 H) (h32 : H.length = 32) (hb : ∀ x ∈ H, 0 ≤ x ∧ x ≤ 255) (hT : T = strOfNums (hexT H)) :
    Calls Try.prog 19 #[.slice (some ⟨g, 0, none⟩) 32 32] w fun e w' => e = .returned (.string T) ∧ Below w.heap.size w w' := by
  have q := parapetref1_Hex.calls (H.length + 1) (some ⟨g, 0, none⟩) 32 H T w (C_blk hA (fun j hj => by simp [u8s, hj]) (by omega)) (by omega) (by rw [hT]; exact hex_f H (by omega) hb)
  rw [h32] at q
  exact q
def txt11.T11 : Bool × List (List Nat × List Nat) := (true, [([], []), ([0], [0]), ([], []), ([2, 1], [2]), ([1, 3], [1, 3]), ([4, 3], [4]), ([5], [5]), ([5], [5]), ([6, 7, 5], [5, 6, 7]), ([5, 8], [5, 8]), ([9, 5], [9]), ([10], [10]), ([10], [10]), ([11, 12, 10], [10, 11, 12]), ([10, 13], [10, 13]), ([14, 10], [14]), ([15], [15]), ([15, 16], [15, 16]), ([17, 15], [17]), ([18], [18]), ([18], [18]), ([19, 20, 18], [18, 19, 20]), ([18, 21], [18, 21]), ([22, 18], [22]), ([23, 23], [23]), ([23, 24], [23, 24]), ([25, 24, 0, 1, 2, 3, 4, 5, 6, 7, 8, 9, 10, 11, 12, 13, 14, 15, 16, 17, 18, 19, 20, 21, 22, 23, 24, 25], [25])])
def txt11.B11 : List Nat := [0, 1, 0, 7, 15, 31, 63, 63, 255, 511, 1023, 2047, 2047, 8191, 16383, 32767, 65535, 131071, 262143, 524287, 524287, 2097151, 4194303, 8388607, 16777215, 33554431, 67108863]
theorem txt11.tab11 : rtab .any (opsOf Try.f7 11) = txt11.T11 := by kernel_rfl
theorem txt11.bits11 : waitsOk txt11.T11.2 txt11.B11 = true := by kernel_rfl

set_option maxHeartbeats 2000000 in
set_option maxRecDepth 100000 in
theorem texts_calls (A : Option Addr) (n c : Nat) (l : List Int) (s : ByteArray) (w : World) (hC : Kd.C (Kd.int .u8) w A l.length l) (hn : n = l.length) (hc : n ≤ c) (hb : ∀ x ∈ l, 0 ≤ x ∧ x ≤ 255) (hl : n ≤ 140737488351232) (hs : s.size ≤ 140737488351232) :
    Calls Try.prog 7 #[.slice A n c, .string s] w fun e w' => e = .returned (.bool true) ∧ Below w.heap.size w w' := by
  have hA := fun w => awake_calls w
  have HA := Aside0.mk hA
  have HC := Aside0.mk hC
  have HB := Aside0.mk hb
  have HN := Aside0.mk hn
  clear hA hC hb hn
  by_cases h1 : 700 < n
  · have e1 : decide (700 < (n : Int)) = true := decide_eq_true (by omega)
    go_enter Try.func7, Try.ntmps7
    go_wp2_with fail
    refine (HA.out _).mono ?_
    rintro e w2 ⟨rfl, hb⟩
    go_wp2
    go_ret
    exact ⟨rfl, hb⟩
  have e1 : decide (700 < (n : Int)) = false := decide_eq_false (by omega)
  by_cases h2 : 700 < s.size
  · have e2 : decide (700 < (s.size : Int)) = true := decide_eq_true (by omega)
    go_enter Try.func7, Try.ntmps7
    go_wp2_with fail
    refine (HA.out _).mono ?_
    rintro e w2 ⟨rfl, hb⟩
    go_wp2
    go_ret
    exact ⟨rfl, hb⟩
  have e2 : decide (700 < (s.size : Int)) = false := decide_eq_false (by omega)
  go_enter Try.func7, Try.ntmps7
  go_wp2_with fail
  obtain ⟨w1, hw1⟩ : ∃ w1, w1 = w.alloc (.cells (u8s (List.replicate 32 0)) 27) := ⟨_, rfl⟩
  change Code.wp _ _ _ _ (w.alloc (.cells (u8s (List.replicate 32 0)) 27))
  rw [← hw1]
  obtain ⟨gh, hgh⟩ : ∃ g, g = w.heap.size := ⟨_, rfl⟩
  rw [← hgh]
  have HAr : Aside0 (ArrB w1 gh 27 (headL l 0)) := ⟨by rw [hw1, hgh, show headL l 0 = List.replicate 32 0 by simp [headL]]; exact blk_new _ _⟩
  have HW : Aside0 (Below w.heap.size w w1) := ⟨by rw [hw1]; exact below_alloc (Below.refl _ _) _⟩
  have HGH : Aside0 (w.heap.size ≤ gh) := ⟨by omega⟩
  clear hw1 hgh
  go_loopg [6] 32 (fun gk v6 wr => ∃ (i : Nat), v6 = .int .i64 i ∧ Aside0 (i ≤ 32) ∧ Aside0 (i ≤ n) ∧ Aside0 (32 - i ≤ gk) ∧ Aside0 (ArrB wr gh 27 (headL l i)) ∧ Aside0 (Below w.heap.size w wr))
  case atStart => exact ⟨0, rfl, ⟨by omega⟩, ⟨by omega⟩, ⟨by omega⟩, HAr, HW⟩
  case round =>
    clear HAr HW
    obtain ⟨i, rfl, Hi, Hin, HG, HAr, HW⟩ := hrel
    have hi := Hi.out
    by_cases hlt : i < 32 ∧ i < n
    · have l1 : decide ((i : Int) < 32) = true := decide_eq_true (by omega)
      have l2 : decide ((i : Int) < (n : Int)) = true := decide_eq_true (by omega)
      have l2' : (i : Int) < (n : Int) := by omega
      obtain ⟨ad, hA1, hcell⟩ := Kd.at_int HC.out (i : Int) (by omega) (by rw [← HN.out]; omega)
      subst hA1
      have hc2 : wr.cell? (ad.add i) = some (.int .u8 (l.getD i 0)) := (HW.out.cell (World.block_lt_of_cell? w _ hcell)).trans hcell
      obtain ⟨x, hx⟩ : ∃ x, x = l.getD i 0 := ⟨_, rfl⟩
      rw [← hx] at hc2
      have HX := Aside0.mk hx
      have mf := HAr.out.fr i
      have m0 := HAr.out.cell i (by rw [headL_length l i Hi.out (by rw [← HN.out]; exact Hin.out)]; exact hlt.1)
      have z3 : (i : Int) < 32 := by omega
      have hlt' := Aside0.mk hlt
      clear hx hcell hlt
      go_wp2
      go_roundg (32 - (i + 1))
      case measure => have := HG.out; have := hlt'.out; omega
      case rel =>
        refine ⟨i + 1, by go_num, ⟨by have := hlt'.out; omega⟩, ⟨by have := hlt'.out; omega⟩, ⟨Nat.le_refl _⟩, ⟨?_⟩, ⟨HW.out.setCell HGH.out _⟩⟩
        rw [← headL_set l i hlt'.out.1 (by rw [← HN.out]; exact hlt'.out.2), ← HX.out]
        exact ArrB.set HAr.out _ _
    · have l0 : (decide ((i : Int) < 32) = false) ∨ (decide ((i : Int) < 32) = true ∧ decide (i < n) = false) := by
        by_cases h : i < 32
        · exact .inr ⟨decide_eq_true (by omega), decide_eq_false (by omega)⟩
        · exact .inl (decide_eq_false (by omega))
      obtain ⟨H, hH⟩ : ∃ H, H = headL l i := ⟨_, rfl⟩
      have hH32 : H.length = 32 := by rw [hH]; exact headL_length l i Hi.out (by rw [← HN.out]; exact Hin.out)
      have hHb : ∀ x ∈ H, 0 ≤ x ∧ x ≤ 255 := by
        rw [hH, headL]
        intro x hx
        rcases List.mem_append.1 hx with hx | hx
        · exact HB.out x (List.mem_of_mem_take hx)
        · rw [List.eq_of_mem_replicate hx]; decide
      rw [← hH] at HAr
      have HH32 := Aside0.mk hH32
      have HHb := Aside0.mk hHb
      clear hH hH32 hHb hlt
      have HPH : Aside0 (parsed (strOfNums (hexT H)) = (H, true)) := ⟨parsed_hex H HH32.out HHb.out⟩
      have HTS : Aside0 ((strOfNums (hexT H)).size ≤ 140737488351232) := ⟨by rw [str_size, hexT_length, HH32.out]; decide⟩
      have HGI := Aside0.mk (info32 HH32.out)
      obtain ⟨X, o, hXo⟩ : ∃ X o, parsed s = (X, o) := ⟨_, _, rfl⟩
      have HX32 : Aside0 (X.length = 32) := ⟨by have := parsed_length s; rw [hXo] at this; exact this⟩
      have HXI := Aside0.mk (info32 HX32.out)
      have HXIb := Aside0.mk (info32b HX32.out)
      have HXO := Aside0.mk hXo
      obtain ⟨T, hT⟩ : ∃ T, T = strOfNums (hexT H) := ⟨_, rfl⟩
      rw [← hT] at HPH HTS
      have HT := Aside0.mk hT
      clear hXo hT HB
      rcases l0 with l0 | ⟨l0, l0'⟩
      all_goals
        go_wp2_with fail
        refine (parse_calls s hs wr).mono ?_
        rw [HXO.out]
        rintro e w2 ⟨rfl, hb2⟩
        have HA2 : Aside0 (ArrB w2 gh 27 H) := ⟨blk_below HAr.out hb2⟩
        have HW2 : Aside0 (Below w.heap.size w w2) := ⟨HW.out.trans (hb2.mono HW.out.size)⟩
        clear hb2 HAr HW
        go_upto_region 9 with (refine wpList_store_row rfl 27 _ _ rfl w2.heap.size (u8s X) rfl rfl 27 _ (blk_new w2 _) HXI.out (by rw [u8s_size, HX32.out]; rfl) (u8s_one X) ?_)
        obtain ⟨g1, hg1⟩ : ∃ g, g = w2.heap.size := ⟨_, rfl⟩
        rw [← hg1]
        obtain ⟨w3, hw3⟩ : ∃ w3, w3 = (w2.alloc (.cells (u8s (List.replicate 32 0)) 27)).setRow g1 (u8s X) := ⟨_, rfl⟩
        change Code.wp _ _ _ _ ((w2.alloc (.cells (u8s (List.replicate 32 0)) 27)).setRow g1 (u8s X))
        rw [← hw3]
        have HX3 : Aside0 (ArrB w3 g1 27 X) := ⟨by rw [hw3, hg1]; exact setRow_heap _ _ _ _ _ _ (blk_new _ _)⟩
        have hb3 : Below w2.heap.size w2 w3 := by rw [hw3, hg1]; exact below_setRow (below_alloc (Below.refl _ _) _) (Nat.le_refl _) _
        have HA3 : Aside0 (ArrB w3 gh 27 H) := ⟨blk_below HA2.out hb3⟩
        have HW3 : Aside0 (Below w.heap.size w w3) := ⟨HW2.out.trans (hb3.mono HW2.out.size)⟩
        clear hg1 hw3 hb3 HA2 HW2
        go_wp2_with fail
        refine (phash_calls s hs w3).mono ?_
        rw [HXO.out]
        rintro e w4 ⟨rfl, hb4⟩
        have HA4 : Aside0 (ArrB w4 gh 27 H) := ⟨blk_below HA3.out hb4⟩
        have HX4 : Aside0 (ArrB w4 g1 27 X) := ⟨blk_below HX3.out hb4⟩
        have HW4 : Aside0 (Below w.heap.size w w4) := ⟨HW3.out.trans (hb4.mono HW3.out.size)⟩
        clear hb4 HA3 HX3 HW3
        go_upto_region 10 with (refine wpList_store_row rfl 26 _ _ rfl w4.heap.size (u8s X) rfl rfl 26 _ (blk_new w4 _) HXIb.out (by rw [u8s_size, HX32.out]; rfl) (u8s_one X) ?_)
        obtain ⟨g2, hg2⟩ : ∃ g, g = w4.heap.size := ⟨_, rfl⟩
        rw [← hg2]
        obtain ⟨w5, hw5⟩ : ∃ w5, w5 = (w4.alloc (.cells (u8s (List.replicate 32 0)) 26)).setRow g2 (u8s X) := ⟨_, rfl⟩
        change Code.wp _ _ _ _ ((w4.alloc (.cells (u8s (List.replicate 32 0)) 26)).setRow g2 (u8s X))
        rw [← hw5]
        have HY5 : Aside0 (ArrB w5 g2 26 X) := ⟨by rw [hw5, hg2]; exact setRow_heap _ _ _ _ _ _ (blk_new _ _)⟩
        have hb5 : Below w4.heap.size w4 w5 := by rw [hw5, hg2]; exact below_setRow (below_alloc (Below.refl _ _) _) (Nat.le_refl _) _
        have HA5 : Aside0 (ArrB w5 gh 27 H) := ⟨blk_below HA4.out hb5⟩
        have HX5 : Aside0 (ArrB w5 g1 27 X) := ⟨blk_below HX4.out hb5⟩
        have HW5 : Aside0 (Below w.heap.size w w5) := ⟨HW4.out.trans (hb5.mono HW4.out.size)⟩
        clear hg2 hw5 hb5 HA4 HX4 HW4
        go_wp2_with (refine wpList_load_row rfl 27 _ rfl gh rfl 27 (u8s H) (0, 0) _ HA5.out Try.underlying27 rfl HGI.out ?_)
        refine (text_calls H HH32.out HHb.out w5).mono ?_
        rw [← HT.out]
        rintro e w6 ⟨rfl, hb6⟩
        have HA6 : Aside0 (ArrB w6 gh 27 H) := ⟨blk_below HA5.out hb6⟩
        have HX6 : Aside0 (ArrB w6 g1 27 X) := ⟨blk_below HX5.out hb6⟩
        have HY6 : Aside0 (ArrB w6 g2 26 X) := ⟨blk_below HY5.out hb6⟩
        have HW6 : Aside0 (Below w.heap.size w w6) := ⟨HW5.out.trans (hb6.mono HW5.out.size)⟩
        clear hb6 HA5 HX5 HY5 HW5
        go_wp2_with fail
        refine (parse_calls T HTS.out w6).mono ?_
        rw [HPH.out]
        rintro e w7 ⟨rfl, hb7⟩
        have HA7 : Aside0 (ArrB w7 gh 27 H) := ⟨blk_below HA6.out hb7⟩
        have HX7 : Aside0 (ArrB w7 g1 27 X) := ⟨blk_below HX6.out hb7⟩
        have HY7 : Aside0 (ArrB w7 g2 26 X) := ⟨blk_below HY6.out hb7⟩
        have HW7 : Aside0 (Below w.heap.size w w7) := ⟨HW6.out.trans (hb7.mono HW6.out.size)⟩
        clear hb7 HA6 HX6 HY6 HW6
        go_upto_region 11 with (refine wpList_store_row rfl 27 _ _ rfl w7.heap.size (u8s H) rfl rfl 27 _ (blk_new w7 _) HGI.out (by rw [u8s_size, HH32.out]; rfl) (u8s_one H) ?_)
        obtain ⟨g3, hg3⟩ : ∃ g, g = w7.heap.size := ⟨_, rfl⟩
        rw [← hg3]
        obtain ⟨w8, hw8⟩ : ∃ w8, w8 = (w7.alloc (.cells (u8s (List.replicate 32 0)) 27)).setRow g3 (u8s H) := ⟨_, rfl⟩
        change Code.wp _ _ _ _ ((w7.alloc (.cells (u8s (List.replicate 32 0)) 27)).setRow g3 (u8s H))
        rw [← hw8]
        have HZ8 : Aside0 (ArrB w8 g3 27 H) := ⟨by rw [hw8, hg3]; exact setRow_heap _ _ _ _ _ _ (blk_new _ _)⟩
        have hb8 : Below w7.heap.size w7 w8 := by rw [hw8, hg3]; exact below_setRow (below_alloc (Below.refl _ _) _) (Nat.le_refl _) _
        have HA8 : Aside0 (ArrB w8 gh 27 H) := ⟨blk_below HA7.out hb8⟩
        have HX8 : Aside0 (ArrB w8 g1 27 X) := ⟨blk_below HX7.out hb8⟩
        have HY8 : Aside0 (ArrB w8 g2 26 X) := ⟨blk_below HY7.out hb8⟩
        have HW8 : Aside0 (Below w.heap.size w w8) := ⟨HW7.out.trans (hb8.mono HW7.out.size)⟩
        clear hg3 hw8 hb8 HA7 HX7 HY7 HW7
        have E1 := eqA X X HX32.out HX32.out 27 (by kernel_rfl)
        have E2 := eqA H H HH32.out HH32.out 27 (by kernel_rfl)
        rw [decide_eq_true rfl] at E1 E2
        go_wp2_with fail
        refine start_ (n := 27) (S := fun w' => True) (ds := []) #[false, false, false, false, false, false, false, false, false, false, false, false, false, false, false, false, false, false, false, false, false, false, false, false, false, false, false] (by kernel_rfl) rfl rfl trivial (fun hHeld => ?_)
        refine with_tabW txt11.tab11 txt11.bits11 (fun HT_ HW_ => ?_)
        have F : Aside0 (Below w8.heap.size w8 w8.drew) := ⟨below_drew (Below.refl _ _)⟩
        refine inv_at [0, 1, 2, 3, 4, 5, 6, 7, 8, 9, 10, 11, 12, 13, 14, 15, 16, 17, 18, 19, 20, 21, 22, 23, 24, 25, 26] (fun a0_ b a w' => a = putSel a0_ b [(0, 54, .agg (u8s H)), (1, 55, .string T), (2, 56, .slice (some ⟨gh, 0, none⟩) 32 32), (3, 57, .string T), (4, 58, .bool true), (5, 59, .bool true), (6, 60, .agg (u8s X)), (7, 61, .agg (u8s X)), (8, 62, .bool true), (9, 63, .bool true), (10, 64, .bool true), (11, 65, .bool o), (12, 66, .bool o), (13, 67, .bool true), (14, 68, .bool true), (15, 69, .bool true), (16, 70, .bool true), (17, 71, .bool true), (18, 72, .bool true), (19, 73, .agg (u8s H)), (20, 74, .agg (u8s H)), (21, 75, .bool true), (22, 76, .bool true), (23, 77, .bool true), (24, 78, .bool true), (25, 79, .bool true), (26, 4, .bool true)] ∧ (Below w8.heap.size w8 w')) HT_.out HW_.out (by kernel_rfl) (by kernel_rfl) ?_ ?_ ?_
        · exact ⟨by simp only [putSel, Bool.false_eq_true, if_false], F.out⟩
        · skip
          clear F
          refine steps_cons ?_ ?_
          · rintro b a w' ⟨ha, Q_F⟩ hb_ hon hoff
            refine ⟨_, rfl, fun K hK => ?_⟩
            have e5 : a.tmps[5]? = some (.pointer (some ⟨gh, 0, none⟩)) := by rw [ha]; exact (putSel_off rfl).trans rfl
            replace ha := Aside0.mk ha
            have F := Aside0.mk Q_F
            refine loadRow_ (N := some 54) (by rfl) rfl 27 _ rfl gh (eval_of e5) 27 (u8s H) (0, 0) _ (blk_below HA8.out F.out) Try.underlying27 rfl HGI.out ?_
            refine hK.out _ _ ⟨(by rw [ha.out]; exact putSel_upk 0 hb_ rfl rfl rfl), F.out⟩
          refine steps_cons ?_ ?_
          · rintro b a w' ⟨ha, Q_F⟩ hb_ hon hoff
            refine ⟨_, rfl, fun K hK => ?_⟩
            have e54 : a.tmps[54]? = some (.agg (u8s H)) := by rw [ha]; exact putSel_on (e := (0, 54, .agg (u8s H))) 0 rfl rfl (hon 0 (by kernel_rfl)) rfl
            replace ha := Aside0.mk ha
            have F := Aside0.mk Q_F
            refine goes_ (N := some 55) Try.func18 (by kernel_rfl) rfl #[.agg (u8s H)] (by rfl) rfl rfl (by first | (simp only [List.map_toArray, List.map_cons, List.map_nil, Act.eval, Array.getD_eq_getD_getElem?, Option.getD_some, e54]; done) | (simp only [List.map_toArray, List.map_cons, List.map_nil, Act.eval, Array.getD_eq_getD_getElem?, Option.getD_some, e54]; rfl)) ?_
            refine (text_calls H HH32.out HHb.out w').mono ?_
            rw [← HT.out]
            rintro e w1 ⟨rfl, hb⟩
            refine ⟨_, rfl, ?_⟩
            refine hK.out _ _ ⟨(by rw [ha.out]; exact putSel_upk 1 hb_ rfl rfl rfl), F.out.trans (hb.mono F.out.size)⟩
          refine steps_cons ?_ ?_
          · rintro b a w' ⟨ha, Q_F⟩ hb_ hon hoff
            refine ⟨_, rfl, fun K hK => ?_⟩
            have e5 : a.tmps[5]? = some (.pointer (some ⟨gh, 0, none⟩)) := by rw [ha]; exact (putSel_off rfl).trans rfl
            replace ha := Aside0.mk ha
            have F := Aside0.mk Q_F
            refine value_ (w1 := w') (v := .slice (some ⟨gh, 0, none⟩) 32 32) (by rfl) rfl ?_ ?_
            · go_simp
              (try simp only [i64_w])
              try rfl
            refine hK.out _ _ ⟨(by rw [ha.out]; exact putSel_upk 2 hb_ rfl rfl rfl), Q_F⟩
          refine steps_cons ?_ ?_
          · rintro b a w' ⟨ha, Q_F⟩ hb_ hon hoff
            refine ⟨_, rfl, fun K hK => ?_⟩
            have e56 : a.tmps[56]? = some (.slice (some ⟨gh, 0, none⟩) 32 32) := by rw [ha]; exact putSel_on (e := (2, 56, .slice (some ⟨gh, 0, none⟩) 32 32)) 2 rfl rfl (hon 2 (by kernel_rfl)) rfl
            replace ha := Aside0.mk ha
            have F := Aside0.mk Q_F
            refine goes_ (N := some 57) Try.func19 (by kernel_rfl) rfl #[.slice (some ⟨gh, 0, none⟩) 32 32] (by rfl) rfl rfl (by first | (simp only [List.map_toArray, List.map_cons, List.map_nil, Act.eval, Array.getD_eq_getD_getElem?, Option.getD_some, e56]; done) | (simp only [List.map_toArray, List.map_cons, List.map_nil, Act.eval, Array.getD_eq_getD_getElem?, Option.getD_some, e56]; rfl)) ?_
            refine (hexS_calls gh H T w' (blk_below HA8.out F.out) HH32.out HHb.out HT.out).mono ?_
            rintro e w1 ⟨rfl, hb⟩
            refine ⟨_, rfl, ?_⟩
            refine hK.out _ _ ⟨(by rw [ha.out]; exact putSel_upk 3 hb_ rfl rfl rfl), F.out.trans (hb.mono F.out.size)⟩
          refine steps_cons ?_ ?_
          · rintro b a w' ⟨ha, Q_F⟩ hb_ hon hoff
            refine ⟨_, rfl, fun K hK => ?_⟩
            have e55 : a.tmps[55]? = some (.string T) := by rw [ha]; exact putSel_on (e := (1, 55, .string T)) 1 rfl rfl (hon 1 (by kernel_rfl)) rfl
            have e57 : a.tmps[57]? = some (.string T) := by rw [ha]; exact putSel_on (e := (3, 57, .string T)) 3 rfl rfl (hon 3 (by kernel_rfl)) rfl
            replace ha := Aside0.mk ha
            have F := Aside0.mk Q_F
            refine value_ (w1 := w') (v := .bool true) (by rfl) rfl ?_ ?_
            · go_simp
              (try simp only [i64_w])
              try rfl
            refine hK.out _ _ ⟨(by rw [ha.out]; exact putSel_upk 4 hb_ rfl rfl rfl), Q_F⟩
          refine steps_cons ?_ ?_
          · rintro b a w' ⟨ha, Q_F⟩ hb_ hon hoff
            refine ⟨_, rfl, fun K hK => ?_⟩
            have e58 : a.tmps[58]? = some (.bool true) := by rw [ha]; exact putSel_on (e := (4, 58, .bool true)) 4 rfl rfl (hon 4 (by kernel_rfl)) rfl
            replace ha := Aside0.mk ha
            have F := Aside0.mk Q_F
            refine value_ (w1 := w') (v := .bool true) (by rfl) rfl ?_ ?_
            · go_simp
              (try simp only [i64_w])
              try rfl
            refine hK.out _ _ ⟨(by rw [ha.out]; exact putSel_upk 5 hb_ rfl rfl rfl), Q_F⟩
          refine steps_cons ?_ ?_
          · rintro b a w' ⟨ha, Q_F⟩ hb_ hon hoff
            refine ⟨_, rfl, fun K hK => ?_⟩
            have e7 : a.tmps[7]? = some (.pointer (some ⟨g1, 0, none⟩)) := by rw [ha]; exact (putSel_off rfl).trans rfl
            have e59 : a.tmps[59]? = some (.bool true) := by rw [ha]; exact putSel_on (e := (5, 59, .bool true)) 5 rfl rfl (hon 5 (by kernel_rfl)) rfl
            replace ha := Aside0.mk ha
            have F := Aside0.mk Q_F
            refine loadRow_ (N := some 60) (wanted_on rfl rfl rfl (e59.trans (by first | rfl | (simp [*]; done)))) rfl 27 _ rfl g1 (eval_of e7) 27 (u8s X) (0, 0) _ (blk_below HX8.out F.out) Try.underlying27 rfl HXI.out ?_
            refine hK.out _ _ ⟨(by rw [ha.out]; exact putSel_upk 6 hb_ rfl rfl rfl), F.out⟩
          refine steps_cons ?_ ?_
          · rintro b a w' ⟨ha, Q_F⟩ hb_ hon hoff
            refine ⟨_, rfl, fun K hK => ?_⟩
            have e9 : a.tmps[9]? = some (.pointer (some ⟨g2, 0, none⟩)) := by rw [ha]; exact (putSel_off rfl).trans rfl
            have e59 : a.tmps[59]? = some (.bool true) := by rw [ha]; exact putSel_on (e := (5, 59, .bool true)) 5 rfl rfl (hon 5 (by kernel_rfl)) rfl
            replace ha := Aside0.mk ha
            have F := Aside0.mk Q_F
            refine loadRow_ (N := some 61) (wanted_on rfl rfl rfl (e59.trans (by first | rfl | (simp [*]; done)))) rfl 26 _ rfl g2 (eval_of e9) 26 (u8s X) (0, 0) _ (blk_below HY8.out F.out) Try.underlying26 rfl HXIb.out ?_
            refine hK.out _ _ ⟨(by rw [ha.out]; exact putSel_upk 7 hb_ rfl rfl rfl), F.out⟩
          refine steps_cons ?_ ?_
          · rintro b a w' ⟨ha, Q_F⟩ hb_ hon hoff
            refine ⟨_, rfl, fun K hK => ?_⟩
            have e60 : a.tmps[60]? = some (.agg (u8s X)) := by rw [ha]; exact putSel_on (e := (6, 60, .agg (u8s X))) 6 rfl rfl (hon 6 (by kernel_rfl)) rfl
            have e61 : a.tmps[61]? = some (.agg (u8s X)) := by rw [ha]; exact putSel_on (e := (7, 61, .agg (u8s X))) 7 rfl rfl (hon 7 (by kernel_rfl)) rfl
            have e59 : a.tmps[59]? = some (.bool true) := by rw [ha]; exact putSel_on (e := (5, 59, .bool true)) 5 rfl rfl (hon 5 (by kernel_rfl)) rfl
            replace ha := Aside0.mk ha
            have F := Aside0.mk Q_F
            refine value_ (w1 := w') (v := .bool true) (wanted_on rfl rfl rfl (e59.trans (by first | rfl | (simp [*]; done)))) rfl ?_ ?_
            · go_simp
              (try simp only [i64_w])
              try rfl
            refine hK.out _ _ ⟨(by rw [ha.out]; exact putSel_upk 8 hb_ rfl rfl rfl), Q_F⟩
          refine steps_cons ?_ ?_
          · rintro b a w' ⟨ha, Q_F⟩ hb_ hon hoff
            refine ⟨_, rfl, fun K hK => ?_⟩
            have e59 : a.tmps[59]? = some (.bool true) := by rw [ha]; exact putSel_on (e := (5, 59, .bool true)) 5 rfl rfl (hon 5 (by kernel_rfl)) rfl
            have e62 : a.tmps[62]? = some (.bool true) := by rw [ha]; exact putSel_on (e := (8, 62, .bool true)) 8 rfl rfl (hon 8 (by kernel_rfl)) rfl
            replace ha := Aside0.mk ha
            have F := Aside0.mk Q_F
            refine value_ (w1 := w') (v := .bool true) (by rfl) rfl ?_ ?_
            · go_simp
              (try simp only [i64_w])
              try rfl
            refine hK.out _ _ ⟨(by rw [ha.out]; exact putSel_upk 9 hb_ rfl rfl rfl), Q_F⟩
          refine steps_cons ?_ ?_
          · rintro b a w' ⟨ha, Q_F⟩ hb_ hon hoff
            refine ⟨_, rfl, fun K hK => ?_⟩
            have e63 : a.tmps[63]? = some (.bool true) := by rw [ha]; exact putSel_on (e := (9, 63, .bool true)) 9 rfl rfl (hon 9 (by kernel_rfl)) rfl
            replace ha := Aside0.mk ha
            have F := Aside0.mk Q_F
            refine value_ (w1 := w') (v := .bool true) (by rfl) rfl ?_ ?_
            · go_simp
              (try simp only [i64_w])
              try rfl
            refine hK.out _ _ ⟨(by rw [ha.out]; exact putSel_upk 10 hb_ rfl rfl rfl), Q_F⟩
          refine steps_cons ?_ ?_
          · rintro b a w' ⟨ha, Q_F⟩ hb_ hon hoff
            refine ⟨_, rfl, fun K hK => ?_⟩
            have e8 : a.tmps[8]? = some (.bool o) := by rw [ha]; exact (putSel_off rfl).trans rfl
            have e64 : a.tmps[64]? = some (.bool true) := by rw [ha]; exact putSel_on (e := (10, 64, .bool true)) 10 rfl rfl (hon 10 (by kernel_rfl)) rfl
            replace ha := Aside0.mk ha
            have F := Aside0.mk Q_F
            refine value_ (w1 := w') (v := .bool o) (wanted_on rfl rfl rfl (e64.trans (by first | rfl | (simp [*]; done)))) rfl ?_ ?_
            · go_simp
              (try simp only [i64_w])
              try rfl
            refine hK.out _ _ ⟨(by rw [ha.out]; exact putSel_upk 11 hb_ rfl rfl rfl), Q_F⟩
          refine steps_cons ?_ ?_
          · rintro b a w' ⟨ha, Q_F⟩ hb_ hon hoff
            refine ⟨_, rfl, fun K hK => ?_⟩
            have e10 : a.tmps[10]? = some (.bool o) := by rw [ha]; exact (putSel_off rfl).trans rfl
            have e64 : a.tmps[64]? = some (.bool true) := by rw [ha]; exact putSel_on (e := (10, 64, .bool true)) 10 rfl rfl (hon 10 (by kernel_rfl)) rfl
            replace ha := Aside0.mk ha
            have F := Aside0.mk Q_F
            refine value_ (w1 := w') (v := .bool o) (wanted_on rfl rfl rfl (e64.trans (by first | rfl | (simp [*]; done)))) rfl ?_ ?_
            · go_simp
              (try simp only [i64_w])
              try rfl
            refine hK.out _ _ ⟨(by rw [ha.out]; exact putSel_upk 12 hb_ rfl rfl rfl), Q_F⟩
          refine steps_cons ?_ ?_
          · rintro b a w' ⟨ha, Q_F⟩ hb_ hon hoff
            refine ⟨_, rfl, fun K hK => ?_⟩
            have e65 : a.tmps[65]? = some (.bool o) := by rw [ha]; exact putSel_on (e := (11, 65, .bool o)) 11 rfl rfl (hon 11 (by kernel_rfl)) rfl
            have e66 : a.tmps[66]? = some (.bool o) := by rw [ha]; exact putSel_on (e := (12, 66, .bool o)) 12 rfl rfl (hon 12 (by kernel_rfl)) rfl
            have e64 : a.tmps[64]? = some (.bool true) := by rw [ha]; exact putSel_on (e := (10, 64, .bool true)) 10 rfl rfl (hon 10 (by kernel_rfl)) rfl
            replace ha := Aside0.mk ha
            have F := Aside0.mk Q_F
            refine value_ (w1 := w') (v := .bool true) (wanted_on rfl rfl rfl (e64.trans (by first | rfl | (simp [*]; done)))) rfl ?_ ?_
            · go_simp
              (try simp only [i64_w])
              try rfl
            refine hK.out _ _ ⟨(by rw [ha.out]; exact putSel_upk 13 hb_ rfl rfl rfl), Q_F⟩
          refine steps_cons ?_ ?_
          · rintro b a w' ⟨ha, Q_F⟩ hb_ hon hoff
            refine ⟨_, rfl, fun K hK => ?_⟩
            have e64 : a.tmps[64]? = some (.bool true) := by rw [ha]; exact putSel_on (e := (10, 64, .bool true)) 10 rfl rfl (hon 10 (by kernel_rfl)) rfl
            have e67 : a.tmps[67]? = some (.bool true) := by rw [ha]; exact putSel_on (e := (13, 67, .bool true)) 13 rfl rfl (hon 13 (by kernel_rfl)) rfl
            replace ha := Aside0.mk ha
            have F := Aside0.mk Q_F
            refine value_ (w1 := w') (v := .bool true) (by rfl) rfl ?_ ?_
            · go_simp
              (try simp only [i64_w])
              try rfl
            refine hK.out _ _ ⟨(by rw [ha.out]; exact putSel_upk 14 hb_ rfl rfl rfl), Q_F⟩
          refine steps_cons ?_ ?_
          · rintro b a w' ⟨ha, Q_F⟩ hb_ hon hoff
            refine ⟨_, rfl, fun K hK => ?_⟩
            have e68 : a.tmps[68]? = some (.bool true) := by rw [ha]; exact putSel_on (e := (14, 68, .bool true)) 14 rfl rfl (hon 14 (by kernel_rfl)) rfl
            replace ha := Aside0.mk ha
            have F := Aside0.mk Q_F
            refine value_ (w1 := w') (v := .bool true) (by rfl) rfl ?_ ?_
            · go_simp
              (try simp only [i64_w])
              try rfl
            refine hK.out _ _ ⟨(by rw [ha.out]; exact putSel_upk 15 hb_ rfl rfl rfl), Q_F⟩
          refine steps_cons ?_ ?_
          · rintro b a w' ⟨ha, Q_F⟩ hb_ hon hoff
            refine ⟨_, rfl, fun K hK => ?_⟩
            have e12 : a.tmps[12]? = some (.bool true) := by rw [ha]; exact (putSel_off rfl).trans rfl
            have e69 : a.tmps[69]? = some (.bool true) := by rw [ha]; exact putSel_on (e := (15, 69, .bool true)) 15 rfl rfl (hon 15 (by kernel_rfl)) rfl
            replace ha := Aside0.mk ha
            have F := Aside0.mk Q_F
            refine value_ (w1 := w') (v := .bool true) (wanted_on rfl rfl rfl (e69.trans (by first | rfl | (simp [*]; done)))) rfl ?_ ?_
            · go_simp
              (try simp only [i64_w])
              try rfl
            refine hK.out _ _ ⟨(by rw [ha.out]; exact putSel_upk 16 hb_ rfl rfl rfl), Q_F⟩
          refine steps_cons ?_ ?_
          · rintro b a w' ⟨ha, Q_F⟩ hb_ hon hoff
            refine ⟨_, rfl, fun K hK => ?_⟩
            have e69 : a.tmps[69]? = some (.bool true) := by rw [ha]; exact putSel_on (e := (15, 69, .bool true)) 15 rfl rfl (hon 15 (by kernel_rfl)) rfl
            have e70 : a.tmps[70]? = some (.bool true) := by rw [ha]; exact putSel_on (e := (16, 70, .bool true)) 16 rfl rfl (hon 16 (by kernel_rfl)) rfl
            replace ha := Aside0.mk ha
            have F := Aside0.mk Q_F
            refine value_ (w1 := w') (v := .bool true) (by rfl) rfl ?_ ?_
            · go_simp
              (try simp only [i64_w])
              try rfl
            refine hK.out _ _ ⟨(by rw [ha.out]; exact putSel_upk 17 hb_ rfl rfl rfl), Q_F⟩
          refine steps_cons ?_ ?_
          · rintro b a w' ⟨ha, Q_F⟩ hb_ hon hoff
            refine ⟨_, rfl, fun K hK => ?_⟩
            have e71 : a.tmps[71]? = some (.bool true) := by rw [ha]; exact putSel_on (e := (17, 71, .bool true)) 17 rfl rfl (hon 17 (by kernel_rfl)) rfl
            replace ha := Aside0.mk ha
            have F := Aside0.mk Q_F
            refine value_ (w1 := w') (v := .bool true) (by rfl) rfl ?_ ?_
            · go_simp
              (try simp only [i64_w])
              try rfl
            refine hK.out _ _ ⟨(by rw [ha.out]; exact putSel_upk 18 hb_ rfl rfl rfl), Q_F⟩
          refine steps_cons ?_ ?_
          · rintro b a w' ⟨ha, Q_F⟩ hb_ hon hoff
            refine ⟨_, rfl, fun K hK => ?_⟩
            have e11 : a.tmps[11]? = some (.pointer (some ⟨g3, 0, none⟩)) := by rw [ha]; exact (putSel_off rfl).trans rfl
            have e72 : a.tmps[72]? = some (.bool true) := by rw [ha]; exact putSel_on (e := (18, 72, .bool true)) 18 rfl rfl (hon 18 (by kernel_rfl)) rfl
            replace ha := Aside0.mk ha
            have F := Aside0.mk Q_F
            refine loadRow_ (N := some 73) (wanted_on rfl rfl rfl (e72.trans (by first | rfl | (simp [*]; done)))) rfl 27 _ rfl g3 (eval_of e11) 27 (u8s H) (0, 0) _ (blk_below HZ8.out F.out) Try.underlying27 rfl HGI.out ?_
            refine hK.out _ _ ⟨(by rw [ha.out]; exact putSel_upk 19 hb_ rfl rfl rfl), F.out⟩
          refine steps_cons ?_ ?_
          · rintro b a w' ⟨ha, Q_F⟩ hb_ hon hoff
            refine ⟨_, rfl, fun K hK => ?_⟩
            have e5 : a.tmps[5]? = some (.pointer (some ⟨gh, 0, none⟩)) := by rw [ha]; exact (putSel_off rfl).trans rfl
            have e72 : a.tmps[72]? = some (.bool true) := by rw [ha]; exact putSel_on (e := (18, 72, .bool true)) 18 rfl rfl (hon 18 (by kernel_rfl)) rfl
            replace ha := Aside0.mk ha
            have F := Aside0.mk Q_F
            refine loadRow_ (N := some 74) (wanted_on rfl rfl rfl (e72.trans (by first | rfl | (simp [*]; done)))) rfl 27 _ rfl gh (eval_of e5) 27 (u8s H) (0, 0) _ (blk_below HA8.out F.out) Try.underlying27 rfl HGI.out ?_
            refine hK.out _ _ ⟨(by rw [ha.out]; exact putSel_upk 20 hb_ rfl rfl rfl), F.out⟩
          refine steps_cons ?_ ?_
          · rintro b a w' ⟨ha, Q_F⟩ hb_ hon hoff
            refine ⟨_, rfl, fun K hK => ?_⟩
            have e73 : a.tmps[73]? = some (.agg (u8s H)) := by rw [ha]; exact putSel_on (e := (19, 73, .agg (u8s H))) 19 rfl rfl (hon 19 (by kernel_rfl)) rfl
            have e74 : a.tmps[74]? = some (.agg (u8s H)) := by rw [ha]; exact putSel_on (e := (20, 74, .agg (u8s H))) 20 rfl rfl (hon 20 (by kernel_rfl)) rfl
            have e72 : a.tmps[72]? = some (.bool true) := by rw [ha]; exact putSel_on (e := (18, 72, .bool true)) 18 rfl rfl (hon 18 (by kernel_rfl)) rfl
            replace ha := Aside0.mk ha
            have F := Aside0.mk Q_F
            refine value_ (w1 := w') (v := .bool true) (wanted_on rfl rfl rfl (e72.trans (by first | rfl | (simp [*]; done)))) rfl ?_ ?_
            · go_simp
              (try simp only [i64_w])
              try rfl
            refine hK.out _ _ ⟨(by rw [ha.out]; exact putSel_upk 21 hb_ rfl rfl rfl), Q_F⟩
          refine steps_cons ?_ ?_
          · rintro b a w' ⟨ha, Q_F⟩ hb_ hon hoff
            refine ⟨_, rfl, fun K hK => ?_⟩
            have e72 : a.tmps[72]? = some (.bool true) := by rw [ha]; exact putSel_on (e := (18, 72, .bool true)) 18 rfl rfl (hon 18 (by kernel_rfl)) rfl
            have e75 : a.tmps[75]? = some (.bool true) := by rw [ha]; exact putSel_on (e := (21, 75, .bool true)) 21 rfl rfl (hon 21 (by kernel_rfl)) rfl
            replace ha := Aside0.mk ha
            have F := Aside0.mk Q_F
            refine value_ (w1 := w') (v := .bool true) (by rfl) rfl ?_ ?_
            · go_simp
              (try simp only [i64_w])
              try rfl
            refine hK.out _ _ ⟨(by rw [ha.out]; exact putSel_upk 22 hb_ rfl rfl rfl), Q_F⟩
          refine steps_cons ?_ ?_
          · rintro b a w' ⟨ha, Q_F⟩ hb_ hon hoff
            refine ⟨_, rfl, fun K hK => ?_⟩
            have e76 : a.tmps[76]? = some (.bool true) := by rw [ha]; exact putSel_on (e := (22, 76, .bool true)) 22 rfl rfl (hon 22 (by kernel_rfl)) rfl
            replace ha := Aside0.mk ha
            have F := Aside0.mk Q_F
            refine value_ (w1 := w') (v := .bool true) (by rfl) rfl ?_ ?_
            · go_simp
              (try simp only [i64_w])
              try rfl
            refine hK.out _ _ ⟨(by rw [ha.out]; exact putSel_upk 23 hb_ rfl rfl rfl), Q_F⟩
          refine steps_cons ?_ ?_
          · rintro b a w' ⟨ha, Q_F⟩ hb_ hon hoff
            refine ⟨_, rfl, fun K hK => ?_⟩
            have e77 : a.tmps[77]? = some (.bool true) := by rw [ha]; exact putSel_on (e := (23, 77, .bool true)) 23 rfl rfl (hon 23 (by kernel_rfl)) rfl
            replace ha := Aside0.mk ha
            have F := Aside0.mk Q_F
            refine goes_ (N := some 78) Try.func9 (by kernel_rfl) rfl #[] (wanted_on rfl rfl rfl (e77.trans (by first | rfl | (simp [*]; done)))) rfl rfl (by first | (simp only [List.map_toArray, List.map_cons, List.map_nil, Act.eval, Array.getD_eq_getD_getElem?, Option.getD_some, e77]; done) | (simp only [List.map_toArray, List.map_cons, List.map_nil, Act.eval, Array.getD_eq_getD_getElem?, Option.getD_some, e77]; rfl)) ?_
            refine (awake_calls w').mono ?_
            rintro e w1 ⟨rfl, hb⟩
            refine ⟨_, rfl, ?_⟩
            refine hK.out _ _ ⟨(by rw [ha.out]; exact putSel_upk 24 hb_ rfl rfl rfl), F.out.trans (hb.mono F.out.size)⟩
          refine steps_cons ?_ ?_
          · rintro b a w' ⟨ha, Q_F⟩ hb_ hon hoff
            refine ⟨_, rfl, fun K hK => ?_⟩
            have e77 : a.tmps[77]? = some (.bool true) := by rw [ha]; exact putSel_on (e := (23, 77, .bool true)) 23 rfl rfl (hon 23 (by kernel_rfl)) rfl
            have e78 : a.tmps[78]? = some (.bool true) := by rw [ha]; exact putSel_on (e := (24, 78, .bool true)) 24 rfl rfl (hon 24 (by kernel_rfl)) rfl
            replace ha := Aside0.mk ha
            have F := Aside0.mk Q_F
            refine value_ (w1 := w') (v := .bool true) (by rfl) rfl ?_ ?_
            · go_simp
              (try simp only [i64_w])
              try rfl
            refine hK.out _ _ ⟨(by rw [ha.out]; exact putSel_upk 25 hb_ rfl rfl rfl), Q_F⟩
          refine steps_cons ?_ ?_
          · rintro b a w' ⟨ha, Q_F⟩ hb_ hon hoff
            refine ⟨_, rfl, fun K hK => ?_⟩
            have e79 : a.tmps[79]? = some (.bool true) := by rw [ha]; exact putSel_on (e := (25, 79, .bool true)) 25 rfl rfl (hon 25 (by kernel_rfl)) rfl
            replace ha := Aside0.mk ha
            have F := Aside0.mk Q_F
            refine value_ (w1 := w') (v := .bool true) (by rfl) rfl ?_ ?_
            · go_simp
              (try simp only [i64_w])
              try rfl
            refine hK.out _ _ ⟨(by rw [ha.out]; exact putSel_upk 26 hb_ rfl rfl rfl), Q_F⟩
          exact steps_nil
        · rintro b a w' hall ⟨ha, Q_F⟩
          clear F
          have hb0_ := hall 0 (by kernel_rfl)
          have hb1_ := hall 1 (by kernel_rfl)
          have hb2_ := hall 2 (by kernel_rfl)
          have hb3_ := hall 3 (by kernel_rfl)
          have hb4_ := hall 4 (by kernel_rfl)
          have hb5_ := hall 5 (by kernel_rfl)
          have hb6_ := hall 6 (by kernel_rfl)
          have hb7_ := hall 7 (by kernel_rfl)
          have hb8_ := hall 8 (by kernel_rfl)
          have hb9_ := hall 9 (by kernel_rfl)
          have hb10_ := hall 10 (by kernel_rfl)
          have hb11_ := hall 11 (by kernel_rfl)
          have hb12_ := hall 12 (by kernel_rfl)
          have hb13_ := hall 13 (by kernel_rfl)
          have hb14_ := hall 14 (by kernel_rfl)
          have hb15_ := hall 15 (by kernel_rfl)
          have hb16_ := hall 16 (by kernel_rfl)
          have hb17_ := hall 17 (by kernel_rfl)
          have hb18_ := hall 18 (by kernel_rfl)
          have hb19_ := hall 19 (by kernel_rfl)
          have hb20_ := hall 20 (by kernel_rfl)
          have hb21_ := hall 21 (by kernel_rfl)
          have hb22_ := hall 22 (by kernel_rfl)
          have hb23_ := hall 23 (by kernel_rfl)
          have hb24_ := hall 24 (by kernel_rfl)
          have hb25_ := hall 25 (by kernel_rfl)
          have hb26_ := hall 26 (by kernel_rfl)
          subst ha
          simp only [putSel, hb0_, hb1_, hb2_, hb3_, hb4_, hb5_, hb6_, hb7_, hb8_, hb9_, hb10_, hb11_, hb12_, hb13_, hb14_, hb15_, hb16_, hb17_, hb18_, hb19_, hb20_, hb21_, hb22_, hb23_, hb24_, hb25_, hb26_, if_true, Act.put, List.setIfInBounds_toArray, List.set_cons_zero, List.set_cons_succ]
          have F := Aside0.mk Q_F
          clear Q_F
          clear hall hb0_ hb1_ hb2_ hb3_ hb4_ hb5_ hb6_ hb7_ hb8_ hb9_ hb10_ hb11_ hb12_ hb13_ hb14_ hb15_ hb16_ hb17_ hb18_ hb19_ hb20_ hb21_ hb22_ hb23_ hb24_ hb25_ hb26_
          go_wp2
          go_ret
          exact ⟨rfl, HW8.out.trans (F.out.mono HW8.out.size)⟩
end Go.Proofs.Ytlonhkechpgbiaa.Sh
