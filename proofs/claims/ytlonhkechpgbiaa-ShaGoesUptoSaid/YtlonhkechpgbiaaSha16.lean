/- The walk of ShaGoes. -/
import Derived.Test.YtlonhkechpgbiaaSha15
namespace Go.Proofs.Ytlonhkechpgbiaa.Sh
open Go.RowKit Go.Proofs.Ytlonhkechpgbiaa.Pr Go.Proofs.YtlonhkechpgbiaaW.PrintWords Go.Proofs.YtlonhkechpgbiaaW.PrintLast Go.Proofs.YtlonhkechpgbiaaW.PrintMore
open Go.Proofs.Ytlonhkechpgbiaa.QT (OwnAt Fresh)
set_option linter.unusedVariables false
set_option linter.unusedSimpArgs false
/-- Two digests that share nothing. -/
def Two (w : World) (base g1 : Nat) (d1 : DS) (g2 : Nat) (d2 : DS) : Prop := ∃ R1 R2, DigL w g1 d1.s.list d1.b R1 d1.n ∧ OwnAt w base 5 R1 (nums .u8 d1.r) ∧ R1.ownBlock ≠ some g1 ∧ R1.ownBlock ≠ some g2 ∧ DigL w g2 d2.s.list d2.b R2 d2.n ∧ OwnAt w base 5 R2 (nums .u8 d2.r) ∧ R2.ownBlock ≠ some g2 ∧ R2.ownBlock ≠ some g1 ∧ (∀ k, R1.ownBlock = some k → R2.ownBlock ≠ some k)
theorem Two.swap {w : World} {base g1 g2 : Nat} {d1 d2 : DS} (h : Two w base g1 d1 g2 d2) : Two w base g2 d2 g1 d1 := by
  obtain ⟨R1, R2, h1, h2, h3, h4, h5, h6, h7, h8, h9⟩ := h
  exact ⟨R2, R1, h5, h6, h7, h8, h1, h2, h3, h4, fun k hk hk' => h9 k hk' hk⟩
theorem Two.one {w : World} {base g1 g2 : Nat} {d1 d2 : DS} (h : Two w base g1 d1 g2 d2) : DigS w base g1 d1 := by
  obtain ⟨R1, R2, h1, h2, h3, _⟩ := h
  exact ⟨R1, h1, h2, h3⟩
theorem Two.below {w w' : World} {base g1 g2 : Nat} {d1 d2 : DS} (h : Two w base g1 d1 g2 d2) (hb : Below w.heap.size w w') : Two w' base g1 d1 g2 d2 := by
  obtain ⟨R1, R2, h1, h2, h3, h4, h5, h6, h7, h8, h9⟩ := h
  exact ⟨R1, R2, blk_below h1 hb, h2.below hb, h3, h4, blk_below h5 hb, h6.below hb, h7, h8, h9⟩
theorem write_two (base g g2 : Nat) (d d2 : DS) (t : Nat) (hd : d.Ok t) (w : World) (h : Two w base g d g2 d2) (hbg : base ≤ g) (hgg : g2 ≠ g)
    (A : Option Addr) (n c : Nat) (p : List Int) (hn : n = p.length) (hp : Kd.C (Kd.int .u8) w A p.length p) (hpg : ∀ ad, A = some ad → 0 < p.length → ad.block ≠ g) (hc : n ≤ c) (hpb : ∀ x ∈ p, 0 ≤ x ∧ x ≤ 255) (ht : t + p.length ≤ 70368744177664) :
    Calls Try.prog 13 #[.pointer (some ⟨g, 0, none⟩), .slice A n c] w fun e w' => e = .returned (.tuple #[]) ∧ Two w' base g (d.write p) g2 d2 ∧ Below base w w' := by
  rw [hn] at hc ⊢
  obtain ⟨R1, R2, h1, h2, h3, h4, h5, h6, h7, h8, h9⟩ := h
  have := hd.n1
  have := hd.r0
  refine (write_calls base g d.s d.b R1 d.r d.n w h1 h2 h3 hbg A c p hp hpg hc (fun x hx => by
    rcases List.mem_append.1 hx with hx | hx
    · exact hd.rb x hx
    · exact hpb x hx) hd.n0 (by omega) (by omega) _ _ _ rfl).mono ?_
  rintro e w' ⟨rfl, R', k1, k2, k3, k4, k5, k6⟩
  refine ⟨rfl, ⟨R', R2, k1, k2, k3, ?_, ?_, ?_, h7, h8, ?_⟩, k5⟩
  · rcases k6 with k6 | ⟨k, k6, k7⟩
    · rw [k6]; exact h4
    · rw [k6]; intro he; cases he; have := blk_lt h5; omega
  · exact (k4.2 g2 (blk_lt h5) hgg h4).trans h5
  · exact h6.carry k4.1 (fun k hk => k4.2 k (h6.lt k hk) (fun he => h8 (by rw [hk, he])) (fun he => h9 k he hk))
  · intro k hk hk'
    rcases k6 with k6 | ⟨j, k6, k7⟩
    · rw [k6] at hk; exact h9 k hk hk'
    · rw [k6] at hk; cases hk; have := h6.lt _ hk'; omega
theorem write_none (v : Value) (w : World) : Calls Try.prog 13 #[.pointer none, v] w fun e w' => e = .returned (.tuple #[]) ∧ Below w.heap.size w w' := by
  go_enter Try.func13, Try.ntmps13
  go_wp2
  exact bodyPost_ret (results_none rfl _ _ _) rfl ⟨rfl, Below.refl _ _⟩
theorem dsum_none (w : World) (R : List Int) (hR : R = refS []) : Calls Try.prog 14 #[.pointer none] w fun e w' => e = .returned (.agg (u8s R)) ∧ Below w.heap.size w w' := by
  have q := dsum_nil w _ _ _ rfl
  rw [hR, ← took_sum took_new]
  exact q
theorem parts1b {w : World} {g : Nat} {A : Option Addr} {n c : Nat} {l : List Int} {t : TypeId} (hg : w.heap[g]? = some (.cells #[.slice A n c] t (0, 0))) (hC : Kd.C (Kd.int .u8) w A l.length l) (hn : n = l.length) (hc : n ≤ c) : Parts w (some ⟨g, 0, none⟩) [l] := by
  subst hn
  intro i hi
  have : i = 0 := by simp at hi; omega
  subst this
  exact ⟨_, A, c, rfl, blk_cell hg 0, hc, hC⟩
def goes13.T13 : Bool × List (List Nat × List Nat) := (true, [([], []), ([0], [0]), ([], []), ([], []), ([2, 3], [2, 3]), ([4], [4]), ([5, 1], [5]), ([1, 6], [1, 6])])
def goes13.B13 : List Nat := [0, 1, 0, 0, 12, 28, 63, 127]
theorem goes13.tab13 : rtab .any (opsOf Try.f4 13) = goes13.T13 := by kernel_rfl
theorem goes13.bits13 : waitsOk goes13.T13.2 goes13.B13 = true := by kernel_rfl

set_option maxHeartbeats 2000000 in
set_option maxRecDepth 100000 in
theorem goes_calls (A : Option Addr) (n c : Nat) (L : List (List Int)) (w : World) (hP : Parts w A L) (hn : n = L.length) (hc : n ≤ c) (hcm : c ≤ maxLen) (hb : ∀ l ∈ L, ∀ x ∈ l, 0 ≤ x ∧ x ≤ 255) (hl : L.length ≤ 1048576) (ht : tot L ≤ 1048576) :
    Calls Try.prog 4 #[.slice A n c] w fun e w' => e = .returned (.bool true) ∧ Below w.heap.size w w' := by
  have hA := fun w => awake_calls w
  have HA := Aside0.mk hA
  have HP := Aside0.mk hP
  have HB := Aside0.mk hb
  have HT := Aside0.mk ht
  clear hA hP hb
  obtain ⟨X, hX⟩ : ∃ X, X = L.flatten := ⟨_, rfl⟩
  have hXl : X.length = tot L := by rw [hX, tot_flatten]
  have HX := Aside0.mk hX
  have HXT := Aside0.mk hXl
  have HXb : Aside0 (∀ x ∈ X, 0 ≤ x ∧ x ≤ 255) := ⟨by rw [hX]; exact flat_bytes HB.out⟩
  have HN := Aside0.mk hn
  have hl' : n ≤ 1048576 := by omega
  clear hX hn hXl
  go_enter Try.func4, Try.ntmps4
  go_wp2_with fail
  refine (joined_calls A c L w HP.out (by rw [← HN.out]; exact hc) (by omega) (by omega) n HN.out X HX.out).mono ?_
  rintro e w1 ⟨A1, c1, rfl, hc1, hC1, hb1, _⟩
  have HP1 : Aside0 (Parts w1 A L) := ⟨HP.out.below hb1⟩
  have HW1 : Aside0 (Below w.heap.size w w1) := ⟨hb1⟩
  have HC1 := Aside0.mk hC1
  obtain ⟨m, hm⟩ : ∃ m, m = X.length := ⟨_, rfl⟩
  rw [← hm] at hc1 ⊢
  have HM := Aside0.mk hm
  clear hb1 hC1 hm ht
  by_cases h1 : 700 < m
  · have e1 : decide (700 < (m : Int)) = true := decide_eq_true (by omega)
    go_wp2_with fail
    refine (HA.out _).mono ?_
    rintro e w2 ⟨rfl, hb⟩
    go_wp2
    go_ret
    exact ⟨rfl, HW1.out.trans (hb.mono HW1.out.size)⟩
  have e1 : decide (700 < (m : Int)) = false := decide_eq_false (by omega)
  by_cases h2 : 30 < n
  · have e2 : decide (30 < (n : Int)) = true := decide_eq_true (by omega)
    go_wp2_with fail
    refine (HA.out _).mono ?_
    rintro e w2 ⟨rfl, hb⟩
    go_wp2
    go_ret
    exact ⟨rfl, HW1.out.trans (hb.mono HW1.out.size)⟩
  have e2 : decide (30 < (n : Int)) = false := decide_eq_false (by omega)
  obtain ⟨B, hBd⟩ : ∃ B, B = w1.heap.size := ⟨_, rfl⟩
  have HBD := Aside0.mk hBd
  clear hBd
  go_wp2_with fail
  refine (new_at w1 B HBD.out.symm).mono ?_
  rintro e w2 ⟨rfl, hw2⟩
  have hs2 : w2.heap.size = B + 1 := by rw [hw2, HBD.out]; simp
  have hd2 : w2.heap[B]? = some (.cells (u32s [0, 0, 0, 0, 0, 0, 0, 0] ++ #[.bool false, .slice none 0 0, .int .i64 0]) 38 (0, 0)) := by rw [hw2]; exact blk_at _ HBD.out
  have hb2 : Below w1.heap.size w1 w2 := by rw [hw2]; exact below_alloc (Below.refl _ _) _
  clear hw2
  go_upto_region 6 with (fail)
  obtain ⟨Z, hZ⟩ : ∃ Z, Z = B + 1 := ⟨_, rfl⟩
  rw [← hZ]
  obtain ⟨w3, hw3⟩ : ∃ w3, w3 = w2.alloc (.cells (u32s [0, 0, 0, 0, 0, 0, 0, 0] ++ #[.bool false, .slice none 0 0, .int .i64 0]) 38) := ⟨_, rfl⟩
  change Code.wp _ _ _ _ (w2.alloc (.cells (u32s [0, 0, 0, 0, 0, 0, 0, 0] ++ #[.bool false, .slice none 0 0, .int .i64 0]) 38))
  rw [← hw3]
  have H2 : Aside0 (Two w3 B B DS.new Z DS.new) := ⟨_, _, by rw [hw3]; exact blk_alloc hd2 _, OwnAt.nil _ _ _, by simp [Value.ownBlock], by simp [Value.ownBlock], by rw [hw3]; exact blk_at _ (by rw [hZ, hs2]), OwnAt.nil _ _ _, by simp [Value.ownBlock], by simp [Value.ownBlock], by simp [Value.ownBlock]⟩
  have HW3 : Aside0 (Below w1.heap.size w1 w3) := ⟨by rw [hw3]; exact hb2.alloc hb2.size _⟩
  have HZ : Aside0 (Z = B + 1) := ⟨hZ⟩
  clear hw3 hZ hd2 hs2 hb2
  go_wp2_with fail
  go_loopg [6, 7] n (fun gk v6 v7 wr => ∃ (i q : Nat) (d : DS), v6 = .int .i64 q ∧ v7 = .int .i64 i ∧ Aside0 (i ≤ n) ∧ Aside0 (n - i ≤ gk) ∧ Aside0 (q = (L.take i).flatten.length) ∧ Aside0 (Took d (L.take i).flatten) ∧ Aside0 (d.Ok q) ∧ Aside0 (Two wr B B d Z d) ∧ Aside0 (Below w1.heap.size w1 wr))
  case atStart => exact ⟨0, 0, DS.new, rfl, rfl, ⟨by omega⟩, ⟨by omega⟩, ⟨by simp⟩, ⟨by simpa using took_new⟩, ⟨⟨by decide, by decide, by decide, fun x hx => by cases hx⟩⟩, H2, HW3⟩
  case round =>
    clear H2 HW3
    obtain ⟨i, q, d, rfl, rfl, Hi, HG, HQ, HTK, HOK, H2, HW3⟩ := hrel
    have hi := Hi.out
    by_cases hlt : i < n
    · have l1 : decide (i < n) = true := decide_eq_true hlt
      have hiL : i < L.length := by rw [← HN.out]; exact hlt
      obtain ⟨ad, Ai, ci, rfl, hcell, hci, hC⟩ := HP1.out i hiL
      obtain ⟨p, hp⟩ : ∃ p, p = L.getD i [] := ⟨_, rfl⟩
      obtain ⟨k, hp'⟩ : ∃ k, k = p.length := ⟨_, rfl⟩
      rw [← hp] at hcell hci hC
      rw [← hp'] at hcell hci
      have HCell := Aside0.mk hcell
      replace hcell := (HW3.out.cell (World.block_lt_of_cell? w1 _ hcell)).trans hcell
      have hz : (i : Int) < (n : Int) := by omega
      have hsplit : L.take (i + 1) = L.take i ++ [p] := by rw [hp, List.getD_eq_getElem?_getD, List.getElem?_eq_getElem hiL]; exact List.take_succ_eq_append_getElem hiL
      have hflat : (L.take (i + 1)).flatten = (L.take i).flatten ++ p := by rw [hsplit, List.flatten_append]; simp
      have hmem : p ∈ L := by rw [hp, List.getD_eq_getElem?_getD, List.getElem?_eq_getElem hiL]; exact List.getElem_mem hiL
      have hk := hp'
      have hqk : q + k ≤ m := by
        have := tot_take L (i + 1)
        rw [hflat, List.length_append, ← HQ.out, ← hk] at this
        rw [HM.out, HXT.out]; exact this
      have HC := Aside0.mk hC
      have HK := Aside0.mk hk
      have HFL := Aside0.mk hflat
      have HMem := Aside0.mk hmem
      have hlast : ∀ ad', Ai = some ad' → 0 < p.length → ad'.block < B := fun ad' hA' hp' => by subst hA'; rw [HBD.out]; exact Kd.C_lt hC hp' (by decide)
      have HL := Aside0.mk hlast
      clear hC hp hp' hsplit hmem hk hflat hlast
      go_wp2_with fail
      refine (write_two B B Z d d q HOK.out wr H2.out (Nat.le_refl _) (by rw [HZ.out]; omega) Ai k ci p HK.out (Kd.C_below HC.out HW3.out) (fun ad' hA' hp' => by have := HL.out ad' hA' hp'; omega) hci (HB.out p HMem.out) (by rw [← HK.out]; omega)).mono ?_
      rintro e w5 ⟨rfl, ht5, hb5⟩
      have H5 := Aside0.mk ht5
      have HW5 : Aside0 (Below w1.heap.size w1 w5) := ⟨HW3.out.trans (by rw [← HBD.out]; exact hb5)⟩
      clear ht5 hb5 H2 HW3 hcell
      have hcell := (HW5.out.cell (World.block_lt_of_cell? w1 _ HCell.out)).trans HCell.out
      go_wp2_with fail
      refine (write_two B Z B d _ q HOK.out w5 H5.out.swap (by rw [HZ.out]; omega) (by rw [HZ.out]; omega) Ai k ci p HK.out (Kd.C_below HC.out HW5.out) (fun ad' hA' hp' => by have := HL.out ad' hA' hp'; rw [HZ.out]; omega) hci (HB.out p HMem.out) (by rw [← HK.out]; omega)).mono ?_
      rintro e w6 ⟨rfl, ht6, hb6⟩
      obtain ⟨d', hd'⟩ : ∃ d', d' = d.write p := ⟨_, rfl⟩
      rw [← hd'] at ht6
      have H6 : Aside0 (Two w6 B B d' Z d') := ⟨ht6.swap⟩
      have HW6 : Aside0 (Below w1.heap.size w1 w6) := ⟨HW5.out.trans (by rw [← HBD.out]; exact hb6)⟩
      have HOK' : Aside0 (d'.Ok (q + k)) := ⟨by rw [hd', HK.out]; exact HOK.out.write p (HB.out p HMem.out)⟩
      have HTK' : Aside0 (Took d' (L.take (i + 1)).flatten) := ⟨by rw [hd', HFL.out]; exact took_write HTK.out p⟩
      clear ht6 hb6 hd' H5 HW5 hcell
      have hcell := (HW6.out.cell (World.block_lt_of_cell? w1 _ HCell.out)).trans HCell.out
      obtain ⟨Y, hY⟩ : ∃ Y, Y = (L.take (i + 1)).flatten := ⟨_, rfl⟩
      obtain ⟨R, hR⟩ : ∃ R, R = refS Y := ⟨_, rfl⟩
      have HYl : Aside0 (q + k = Y.length) := ⟨by rw [hY, HFL.out, List.length_append, ← HQ.out, ← HK.out]⟩
      have HXY : Aside0 (X.take (q + k) = Y) := ⟨by
        have e : X = Y ++ (L.drop (i + 1)).flatten := by rw [hY, HX.out, ← List.flatten_append, List.take_append_drop]
        rw [e, HYl.out, List.take_left]⟩
      have HDS : Aside0 (d'.sum = R) := ⟨by rw [hR, hY]; exact took_sum HTK'.out⟩
      have HR32 : Aside0 (R.length = 32) := ⟨by rw [hR]; exact refS_length _⟩
      have HR := Aside0.mk hR
      have HYY := Aside0.mk hY
      have HYb : Aside0 (∀ x ∈ Y, 0 ≤ x ∧ x ≤ 255) := ⟨by rw [← HXY.out]; exact fun x hx => HXb.out x (List.mem_of_mem_take hx)⟩
      have E1 := eqA R R HR32.out HR32.out 27 (by kernel_rfl)
      rw [decide_eq_true rfl] at E1
      obtain ⟨q', hq'⟩ : ∃ q', q' = q + k := ⟨_, rfl⟩
      have hqi : (q : Int) + (k : Int) = (q' : Int) := by omega
      have zq : (q' : Int) ≤ 700 := by omega
      have HCY : Aside0 (Kd.C (Kd.int .u8) w1 A1 Y.length Y) := ⟨by
        have := Kd.C_take (m := q + k) HC1.out (by rw [← HM.out]; exact hqk)
        rw [HXY.out] at this; exact this⟩
      have zm : (q' : Int) ≤ (m : Int) := by omega
      have zc : (q' : Int) ≤ (c1 : Int) := by omega
      rw [← hq'] at HYl HOK'
      have HQ' := Aside0.mk hq'
      have HQI := Aside0.mk hqi
      clear hR hY hqi hq'
      go_upto_region 13 with (fail)
      rw [HQI.out]
      refine start_ (n := 8) (S := fun w' => True) (ds := []) #[false, false, false, false, false, false, false, false] (by kernel_rfl) rfl rfl trivial (fun hHeld => ?_)
      refine with_tabW goes13.tab13 goes13.bits13 (fun HT_ HW_ => ?_)
      have F : Aside0 (Fresh w6.heap.size w6 w6.drew [(false, 0, 23, #[.slice A1 q' c1])]) := ⟨Fresh.begin_ (below_drew (Below.refl _ _)) rfl⟩
      refine inv_at [0, 1, 2, 3, 4, 5, 6, 7] (fun a0_ b a w' => ∃ (gb : Nat) (m5_ : Value), a = putSel a0_ b [(0, 45, .pointer (some ⟨B, 0, none⟩)), (1, 46, .agg (u8s R)), (2, 47, .slice A1 m c1), (3, 48, .int .i64 q'), (4, 49, .slice A1 q' c1), (5, 50, m5_), (6, 51, .agg (u8s R)), (7, 52, .bool false)] ∧ (Fresh w6.heap.size w6 w' [(b 5, gb, 23, #[.slice A1 q' c1])]) ∧ (b 5 = true → b 5 = true) ∧ (b 5 = true → (m5_ : Value) = .slice (some ⟨gb, 0, none⟩) 1 1)) HT_.out HW_.out (by kernel_rfl) (by kernel_rfl) ?_ ?_ ?_
      · exact ⟨0, .bool false, by simp only [putSel, Bool.false_eq_true, if_false], F.out, fun h_ => absurd h_ (by decide), fun h_ => absurd h_ (by decide)⟩
      · skip
        clear F
        refine steps_cons ?_ ?_
        · rintro b a w' ⟨gb, m5_, ha, Q_F, Q_B5, Q_X5_⟩ hb_ hon hoff
          refine ⟨_, rfl, fun K hK => ?_⟩
          have e4 : a.tmps[4]? = some (.pointer (some ⟨B, 0, none⟩)) := by rw [ha]; exact (putSel_off rfl).trans rfl
          replace ha := Aside0.mk ha
          have F := Aside0.mk Q_F
          refine value_ (w1 := w') (v := .pointer (some ⟨B, 0, none⟩)) (by rfl) rfl ?_ ?_
          · go_simp
            (try simp only [i64_w])
            try rfl
          refine hK.out _ _ ⟨gb, m5_, (by rw [ha.out]; exact putSel_upk 0 hb_ rfl rfl rfl), Q_F, Q_B5, Q_X5_⟩
        refine steps_cons ?_ ?_
        · rintro b a w' ⟨gb, m5_, ha, Q_F, Q_B5, Q_X5_⟩ hb_ hon hoff
          refine ⟨_, rfl, fun K hK => ?_⟩
          have e45 : a.tmps[45]? = some (.pointer (some ⟨B, 0, none⟩)) := by rw [ha]; exact putSel_on (e := (0, 45, .pointer (some ⟨B, 0, none⟩))) 0 rfl rfl (hon 0 (by kernel_rfl)) rfl
          replace ha := Aside0.mk ha
          have F := Aside0.mk Q_F
          refine goes_ (N := some 46) Try.func14 (by kernel_rfl) rfl #[.pointer (some ⟨B, 0, none⟩)] (by rfl) rfl rfl (by first | (simp only [List.map_toArray, List.map_cons, List.map_nil, Act.eval, Array.getD_eq_getD_getElem?, Option.getD_some, e45]; done) | (simp only [List.map_toArray, List.map_cons, List.map_nil, Act.eval, Array.getD_eq_getD_getElem?, Option.getD_some, e45]; rfl)) ?_
          refine (dsumS_calls B B d' _ HOK'.out w' (H6.out.one.below F.out.1) (by omega)).mono ?_
          rintro e w1_ ⟨rfl, hb⟩
          rw [HDS.out]
          refine ⟨_, rfl, ?_⟩
          refine hK.out _ _ ⟨gb, m5_, (by rw [ha.out]; exact putSel_upk 1 hb_ rfl rfl rfl), F.out.below (Nat.le_refl _) hb, Q_B5, Q_X5_⟩
        refine steps_cons ?_ ?_
        · rintro b a w' ⟨gb, m5_, ha, Q_F, Q_B5, Q_X5_⟩ hb_ hon hoff
          refine ⟨_, rfl, fun K hK => ?_⟩
          have e3 : a.tmps[3]? = some (.slice A1 m c1) := by rw [ha]; exact (putSel_off rfl).trans rfl
          replace ha := Aside0.mk ha
          have F := Aside0.mk Q_F
          refine value_ (w1 := w') (v := .slice A1 m c1) (by rfl) rfl ?_ ?_
          · go_simp
            (try simp only [i64_w])
            try rfl
          refine hK.out _ _ ⟨gb, m5_, (by rw [ha.out]; exact putSel_upk 2 hb_ rfl rfl rfl), Q_F, fun h0_ => absurd ((hoff 5 (by kernel_rfl)).symm.trans h0_) (by decide), fun h0_ => absurd ((hoff 5 (by kernel_rfl)).symm.trans h0_) (by decide)⟩
        refine steps_cons ?_ ?_
        · rintro b a w' ⟨gb, m5_, ha, Q_F, Q_B5, Q_X5_⟩ hb_ hon hoff
          refine ⟨_, rfl, fun K hK => ?_⟩
          have e6 : a.tmps[6]? = some (.int .i64 q') := by rw [ha]; exact (putSel_off rfl).trans rfl
          replace ha := Aside0.mk ha
          have F := Aside0.mk Q_F
          refine value_ (w1 := w') (v := .int .i64 q') (by rfl) rfl ?_ ?_
          · go_simp
            (try simp only [i64_w])
            try rfl
          refine hK.out _ _ ⟨gb, m5_, (by rw [ha.out]; exact putSel_upk 3 hb_ rfl rfl rfl), Q_F, fun h0_ => absurd ((hoff 5 (by kernel_rfl)).symm.trans h0_) (by decide), fun h0_ => absurd ((hoff 5 (by kernel_rfl)).symm.trans h0_) (by decide)⟩
        refine steps_cons ?_ ?_
        · rintro b a w' ⟨gb, m5_, ha, Q_F, Q_B5, Q_X5_⟩ hb_ hon hoff
          refine ⟨_, rfl, fun K hK => ?_⟩
          have e47 : a.tmps[47]? = some (.slice A1 m c1) := by rw [ha]; exact putSel_on (e := (2, 47, .slice A1 m c1)) 2 rfl rfl (hon 2 (by kernel_rfl)) rfl
          have e48 : a.tmps[48]? = some (.int .i64 q') := by rw [ha]; exact putSel_on (e := (3, 48, .int .i64 q')) 3 rfl rfl (hon 3 (by kernel_rfl)) rfl
          replace ha := Aside0.mk ha
          have F := Aside0.mk Q_F
          refine value_ (w1 := w') (v := .slice A1 q' c1) (by rfl) rfl ?_ ?_
          · go_simp
            (try simp only [i64_w])
            try rfl
          refine hK.out _ _ ⟨gb, m5_, (by rw [ha.out]; exact putSel_upk 4 hb_ rfl rfl rfl), Q_F, fun h0_ => absurd ((hoff 5 (by kernel_rfl)).symm.trans h0_) (by decide), fun h0_ => absurd ((hoff 5 (by kernel_rfl)).symm.trans h0_) (by decide)⟩
        refine steps_cons ?_ ?_
        · rintro b a w' ⟨gb, m5_, ha, Q_F, Q_B5, Q_X5_⟩ hb_ hon hoff
          refine ⟨_, rfl, fun K hK => ?_⟩
          have e49 : a.tmps[49]? = some (.slice A1 q' c1) := by rw [ha]; exact putSel_on (e := (4, 49, .slice A1 q' c1)) 4 rfl rfl (hon 4 (by kernel_rfl)) rfl
          replace ha := Aside0.mk ha
          have F := Aside0.mk Q_F
          refine value_ (w1 := w'.alloc (.cells #[.slice A1 q' c1] 23)) (v := .slice (some ⟨w'.heap.size, 0, none⟩) 1 1) (by rfl) rfl (by go_simp) ?_
          refine hK.out _ _ ⟨w'.heap.size, (.slice (some ⟨w'.heap.size, 0, none⟩) 1 1), (by rw [ha.out]; exact putSel_upk 5 hb_ rfl rfl rfl), F.out.alloc (Nat.le_refl _) 0 rfl #[.slice A1 q' c1] rfl, fun _ => rfl, fun _ => rfl⟩
        refine steps_cons ?_ ?_
        · rintro b a w' ⟨gb, m5_, ha, Q_F, Q_B5, Q_X5_⟩ hb_ hon hoff
          refine ⟨_, rfl, fun K hK => ?_⟩
          have e50 : a.tmps[50]? = some (m5_) := by rw [ha]; exact putSel_on (e := (5, 50, m5_)) 5 rfl rfl (hon 5 (by kernel_rfl)) rfl
          rw [Q_X5_ (hon 5 (by kernel_rfl))] at e50
          replace ha := Aside0.mk ha
          have F := Aside0.mk Q_F
          have B5 := Aside0.mk (Q_B5 (hon 5 (by kernel_rfl)))
          have hg := (F.out.get 0 rfl (hon 5 (by kernel_rfl))).2
          refine goes_ (N := some 51) Try.func10 (by kernel_rfl) rfl #[.slice (some ⟨gb, 0, none⟩) 1 1] (by rfl) rfl rfl (by first | (simp only [List.map_toArray, List.map_cons, List.map_nil, Act.eval, Array.getD_eq_getD_getElem?, Option.getD_some, e50]; done) | (simp only [List.map_toArray, List.map_cons, List.map_nil, Act.eval, Array.getD_eq_getD_getElem?, Option.getD_some, e50]; rfl)) ?_
          refine (sumLr _ 1 [Y] w' (parts1b hg (Kd.C_below (Kd.C_below HCY.out HW6.out) F.out.1) HYl.out (by omega)) (by simp) (fun l' hl => by rw [List.mem_singleton.1 hl]; exact HYb.out) (by have := HYl.out; simp [tot]; omega) 1 rfl R (by rw [HR.out]; simp)).mono ?_
          rintro e w1_ ⟨rfl, hb⟩
          refine ⟨_, rfl, ?_⟩
          refine hK.out _ _ ⟨gb, m5_, (by rw [ha.out]; exact putSel_upk 6 hb_ rfl rfl rfl), F.out.below (Nat.le_refl _) hb, Q_B5, Q_X5_⟩
        refine steps_cons ?_ ?_
        · rintro b a w' ⟨gb, m5_, ha, Q_F, Q_B5, Q_X5_⟩ hb_ hon hoff
          refine ⟨_, rfl, fun K hK => ?_⟩
          have e46 : a.tmps[46]? = some (.agg (u8s R)) := by rw [ha]; exact putSel_on (e := (1, 46, .agg (u8s R))) 1 rfl rfl (hon 1 (by kernel_rfl)) rfl
          have e51 : a.tmps[51]? = some (.agg (u8s R)) := by rw [ha]; exact putSel_on (e := (6, 51, .agg (u8s R))) 6 rfl rfl (hon 6 (by kernel_rfl)) rfl
          replace ha := Aside0.mk ha
          have F := Aside0.mk Q_F
          have B5 := Aside0.mk (Q_B5 (hon 5 (by kernel_rfl)))
          refine value_ (w1 := w') (v := .bool false) (by rfl) rfl ?_ ?_
          · go_simp
            (try simp only [i64_w])
            try rfl
          refine hK.out _ _ ⟨gb, m5_, (by rw [ha.out]; exact putSel_upk 7 hb_ rfl rfl rfl), Q_F, Q_B5, Q_X5_⟩
        exact steps_nil
      · rintro b a w' hall ⟨gb, m5_, ha, Q_F, Q_B5, Q_X5_⟩
        clear F
        have hb0_ := hall 0 (by kernel_rfl)
        have hb1_ := hall 1 (by kernel_rfl)
        have hb2_ := hall 2 (by kernel_rfl)
        have hb3_ := hall 3 (by kernel_rfl)
        have hb4_ := hall 4 (by kernel_rfl)
        have hb5_ := hall 5 (by kernel_rfl)
        have hb6_ := hall 6 (by kernel_rfl)
        have hb7_ := hall 7 (by kernel_rfl)
        subst ha
        obtain rfl := Q_X5_ hb5_
        simp only [putSel, hb0_, hb1_, hb2_, hb3_, hb4_, hb5_, hb6_, hb7_, if_true, Act.put, List.setIfInBounds_toArray, List.set_cons_zero, List.set_cons_succ]
        have F := Aside0.mk Q_F
        clear Q_F
        have B5 := Aside0.mk (Q_B5 hb5_)
        clear Q_B5
        clear hall hb0_ hb1_ hb2_ hb3_ hb4_ hb5_ hb6_ hb7_
        go_wp2
        go_roundg (n - (i + 1))
        case measure => have := HG.out; omega
        case rel =>
          exact ⟨i + 1, q', d', rfl, by go_num, ⟨by omega⟩, ⟨Nat.le_refl _⟩, ⟨by rw [HYl.out, HYY.out]⟩, HTK', HOK', ⟨H6.out.below F.out.1⟩, ⟨HW6.out.trans (F.out.1.mono HW6.out.size)⟩⟩
    · have l1 : decide (i < n) = false := decide_eq_false hlt
      have hin : i = n := by omega
      have htk : Took d X := by
        have := HTK.out
        rw [hin, HN.out, List.take_length, ← HX.out] at this
        exact this
      obtain ⟨R, hR⟩ : ∃ R, R = refS X := ⟨_, rfl⟩
      obtain ⟨R0, hR0⟩ : ∃ R, R = refS [] := ⟨_, rfl⟩
      have HDS : Aside0 (d.sum = R) := ⟨by rw [hR]; exact took_sum htk⟩
      have E1 := eqA R R (by rw [hR]; exact refS_length _) (by rw [hR]; exact refS_length _) 27 (by kernel_rfl)
      have E0 := eqA R0 R0 (by rw [hR0]; exact refS_length _) (by rw [hR0]; exact refS_length _) 27 (by kernel_rfl)
      rw [decide_eq_true rfl] at E1 E0
      have HR := Aside0.mk hR
      have HR0 := Aside0.mk hR0
      have hqm : q ≤ 1048576 := by
        have := tot_take L i
        rw [← HQ.out] at this
        exact Nat.le_trans this HT.out
      clear hlt hin htk hR hR0
      go_wp2_with fail
      refine (write_none _ wr).mono ?_
      rintro e w7 ⟨rfl, hb7⟩
      have H7 : Aside0 (Two w7 B B d Z d) := ⟨H2.out.below hb7⟩
      have HW7 : Aside0 (Below w1.heap.size w1 w7) := ⟨HW3.out.trans (hb7.mono HW3.out.size)⟩
      clear hb7 H2 HW3
      have q3 := dsumS_calls B Z d _ HOK.out w7 H7.out.swap.one (by omega)
      rw [HDS.out] at q3
      have Q3 := Aside0.mk q3
      clear q3
      go_wp2_with fail
      refine Q3.out.mono ?_
      rintro e w8 ⟨rfl, hb8⟩
      have HW8 : Aside0 (Below w1.heap.size w1 w8) := ⟨HW7.out.trans (hb8.mono HW7.out.size)⟩
      clear hb8 Q3
      go_wp2_with fail
      refine (sumLr _ 1 [X] _ (parts1 _ (Kd.C_below HC1.out HW8.out) HM.out hc1) (by simp) (fun l' hl => by rw [List.mem_singleton.1 hl]; exact HXb.out) (by have := HM.out; simp [tot]; omega) 1 rfl R (by rw [HR.out]; simp)).mono ?_
      rintro e w9 ⟨rfl, hb9⟩
      have HW9 : Aside0 (Below w1.heap.size w1 w9) := ⟨(HW8.out.alloc HW8.out.size _).trans (hb9.mono (HW8.out.alloc HW8.out.size _).size)⟩
      clear hb9
      go_wp2_with fail
      refine (dsum_none w9 R0 HR0.out).mono ?_
      rintro e w10 ⟨rfl, hb10⟩
      have HW10 : Aside0 (Below w1.heap.size w1 w10) := ⟨HW9.out.trans (hb10.mono HW9.out.size)⟩
      clear hb10
      go_wp2_with fail
      refine (sumLr none 0 [] w10 (fun i hi => absurd hi (Nat.not_lt_zero _)) (by decide) (fun l hl => by cases hl) (by decide) 0 rfl R0 HR0.out).mono ?_
      rintro e w11 ⟨rfl, hb11⟩
      have HW11 : Aside0 (Below w1.heap.size w1 w11) := ⟨HW10.out.trans (hb11.mono HW10.out.size)⟩
      clear hb11
      go_wp2_with fail
      refine (HA.out _).mono ?_
      rintro e w12 ⟨rfl, hb12⟩
      go_wp2
      go_ret
      exact ⟨rfl, HW1.out.trans ((HW11.out.trans (hb12.mono HW11.out.size)).mono HW1.out.size)⟩
end Go.Proofs.Ytlonhkechpgbiaa.Sh
