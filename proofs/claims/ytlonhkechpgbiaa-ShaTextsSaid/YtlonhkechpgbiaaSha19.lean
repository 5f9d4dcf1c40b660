/- The walk of ParseHash. -/
import Derived.Test.YtlonhkechpgbiaaSha18
namespace Go.Proofs.Ytlonhkechpgbiaa.Sh
open Go.RowKit Go.Proofs.Ytlonhkechpgbiaa.Pr Go.Proofs.YtlonhkechpgbiaaW.PrintWords Go.Proofs.YtlonhkechpgbiaaW.PrintLast Go.Proofs.YtlonhkechpgbiaaW.PrintMore
open Go.Proofs.Ytlonhkechpgbiaa.QT (OwnAt Fresh)
set_option linter.unusedVariables false
set_option linter.unusedSimpArgs false
theorem dig_all : ∀ k : Fin 16, dgt (bt dig (k.val : Int)) = ((k.val : Int), true) := by decide +kernel
theorem dgt_back : ∀ c : Fin 256, (dgt (c.val : Int)).2 = true → bt dig (dgt (c.val : Int)).1 = (c.val : Int) ∧ 0 ≤ (dgt (c.val : Int)).1 ∧ (dgt (c.val : Int)).1 < 16 := by decide +kernel
theorem no_digit {c : Int} (h0 : 0 ≤ c) (h1 : c ≤ 255) (h : ∀ j : Nat, j < 16 → bt dig (j : Int) ≠ c) : (dgt c).2 = false := by
  have hb := dgt_back ⟨c.toNat, by omega⟩
  simp only [show ((c.toNat : Nat) : Int) = c by omega] at hb
  cases hd : (dgt c).2 with
  | false => rfl
  | true =>
    obtain ⟨e, a0, a1⟩ := hb hd
    refine absurd ?_ (h (dgt c).1.toNat (by omega))
    rw [show (((dgt c).1.toNat : Nat) : Int) = (dgt c).1 by omega]; exact e
/-- What ParseHash has after i digits. -/
def Half (s : ByteArray) (i : Nat) (L : List Int) : Prop := ∃ k L0, prs s k = some L0 ∧ L0.length = 32 ∧ (∀ j, k ≤ j → L0.getD j 0 = 0) ∧ ((i = 2 * k ∧ L = L0) ∨ (i = 2 * k + 1 ∧ ∃ a, dgt (bt s (2 * k)) = (a, true) ∧ L = L0.set k a))
theorem Half.zero (s : ByteArray) : Half s 0 (List.replicate 32 0) := ⟨0, _, rfl, by simp, fun j _ => by
  rw [List.getD_eq_getElem?_getD, List.getElem?_replicate]; split <;> rfl, .inl ⟨rfl, rfl⟩⟩
theorem Half.len {s : ByteArray} {i : Nat} {L : List Int} (h : Half s i L) : L.length = 32 := by
  obtain ⟨k, L0, _, h2, _, h4 | ⟨_, a, _, h4⟩⟩ := h
  · rw [h4.2]; exact h2
  · rw [h4, List.length_set]; exact h2
/-- The place that is set next. -/
theorem Half.place {s : ByteArray} {i : Nat} {L : List Int} (h : Half s i L) (hi : i < 64) : 0 ≤ L.getD (i / 2) 0 ∧ L.getD (i / 2) 0 ≤ 15 := by
  obtain ⟨k, L0, h1, h2, h3, ⟨rfl, rfl⟩ | ⟨rfl, a, h4, rfl⟩⟩ := h
  · rw [show 2 * k / 2 = k by omega, h3 k (Nat.le_refl _)]; decide
  · have := dgt_range h4
    rw [show (2 * k + 1) / 2 = k by omega, List.getD_eq_getElem?_getD, List.getElem?_set_self (by omega)]; exact this
theorem Half.step {s : ByteArray} {i : Nat} {L : List Int} (h : Half s i L) (hi : i < 64) (b : Int) (hb : dgt (bt s i) = (b, true)) : Half s (i + 1) (L.set (i / 2) (L.getD (i / 2) 0 * 16 + b)) := by
  obtain ⟨k, L0, h1, h2, h3, ⟨rfl, rfl⟩ | ⟨rfl, a, h4, rfl⟩⟩ := h
  · refine ⟨k, L, h1, h2, h3, .inr ⟨rfl, b, by simpa using hb, ?_⟩⟩
    rw [show 2 * k / 2 = k by omega, h3 k (Nat.le_refl _)]; simp
  · refine ⟨k + 1, _, ?_, ?_, ?_, .inl ⟨by omega, rfl⟩⟩
    · rw [prs, h1]
      have e : bt s (2 * (k : Int) + 1) = bt s ((2 * k + 1 : Nat) : Int) := by congr 1
      simp only [h4, e, hb]
      simp only [and_self, if_true]
      rw [show (2 * k + 1) / 2 = k by omega, List.set_set, List.getD_eq_getElem?_getD, List.getElem?_set_self (by omega)]; rfl
    · simp [h2]
    · intro j hj
      rw [show (2 * k + 1) / 2 = k by omega, List.set_set, List.getD_eq_getElem?_getD, List.getElem?_set_ne (by omega), ← List.getD_eq_getElem?_getD]
      exact h3 j (by omega)
theorem Half.bad {s : ByteArray} {i : Nat} {L : List Int} (h : Half s i L) (hi : i < 64) (hs : s.size = 64) (hb : (dgt (bt s i)).2 = false) : parsed s = (List.replicate 32 0, false) := by
  obtain ⟨k, L0, h1, h2, h3, h4⟩ := h
  have hk : k < 32 := by rcases h4 with ⟨rfl, _⟩ | ⟨rfl, _⟩ <;> omega
  have h5 : prs s (k + 1) = none := by
    rw [prs, h1]
    have : ¬ ((dgt (bt s (2 * (k : Int)))).2 = true ∧ (dgt (bt s (2 * (k : Int) + 1))).2 = true) := by
      rcases h4 with ⟨rfl, _⟩ | ⟨rfl, _⟩
      · rw [show bt s (2 * (k : Int)) = bt s ((2 * k : Nat) : Int) by congr 1, hb]; simp
      · rw [show bt s (2 * (k : Int) + 1) = bt s ((2 * k + 1 : Nat) : Int) by congr 1, hb]; simp
    simp only [if_neg this]
  have h6 := prs_none s (k + 1) h5 (31 - k)
  rw [show k + 1 + (31 - k) = 32 by omega] at h6
  rw [parsed, if_pos hs, h6]
theorem Half.done {s : ByteArray} {L : List Int} (h : Half s 64 L) (hs : s.size = 64) : parsed s = (L, true) := by
  obtain ⟨k, L0, h1, h2, h3, ⟨h4, rfl⟩ | ⟨h4, _⟩⟩ := h
  · have : k = 32 := by omega
    subst this
    rw [parsed, if_pos hs, h1]
  · omega
set_option maxHeartbeats 2000000 in
set_option maxRecDepth 100000 in
theorem phash_calls (s : ByteArray) (hs : s.size ≤ 140737488351232) (w : World) : Calls Try.prog 17 #[.string s] w fun e w' => e = .returned (.tuple #[.agg (u8s (parsed s).1), .bool (parsed s).2]) ∧ Below w.heap.size w w' := by
  have b1 : ∀ g, (w.alloc (.cells (u8s (List.replicate 32 0)) 26)).heap.size = g → g = w.heap.size + 1 := fun g h => by rw [← h]; simp
  by_cases h64 : s.size = 64
  · have l0 : ((s.size : Int) != 64) = false := by simp [h64]
    go_enter Try.func17, Try.ntmps17
    go_wp2_with fail
    obtain ⟨w1, hw1⟩ : ∃ w1, w1 = (w.alloc (.cells (u8s (List.replicate 32 0)) 26)).alloc (.cells (u8s (List.replicate 32 0)) 26) := ⟨_, rfl⟩
    change Code.wp _ _ _ _ ((w.alloc (.cells (u8s (List.replicate 32 0)) 26)).alloc (.cells (u8s (List.replicate 32 0)) 26))
    rw [← hw1]
    obtain ⟨go, hgo⟩ : ∃ g, g = w.heap.size + 1 := ⟨_, rfl⟩
    rw [← hgo]
    have HP : Aside0 (ArrB w1 w.heap.size 26 (List.replicate 32 0)) := ⟨by rw [hw1]; exact blk_alloc (blk_new _ _) _⟩
    have HA : Aside0 (ArrB w1 go 26 (List.replicate 32 0)) := ⟨by rw [hw1]; exact blk_at _ (by rw [hgo]; simp)⟩
    have HW : Aside0 (Below w.heap.size w w1) := ⟨by rw [hw1]; exact below_alloc (below_alloc (Below.refl _ _) _) _⟩
    have HGO : Aside0 (w.heap.size < go) := ⟨by omega⟩
    have H64 := Aside0.mk h64
    have hsz : (s.size : Int) = 64 := by omega
    clear hw1 h64 l0 hgo b1
    go_loopg [6] 64 (fun gk v6 wr => ∃ (i : Nat) (L : List Int), v6 = .int .i64 i ∧ Aside0 (i ≤ 64) ∧ Aside0 (64 - i ≤ gk) ∧ Aside0 (Half s i L) ∧ Aside0 (ArrB wr go 26 L) ∧ Aside0 (ArrB wr w.heap.size 26 (List.replicate 32 0)) ∧ Aside0 (Below w.heap.size w wr))
    case atStart => exact ⟨0, _, rfl, ⟨by omega⟩, ⟨by omega⟩, ⟨Half.zero s⟩, HA, HP, HW⟩
    case round =>
      clear HA HP HW
      obtain ⟨i, L, rfl, Hi, HG, HH, HA, HP, HW⟩ := hrel
      have hi := Hi.out
      by_cases hlt : i < 64
      · have l1 : decide ((i : Int) < 64) = true := decide_eq_true (by omega)
        have i1 := idxS s (i : Int) (by omega) (by omega)
        have r1 := bt_range s (i : Int)
        obtain ⟨c, hc⟩ : ∃ c, c = bt s (i : Int) := ⟨_, rfl⟩
        rw [← hc] at i1 r1
        have HC := Aside0.mk hc
        clear hc
        go_wp2_with fail
        obtain ⟨wo, hwo⟩ : ∃ wo : World, wo = wr := ⟨_, rfl⟩
        subst hwo
        go_loopg [7] 16 (fun gk v7 wr => ∃ (k : Nat), v7 = .int .i64 k ∧ Aside0 (k ≤ 16) ∧ Aside0 (16 - k ≤ gk) ∧ Aside0 (∀ j : Nat, j < k → bt dig (j : Int) ≠ c) ∧ Aside0 (ArrB wr go 26 L) ∧ Aside0 (ArrB wr w.heap.size 26 (List.replicate 32 0)) ∧ Aside0 (Below w.heap.size w wr))
        case atStart => exact ⟨0, rfl, ⟨by omega⟩, ⟨by omega⟩, ⟨fun j hj => absurd hj (Nat.not_lt_zero _)⟩, HA, HP, HW⟩
        case round =>
          clear HA HP HW
          obtain ⟨k, rfl, Hk, HG2, HNO, HA, HP, HW⟩ := hrel
          have hk := Hk.out
          by_cases hk16 : k < 16
          · have l2 : decide ((k : Int) < 16) = true := decide_eq_true (by omega)
            have D := fun w => (by
              rw [run_index_string (h := Try.underlying9), dif_pos ⟨by omega, by show (k : Int) < ((16 : Nat) : Int); omega⟩]
              exact congrArg (fun x => Result.ok (Value.int .u8 x) w) (bt_at dig (k : Int) (by show (k : Int).toNat < 16; omega)) : (Instr.index 9 (.string ⟨#[48, 49, 50, 51, 52, 53, 54, 55, 56, 57, 97, 98, 99, 100, 101, 102]⟩) (.int .i64 (k : Int))).run Try.prog w = .ok (.int .u8 (bt dig (k : Int))) w)
            obtain ⟨e, he⟩ : ∃ e, e = bt dig (k : Int) := ⟨_, rfl⟩
            rw [← he] at D
            have HE := Aside0.mk he
            clear he
            by_cases hec : e = c
            · have l3 : (e != c) = false := by simp [hec]
              have l4 : ((k : Int) == 16) = false := by simp; omega
              have hd : dgt c = ((k : Int), true) := by rw [← hec, HE.out]; exact dig_all ⟨k, hk16⟩
              have hpl := HH.out.place hlt
              obtain ⟨v, hv⟩ : ∃ v, v = L.getD (i / 2) 0 := ⟨_, rfl⟩
              rw [← hv] at hpl
              have m0 := HA.out.cell (i / 2) (by rw [HH.out.len]; omega)
              rw [← hv] at m0
              have mf := HA.out.fr (i / 2)
              have e16 := or16 hpl.1 hpl.2 (show 0 ≤ (k : Int) by omega) (by omega)
              have HD := Aside0.mk hd
              have HV := Aside0.mk hv
              clear hd hv hec
              go_upto_region 9 with (fail)
              go_quiet (fail)
              go_wp2
              go_roundg (64 - (i + 1))
              case measure => have := HG.out; omega
              case rel =>
                refine ⟨i + 1, L.set (i / 2) (v * 16 + k), by go_num, ⟨by omega⟩, ⟨Nat.le_refl _⟩, ⟨?_⟩, ⟨ArrB.set HA.out _ _⟩, ⟨blk_far HP.out (Nat.ne_of_lt HGO.out) _⟩, ⟨(pw_below_drewN HW.out _).setCell (p := ⟨go, i / 2, none⟩) (Nat.le_of_lt HGO.out) _⟩⟩
                rw [HV.out]
                exact HH.out.step hlt _ (by rw [← HC.out]; exact HD.out)
            · have l3 : (e != c) = true := by simp [hec]
              go_upto_region 9 with (fail)
              go_quiet (fail)
              go_wp2
              go_roundg (16 - (k + 1))
              case measure => have := HG2.out; omega
              case rel =>
                refine ⟨k + 1, by go_num, ⟨by omega⟩, ⟨Nat.le_refl _⟩, ⟨fun j hj => ?_⟩, ⟨HA.out⟩, ⟨HP.out⟩, ⟨pw_below_drewN HW.out _⟩⟩
                by_cases hjk : j = k
                · subst hjk; rw [← HE.out]; exact hec
                · exact HNO.out j (by omega)
          · have l2 : decide ((k : Int) < 16) = false := decide_eq_false (by omega)
            have hk' : k = 16 := by omega
            subst hk'
            have HBAD : Aside0 (parsed s = (List.replicate 32 0, false)) := ⟨HH.out.bad hlt H64.out (by rw [← HC.out]; exact no_digit r1.1 r1.2 HNO.out)⟩
            go_upto_region 9 with (fail)
            go_quiet (fail)
            go_wp2_with (refine wpList_store_row rfl 26 _ _ rfl w.heap.size (u8s (List.replicate 32 0)) rfl rfl 26 _ HP.out (info32b (by simp)) rfl (u8s_one _) ?_)
            exact bodyPost_ret (results_pair rfl _ _ w.heap.size 26 (u8s (List.replicate 32 0)) (0, 0) 32 5 false rfl rfl (setRow_heap _ _ _ _ _ _ HP.out) Try.underlying26 (info32b (by simp))) rfl ⟨by rw [HBAD.out], below_setRow (pw_below_drewN HW.out _) (Nat.le_refl _) _⟩
      · have l1 : decide ((i : Int) < 64) = false := decide_eq_false (by omega)
        have hi64 : i = 64 := by omega
        subst hi64
        have HOKP : Aside0 (parsed s = (L, true)) := ⟨HH.out.done H64.out⟩
        have HI := Aside0.mk (info32b HH.out.len)
        have HL := Aside0.mk HH.out.len
        clear hlt hi
        go_wp2_with (first | (refine wpList_load_row rfl 26 _ rfl go rfl 26 (u8s L) (0, 0) _ HA.out Try.underlying26 rfl HI.out ?_) | (refine wpList_store_row rfl 26 _ _ rfl w.heap.size (u8s L) rfl rfl 26 _ HP.out HI.out (by rw [u8s_size, u8s_size, HL.out]; rfl) (u8s_one _) ?_))
        exact bodyPost_ret (results_pair rfl _ _ w.heap.size 26 (u8s L) (0, 0) 32 5 true rfl rfl (setRow_heap _ _ _ _ _ _ HP.out) Try.underlying26 HI.out) rfl ⟨by rw [HOKP.out], below_setRow HW.out (Nat.le_refl _) _⟩
  · have l0 : ((s.size : Int) != 64) = true := by simp; omega
    have HBAD : Aside0 (parsed s = (List.replicate 32 0, false)) := ⟨by rw [parsed, if_neg h64]⟩
    have HP : Aside0 (ArrB ((w.alloc (.cells (u8s (List.replicate 32 0)) 26)).alloc (.cells (u8s (List.replicate 32 0)) 26)) w.heap.size 26 (List.replicate 32 0)) := ⟨blk_alloc (blk_new _ _) _⟩
    have HA : Aside0 (ArrB ((w.alloc (.cells (u8s (List.replicate 32 0)) 26)).alloc (.cells (u8s (List.replicate 32 0)) 26)) (w.heap.size + 1) 26 (List.replicate 32 0)) := ⟨blk_at _ (by simp)⟩
    go_enter Try.func17, Try.ntmps17
    go_wp2_with (first | (refine wpList_load_row rfl 26 _ rfl (w.heap.size + 1) rfl 26 (u8s (List.replicate 32 0)) (0, 0) _ HA.out Try.underlying26 rfl (info32b (by simp)) ?_) | (refine wpList_store_row rfl 26 _ _ rfl w.heap.size (u8s (List.replicate 32 0)) rfl rfl 26 _ HP.out (info32b (by simp)) rfl (u8s_one _) ?_))
    exact bodyPost_ret (results_pair rfl _ _ w.heap.size 26 (u8s (List.replicate 32 0)) (0, 0) 32 5 false rfl rfl (setRow_heap _ _ _ _ _ _ HP.out) Try.underlying26 (info32b (by simp))) rfl ⟨by rw [HBAD.out], below_setRow (below_alloc (below_alloc (Below.refl _ _) _) _) (Nat.le_refl _) _⟩
end Go.Proofs.Ytlonhkechpgbiaa.Sh
