/- The walk of Text. -/
import Derived.Test.YtlonhkechpgbiaaSha15
namespace Go.Proofs.Ytlonhkechpgbiaa.Sh
open Go.RowKit Go.Proofs.Ytlonhkechpgbiaa.Pr Go.Proofs.YtlonhkechpgbiaaW.PrintWords Go.Proofs.YtlonhkechpgbiaaW.PrintLast Go.Proofs.YtlonhkechpgbiaaW.PrintMore
open Go.Proofs.Ytlonhkechpgbiaa.QT (OwnAt Fresh)
set_option linter.unusedVariables false
set_option linter.unusedSimpArgs false
theorem idxA (H : List Int) (h : H.length = 32) (k : Nat) (hk : k < 32) (w : World) : (Instr.index 27 (.agg (u8s H)) (.int .i64 k)).run Try.prog w = .ok (.int .u8 (H.getD k 0)) w := by
  obtain ⟨i0, hi, hz0, hz1, hz2⟩ := info_parts infoB
  unfold Instr.index
  have e1 : ¬ ((k : Int) < 0 ∨ (32 : Int) ≤ (k : Int)) := by omega
  simp [run_underlying (show Try.prog.underlying 27 = some (.array 32 5) by kernel_rfl), run_sizeOf w hi, asIntOf, hk, show Try.prog.cellsOf 5 = 1 by kernel_rfl]
  rw [part8 H k (by omega) w, List.getD_eq_getElem?_getD]
def dig : ByteArray := ⟨#[48, 49, 50, 51, 52, 53, 54, 55, 56, 57, 97, 98, 99, 100, 101, 102]⟩
def hexT (H : List Int) : List Int := H.flatMap fun b => [bt dig (b / 16), bt dig (b % 16)]
theorem hexT_succ (H : List Int) (k : Nat) (hk : k < H.length) : hexT (H.take (k + 1)) = hexT (H.take k) ++ [bt dig (H.getD k 0 / 16), bt dig (H.getD k 0 % 16)] := by
  rw [List.take_succ_eq_append_getElem hk, hexT, List.flatMap_append, List.getD_eq_getElem?_getD, List.getElem?_eq_getElem hk]
  simp [hexT]
theorem and15_all : ∀ c : Fin 256, Go.bits .and .u8 (c.val : Int) 15 = (c.val : Int) % 16 := by decide +kernel
theorem and15 {c : Int} (h0 : 0 ≤ c) (h1 : c ≤ 255) : Go.bits .and .u8 c 15 = c % 16 := by
  have := and15_all ⟨c.toNat, by omega⟩
  simpa [show ((c.toNat : Nat) : Int) = c by omega] using this
theorem hexT_length : ∀ H : List Int, (hexT H).length = 2 * H.length
  | [] => rfl
  | b :: H => by
    have := hexT_length H
    simp only [hexT, List.flatMap_cons, List.length_append, List.length_cons, List.length_nil] at this ⊢
    omega
theorem idxD (v : Int) (h0 : 0 ≤ v) (h1 : v < 16) (w : World) : (Instr.index 9 (.string ⟨#[48, 49, 50, 51, 52, 53, 54, 55, 56, 57, 97, 98, 99, 100, 101, 102]⟩) (.int .u8 v)).run Try.prog w = .ok (.int .u8 (bt dig v)) w := by
  rw [run_index_string (h := Try.underlying9), dif_pos ⟨h0, by show v < ((16 : Nat) : Int); omega⟩]
  have : v = 0 ∨ v = 1 ∨ v = 2 ∨ v = 3 ∨ v = 4 ∨ v = 5 ∨ v = 6 ∨ v = 7 ∨ v = 8 ∨ v = 9 ∨ v = 10 ∨ v = 11 ∨ v = 12 ∨ v = 13 ∨ v = 14 ∨ v = 15 := by omega
  rcases this with rfl | rfl | rfl | rfl | rfl | rfl | rfl | rfl | rfl | rfl | rfl | rfl | rfl | rfl | rfl | rfl <;> rfl
set_option maxHeartbeats 2000000 in
set_option maxRecDepth 100000 in
theorem text_calls (H : List Int) (h32 : H.length = 32) (hb : ∀ x ∈ H, 0 ≤ x ∧ x ≤ 255) (w : World) : Calls Try.prog 18 #[.agg (u8s H)] w fun e w' => e = .returned (.string (strOfNums (hexT H))) ∧ Below w.heap.size w w' := by
  obtain ⟨i0, hi, hz0, hz1, hz2⟩ := info_parts infoB
  have HH := Aside0.mk h32
  have HB := Aside0.mk hb
  have HI := Aside0.mk (info32 h32)
  clear h32 hb
  go_enter Try.func18, Try.ntmps18
  go_upto_region 3 with (refine wpList_load_row rfl 27 _ rfl w.heap.size rfl 27 (u8s H) (0, 0) _ (blk_new w _) Try.underlying27 rfl HI.out ?_)
  obtain ⟨wa, hwa⟩ : ∃ wa, wa = w.alloc (.cells (u8s H) 27) := ⟨_, rfl⟩
  rw [← hwa]
  have HW : Aside0 (RInv w w.heap.size wa (.slice none 0 0) []) := ⟨OwnAt.nil _ _ _, by rw [hwa]; exact below_alloc (Below.refl _ _) _, Nat.le_refl _⟩
  clear hwa
  go_wp2_with fail
  go_loopg [3, 7] 32 (fun gk v3 v7 wr => ∃ (A : Option Addr) (c k n : Nat), v3 = .slice A n c ∧ v7 = .int .i64 k ∧ Aside0 (k ≤ 32) ∧ Aside0 (32 - k ≤ gk) ∧ Aside0 (n = (hexT (H.take k)).length) ∧ Aside0 (RInv w w.heap.size wr v3 (hexT (H.take k))))
  case atStart => exact ⟨none, 0, 0, 0, rfl, rfl, ⟨by omega⟩, ⟨by omega⟩, ⟨by simp [hexT]⟩, HW⟩
  case round =>
    clear HW
    obtain ⟨A, c, k, n, rfl, rfl, Hk, HG, HN, HW⟩ := hrel
    have hk := Hk.out
    by_cases hlt : k < 32
    · have l1 : decide ((k : Int) < 32) = true := decide_eq_true (by omega)
      have ix := idxA H HH.out k hlt
      obtain ⟨x, hx⟩ : ∃ x, x = H.getD k 0 := ⟨_, rfl⟩
      rw [← hx] at ix
      have hxb : 0 ≤ x ∧ x ≤ 255 := by
        rw [hx, List.getD_eq_getElem?_getD, List.getElem?_eq_getElem (by rw [HH.out]; exact hlt)]
        exact HB.out _ (List.getElem_mem _)
      have D1 := idxD (x / 16) (by omega) (by omega)
      have D2 := idxD (x % 16) (by omega) (by omega)
      have e15 := and15 hxb.1 hxb.2
      have HX := Aside0.mk hx
      clear hx
      go_upto_region 5 with (fail)
      obtain ⟨P, hP⟩ : ∃ P, P = [bt dig (x / 16), bt dig (x % 16)] := ⟨_, rfl⟩
      have hn64 : n ≤ 64 := by have := hexT_length (H.take k); rw [← HN.out, List.length_take] at this; omega
      have HWA : Aside0 (RInv w w.heap.size (wr.drew.alloc (.cells #[.int .u8 (bt dig (x / 16)), .int .u8 (bt dig (x % 16))] 5)) (.slice A n c) (hexT (H.take k))) := ⟨(show OwnAt wr.drew _ _ _ _ from HW.out.1).alloc _, (below_drew HW.out.2.1).alloc HW.out.2.1.size _, Nat.le_refl _⟩
      have HS : Aside0 (Src Try.prog 1 23 (.slice (some ⟨wr.drew.heap.size, 0, none⟩) 2 2) (nums .u8 P).length (nums .u8 P) (wr.drew.alloc (.cells #[.int .u8 (bt dig (x / 16)), .int .u8 (bt dig (x % 16))] 5))) := ⟨by rw [hP]; exact QT.src_new (news := nums .u8 [bt dig (x / 16), bt dig (x % 16)]) (cs := #[.int .u8 (bt dig (x / 16)), .int .u8 (bt dig (x % 16))]) Try.underlying23 (blk_new wr.drew _) rfl (QT.nums_one _ _)⟩
      have HPl : Aside0 (P.length = 2) := ⟨by rw [hP]; rfl⟩
      have HPP := Aside0.mk hP
      clear hP
      refine start_ (n := 10) (S := fun w' => True) (ds := []) #[false, false, false, false, false, false, false, false, false, false] (by kernel_rfl) rfl rfl trivial (fun hHeld => ?_)
      refine pure_ (i := 0) (N := some 10) (v := ?_) (a' := ?_) #[true, false, false, false, false, false, false, false, false, false] rfl rfl (by kernel_rfl) (fun _ _ _ h => h) (Or.inl ⟨by rfl, ?_⟩) ?_ ?_
      rotate_left
      · intro w'
        go_simp
        with_reducible rfl
      rotate_left
      · simp only [Act.put, List.setIfInBounds_toArray, List.set_cons_zero, List.set_cons_succ, i64_w, i32_w]
        rfl
      refine pure_ (i := 1) (N := some 11) (v := ?_) (a' := ?_) #[true, true, false, false, false, false, false, false, false, false] rfl rfl (by kernel_rfl) (fun _ _ _ h => h) (Or.inl ⟨by rfl, ?_⟩) ?_ ?_
      rotate_left
      · intro w'
        go_simp
        with_reducible rfl
      rotate_left
      · simp only [Act.put, List.setIfInBounds_toArray, List.set_cons_zero, List.set_cons_succ, i64_w, i32_w]
        rfl
      refine pure_ (i := 2) (N := some 12) (v := ?_) (a' := ?_) #[true, true, true, false, false, false, false, false, false, false] rfl rfl (by kernel_rfl) (fun _ _ _ h => h) (Or.inl ⟨by rfl, ?_⟩) ?_ ?_
      rotate_left
      · intro w'
        go_simp
        with_reducible rfl
      rotate_left
      · simp only [Act.put, List.setIfInBounds_toArray, List.set_cons_zero, List.set_cons_succ, i64_w, i32_w]
        rfl
      refine pure_ (i := 4) (N := some 14) (v := ?_) (a' := ?_) #[true, true, true, false, true, false, false, false, false, false] rfl rfl (by kernel_rfl) (fun _ _ _ h => h) (Or.inl ⟨by rfl, ?_⟩) ?_ ?_
      rotate_left
      · intro w'
        go_simp
        with_reducible rfl
      rotate_left
      · simp only [Act.put, List.setIfInBounds_toArray, List.set_cons_zero, List.set_cons_succ, i64_w, i32_w]
        rfl
      refine pure_ (i := 5) (N := some 15) (v := ?_) (a' := ?_) #[true, true, true, false, true, true, false, false, false, false] rfl rfl (by kernel_rfl) (fun _ _ _ h => h) (Or.inl ⟨by rfl, ?_⟩) ?_ ?_
      rotate_left
      · intro w'
        go_simp
        with_reducible rfl
      rotate_left
      · simp only [Act.put, List.setIfInBounds_toArray, List.set_cons_zero, List.set_cons_succ, i64_w, i32_w]
        rfl
      refine take_ (i := 3) (N := some 13) (v := ?_) (a' := ?_) #[true, true, true, true, true, true, false, false, false, false] rfl rfl (by kernel_rfl) (fun _ _ _ h => h) (Or.inl ⟨by rfl, ?_⟩) hHeld ?_ ?_
      rotate_left
      · intro w' _
        go_simp
        with_reducible rfl
      rotate_left
      · simp only [Act.put, List.setIfInBounds_toArray, List.set_cons_zero, List.set_cons_succ, i64_w, i32_w]
        rfl
      refine take_ (i := 6) (N := some 16) (v := ?_) (a' := ?_) #[true, true, true, true, true, true, true, false, false, false] rfl rfl (by kernel_rfl) (fun _ _ _ h => h) (Or.inl ⟨by rfl, ?_⟩) hHeld ?_ ?_
      rotate_left
      · intro w' _
        go_simp
        with_reducible rfl
      rotate_left
      · simp only [Act.put, List.setIfInBounds_toArray, List.set_cons_zero, List.set_cons_succ, i64_w, i32_w]
        rfl
      refine one_ (i := 7) (N := some 17) #[true, true, true, true, true, true, true, true, false, false] rfl rfl (by kernel_rfl) (by decide) (fun K hK => ?_)
      refine value_ (w1 := ?_) (v := ?_) (by rfl) rfl ?_ ?_
      rotate_left 2
      · go_simp
        constructor
        · rfl
        · rfl
      refine hK.out _ _ trivial (fun hHeld => ?_)
      clear hK K
      refine norm_ (a' := ?_) ?_ ?_
      rotate_left
      · show Act.put _ (some 17) _ = _
        simp only [Act.put, List.setIfInBounds_toArray, List.set_cons_zero, List.set_cons_succ, i64_w, i32_w]
        rfl
      refine one_ (i := 8) (N := some 18) #[true, true, true, true, true, true, true, true, true, false] rfl rfl (by kernel_rfl) (by decide) (fun K hK => ?_)
      refine QT.append_step (N := some 18) (by rfl) rfl _ _ 23 23 rfl 5 i0 (.int .u8 0) 1 Try.underlying23 hi hz0 rfl hz1 hz2 rfl HWA.out.1 _ rfl (nums .u8 P) HS.out (QT.nums_one _ _) (by rw [nums_length, nums_length, ← HN.out, HPl.out]; show (n + 2) * 1 ≤ _; omega) (by decide) HWA.out.le ?_
      intro v4 w4 hO4 hG4 hv4
      have hI4 := HWA.out.app hO4 hG4
      rw [HPP.out, HX.out, ← hexT_succ H k (by rw [HH.out]; exact hlt)] at hI4
      obtain ⟨A4, c4, e4, _, _⟩ := hI4.1.slice
      rw [nums_length] at e4
      obtain ⟨n4, hn4⟩ : ∃ n4, n4 = (hexT (H.take (k + 1))).length := ⟨_, rfl⟩
      rw [← hn4] at e4
      subst e4
      have HI4 := Aside0.mk hI4
      have HN4 := Aside0.mk hn4
      clear hI4 hO4 hG4 hv4 hn4
      refine hK.out _ _ trivial (fun hHeld => ?_)
      clear hK K
      refine norm_ (a' := ?_) ?_ ?_
      rotate_left
      · show Act.put _ (some 18) _ = _
        simp only [Act.put, List.setIfInBounds_toArray, List.set_cons_zero, List.set_cons_succ, i64_w, i32_w]
        rfl
      refine pure_ (i := 9) (N := some 3) (v := ?_) (a' := ?_) #[true, true, true, true, true, true, true, true, true, true] rfl rfl (by kernel_rfl) (fun _ _ _ h => h) (Or.inl ⟨by rfl, ?_⟩) ?_ ?_
      rotate_left
      · intro w'
        go_simp
        with_reducible rfl
      rotate_left
      · simp only [Act.put, List.setIfInBounds_toArray, List.set_cons_zero, List.set_cons_succ, i64_w, i32_w]
        rfl
      refine done_ (by kernel_rfl) ?_

      clear HWA HS HW
      go_wp2
      go_roundg (32 - (k + 1))
      case measure => have := HG.out; omega
      case rel => exact ⟨A4, c4, k + 1, n4, rfl, by go_num, ⟨by omega⟩, ⟨Nat.le_refl _⟩, HN4, HI4⟩
    · have l1 : decide ((k : Int) < 32) = false := decide_eq_false (by omega)
      have hk32 : k = 32 := by omega
      have hT : hexT (H.take k) = hexT H := by rw [hk32, ← HH.out, List.take_length]
      rw [hT] at HW HN
      have HC : Aside0 (Kd.C (Kd.int .u8) wr A n (hexT H)) := ⟨by rw [HN.out]; exact C_own HW.out.1⟩
      have hcv := Kd.C_string (dst := 9) (c := c) Try.underlying23 Try.underlying5 Try.underlying9 HC.out
      clear hT hk32 hlt
      go_wp2
      go_ret
      exact ⟨rfl, HW.out.2.1⟩
end Go.Proofs.Ytlonhkechpgbiaa.Sh
