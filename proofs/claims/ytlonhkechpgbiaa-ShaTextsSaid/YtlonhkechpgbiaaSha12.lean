/- The walk of awake. -/
import Derived.Test.YtlonhkechpgbiaaSha11
import Derived.Lib.SlBytesConst
namespace Go.Proofs.Ytlonhkechpgbiaa.Sh
open Go.RowKit Go.Proofs.Ytlonhkechpgbiaa.Pr Go.Proofs.YtlonhkechpgbiaaW.PrintWords Go.Proofs.YtlonhkechpgbiaaW.PrintLast Go.Proofs.YtlonhkechpgbiaaW.PrintMore
open Go.Proofs.Ytlonhkechpgbiaa.QT (OwnAt)
set_option linter.unusedVariables false
set_option linter.unusedSimpArgs false
theorem ref_abc : (refS [97, 98, 99]).take 4 = [186, 120, 22, 191] := by decide +kernel
theorem ref_nil : (refS []).take 4 = [227, 176, 196, 66] := by decide +kernel
theorem sumLr (A : Option Addr) (c : Nat) (L : List (List Int)) (w : World) (hP : Parts w A L) (hc : L.length ≤ 9223372036854775807) (hb : ∀ l ∈ L, ∀ x ∈ l, 0 ≤ x ∧ x ≤ 255) (ht : tot L ≤ 70368744177664) (n : Nat) (hn : n = L.length) (R : List Int) (hR : R = refS L.flatten) :
    Calls Try.prog 10 #[.slice A n c] w fun e w' => e = .returned (.agg (u8s R)) ∧ Below w.heap.size w w' := by
  rw [hn, hR, ← sumL_ref]
  exact sum_calls A c L w hP hc hb ht
theorem rsumr (A : Option Addr) (c : Nat) (l : List Int) (w : World) (hC : Kd.C (Kd.int .u8) w A l.length l) (hc : l.length ≤ c) (hb : ∀ x ∈ l, 0 ≤ x ∧ x ≤ 255) (hl : l.length ≤ 70368744177664) (n : Nat) (hn : n = l.length) (R : List Int) (hR : R = refS l) :
    Calls Try.prog 11 #[.slice A n c] w fun e w' => e = .returned (.agg (u8s R)) ∧ Below w.heap.size w w' := by
  rw [hn, hR]
  exact rsum_calls A c l w hC hc hb hl _ _ _ rfl
/-- A row's block, read. -/
theorem C_blk {w : World} {b : Nat} {t : TypeId} {l : List Int} {cs : Array Value} {fz : Nat × Nat} (hb : w.heap[b]? = some (.cells cs t fz)) (hcs : ∀ j, j < l.length → cs[j]? = some (.int .u8 (l.getD j 0))) (hl : l.length ≤ 9223372036854775807) : Kd.C (Kd.int .u8) w (some ⟨b, 0, none⟩) l.length l := by
  refine Kd.C_of_reads (d := (0 : Int)) (h1 := fun _ => rfl) ⟨rfl, hl, fun h0 => ⟨_, rfl, fun j hj => ?_⟩⟩
  rw [show (⟨b, 0, none⟩ : Addr).add j = ⟨b, 0 + j, none⟩ by unfold Addr.add; split <;> simp_all]
  rw [Nat.zero_add]
  exact (cell_of_row w b j cs t fz hb).trans (hcs j hj)
set_option maxHeartbeats 4000000 in
set_option maxRecDepth 100000 in
theorem awake_calls (w : World) : Calls Try.prog 9 #[] w fun e w' => e = .returned (.bool true) ∧ Below w.heap.size w w' := by
  go_enter Try.func9, Try.ntmps9
  have k1 := Lib.run_convert_bytes_const (P := Try.prog) w 23 5 #[.int .u8 97] 1 1 Try.underlying23 Try.underlying5
  have k2 := Lib.run_convert_bytes_const (P := Try.prog) (w.alloc (.cells #[.int .u8 97] 5 (1, 2))) 23 5 #[.int .u8 98, .int .u8 99] 2 2 Try.underlying23 Try.underlying5
  rw [show (w.alloc (.cells #[.int .u8 97] 5 (1, 2))).heap.size = w.heap.size + 1 by simp] at k2
  go_wp2_with fail
  clear k1 k2
  obtain ⟨w0, hw0⟩ : ∃ w0, w0 = ((w.alloc (.cells #[.int .u8 97] 5 (1, 2))).alloc (.cells #[.int .u8 98, .int .u8 99] 5 (2, 3))) := ⟨_, rfl⟩
  have b0 : w0.heap[w.heap.size]? = some (.cells #[.int .u8 97] 5 (1, 2)) := by rw [hw0]; exact blk_alloc (blk_new _ _) _
  have b1 : w0.heap[w.heap.size + 1]? = some (.cells #[.int .u8 98, .int .u8 99] 5 (2, 3)) := by rw [hw0]; exact blk_at _ (by simp)
  have hs0 : w0.heap.size = w.heap.size + 1 + 1 := by rw [hw0]; simp
  have HB0 : Aside0 (Below w.heap.size w w0) := ⟨by rw [hw0]; exact below_alloc (below_alloc (Below.refl _ _) _) _⟩
  obtain ⟨w1, hw1⟩ : ∃ w1, w1 = w0.alloc (.cells #[.slice (some ⟨w.heap.size, 0, none⟩) 1 1, .slice (some ⟨w.heap.size + 1, 0, none⟩) 2 2] 23) := ⟨_, rfl⟩
  rw [← hw0, ← hw1, ← hs0]
  have c0 := blk_alloc b0 (.cells #[.slice (some ⟨w.heap.size, 0, none⟩) 1 1, .slice (some ⟨w.heap.size + 1, 0, none⟩) 2 2] 23)
  have c1 := blk_alloc b1 (.cells #[.slice (some ⟨w.heap.size, 0, none⟩) 1 1, .slice (some ⟨w.heap.size + 1, 0, none⟩) 2 2] 23)
  have c2 := blk_new w0 (.cells #[.slice (some ⟨w.heap.size, 0, none⟩) 1 1, .slice (some ⟨w.heap.size + 1, 0, none⟩) 2 2] 23)
  rw [← hw1] at c0 c1 c2
  have HB1 : Aside0 (Below w.heap.size w w1) := ⟨by rw [hw1]; exact HB0.out.alloc HB0.out.size _⟩
  have hP : Parts w1 (some ⟨w0.heap.size, 0, none⟩) [[97], [98, 99]] := by
    intro i hi
    have k0 := C_blk (l := [97]) c0 (fun j hj => by
      have : j = 0 := by simp at hj; omega
      subst this; rfl) (by decide)
    have k1 := C_blk (l := [98, 99]) c1 (fun j hj => by
      have : j = 0 ∨ j = 1 := by simp at hj; omega
      rcases this with rfl | rfl <;> rfl) (by decide)
    have : i = 0 ∨ i = 1 := by simp at hi; omega
    rcases this with rfl | rfl
    · exact ⟨_, _, 1, rfl, blk_cell c2 0, by decide, k0⟩
    · exact ⟨_, _, 2, rfl, (by rw [show (⟨w0.heap.size, 0, none⟩ : Addr).add 1 = ⟨w0.heap.size, 1, none⟩ from rfl]; exact blk_cell c2 1), by decide, k1⟩
  obtain ⟨R, hR⟩ : ∃ R, R = refS [97, 98, 99] := ⟨_, rfl⟩
  refine (sumLr _ 2 [[97], [98, 99]] w1 hP (by decide) (by decide) (by decide) 2 rfl R hR).mono ?_
  rintro e w2 ⟨rfl, hb2⟩
  have HB2 : Aside0 (Below w.heap.size w w2) := ⟨HB1.out.trans (hb2.mono (by have := HB1.out.size; omega))⟩
  have hR32 : R.length = 32 := by rw [hR]; exact refS_length _
  have hR4 : R.take 4 = [186, 120, 22, 191] := by rw [hR]; exact ref_abc
  have HI2 := Aside0.mk (info32 hR32)
  have HRR := Aside0.mk hR32
  clear hP hR c0 c1 c2 hw1 hs0 hw0 b0 b1 hb2 HB1 HB0 hR32
  have hR4' := Aside0.mk hR4
  clear hR4
  go_upto_region 2 with (refine wpList_store_row rfl 27 _ _ rfl w2.heap.size (u8s R) rfl rfl 27 _ (blk_new w2 _) HI2.out (by rw [u8s_size, HRR.out]; rfl) (u8s_one R) ?_)
  obtain ⟨g1, hg1⟩ : ∃ g, g = w2.heap.size := ⟨_, rfl⟩
  rw [← hg1]
  obtain ⟨w3, hw3⟩ : ∃ w3, w3 = (w2.alloc (.cells (u8s (List.replicate 32 0)) 27)).setRow g1 (u8s R) := ⟨_, rfl⟩
  change Code.wp _ _ _ _ ((w2.alloc (.cells (u8s (List.replicate 32 0)) 27)).setRow g1 (u8s R))
  rw [← hw3]
  have HA3 : Aside0 (ArrB w3 g1 27 R) := ⟨by rw [hw3, hg1]; exact setRow_heap _ _ _ _ _ _ (blk_new _ _)⟩
  have HB3 : Aside0 (Below w.heap.size w w3) := ⟨by rw [hw3, hg1]; exact below_setRow (HB2.out.alloc HB2.out.size _) HB2.out.size _⟩
  clear hg1 hw3 HB2
  go_wp2_with fail
  obtain ⟨R', hR'⟩ : ∃ R, R = refS [] := ⟨_, rfl⟩
  refine (sumLr none 0 [] w3 (fun i hi => absurd hi (Nat.not_lt_zero _)) (by decide) (fun l hl => by cases hl) (by decide) 0 rfl R' hR').mono ?_
  rintro e w4 ⟨rfl, hb4⟩
  have HB4 : Aside0 (Below w.heap.size w w4) := ⟨HB3.out.trans (hb4.mono HB3.out.size)⟩
  have HA4 : Aside0 (ArrB w4 g1 27 R) := ⟨blk_below HA3.out hb4⟩
  have hR32 : R'.length = 32 := by rw [hR']; exact refS_length _
  have hR4 : R'.take 4 = [227, 176, 196, 66] := by rw [hR']; exact ref_nil
  have HI4 := Aside0.mk (info32 hR32)
  have HRR' := Aside0.mk hR32
  have HR4' := Aside0.mk hR4
  clear hb4 hR4 hR32 hR' HA3 HB3
  go_upto_region 3 with (refine wpList_store_row rfl 27 _ _ rfl w4.heap.size (u8s R') rfl rfl 27 _ (blk_new w4 _) HI4.out (by rw [u8s_size, HRR'.out]; rfl) (u8s_one R') ?_)
  obtain ⟨g2, hg2⟩ : ∃ g, g = w4.heap.size := ⟨_, rfl⟩
  rw [← hg2]
  obtain ⟨w5, hw5⟩ : ∃ w5, w5 = (w4.alloc (.cells (u8s (List.replicate 32 0)) 27)).setRow g2 (u8s R') := ⟨_, rfl⟩
  change Code.wp _ _ _ _ ((w4.alloc (.cells (u8s (List.replicate 32 0)) 27)).setRow g2 (u8s R'))
  rw [← hw5]
  have HA5 : ArrB w5 g1 27 R := by rw [hw5]; exact (setRow_other _ _ _ _ (by have := blk_lt HA4.out; omega)).trans (blk_alloc HA4.out _)
  have HA6 : ArrB w5 g2 27 R' := by rw [hw5, hg2]; exact setRow_heap _ _ _ _ _ _ (blk_new _ _)
  have HB5 : Aside0 (Below w.heap.size w w5) := ⟨by rw [hw5, hg2]; exact below_setRow (HB4.out.alloc HB4.out.size _) HB4.out.size _⟩
  have q0 := HA5.cell 0 (by rw [HRR.out]; decide)
  have q1 := HA5.cell 1 (by rw [HRR.out]; decide)
  have q2 := HA5.cell 2 (by rw [HRR.out]; decide)
  have q3 := HA5.cell 3 (by rw [HRR.out]; decide)
  have p0 := HA6.cell 0 (by rw [HRR'.out]; decide)
  have p1 := HA6.cell 1 (by rw [HRR'.out]; decide)
  have p2 := HA6.cell 2 (by rw [HRR'.out]; decide)
  have p3 := HA6.cell 3 (by rw [HRR'.out]; decide)
  have hgt : ∀ (L : List Int) (a b c d : Int), L.take 4 = [a, b, c, d] → L.getD 0 0 = a ∧ L.getD 1 0 = b ∧ L.getD 2 0 = c ∧ L.getD 3 0 = d := by
    intro L a b c d h
    match L, h with
    | [], h => cases h
    | [_], h => cases h
    | [_, _], h => cases h
    | [_, _, _], h => cases h
    | x :: y :: z :: t :: r, h => simp at h; obtain ⟨rfl, rfl, rfl, rfl⟩ := h; exact ⟨rfl, rfl, rfl, rfl⟩
  obtain ⟨e0, e1, e2, e3⟩ := hgt R _ _ _ _ hR4'.out
  obtain ⟨f0, f1, f2, f3⟩ := hgt R' _ _ _ _ HR4'.out
  rw [e0] at q0; rw [e1] at q1; rw [e2] at q2; rw [e3] at q3
  rw [f0] at p0; rw [f1] at p1; rw [f2] at p2; rw [f3] at p3
  clear e0 e1 e2 e3 f0 f1 f2 f3 hgt hg2 hw5 HA5 HA6 HA4 HB4 HR4' hR4'
  go_wp2
  go_ret
  exact ⟨rfl, HB5.out⟩
end Go.Proofs.Ytlonhkechpgbiaa.Sh
