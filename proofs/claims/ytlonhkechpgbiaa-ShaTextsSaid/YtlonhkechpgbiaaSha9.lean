/- The walk of the reference's block. -/
import Derived.Test.YtlonhkechpgbiaaSha8
namespace Go.Proofs.Ytlonhkechpgbiaa.Sh
open Go.RowKit Go.Proofs.Ytlonhkechpgbiaa.Pr Go.Proofs.YtlonhkechpgbiaaW.PrintWords Go.Proofs.YtlonhkechpgbiaaW.PrintLast Go.Proofs.YtlonhkechpgbiaaW.PrintMore
set_option linter.unusedVariables false
set_option linter.unusedSimpArgs false
theorem set8 {w : World} {g T : Nat} {x0 x1 x2 x3 x4 x5 x6 x7 : Value} (h : w.heap[g]? = some (.cells #[x0, x1, x2, x3, x4, x5, x6, x7] T (0, 0))) (u0 u1 u2 u3 u4 u5 u6 u7 : Value) :
    ((((((((w.setCell ⟨g, 0, none⟩ u0).setCell ⟨g, 1, none⟩ u1).setCell ⟨g, 2, none⟩ u2).setCell ⟨g, 3, none⟩ u3).setCell ⟨g, 4, none⟩ u4).setCell ⟨g, 5, none⟩ u5).setCell ⟨g, 6, none⟩ u6).setCell ⟨g, 7, none⟩ u7).heap[g]? = some (.cells #[u0, u1, u2, u3, u4, u5, u6, u7] T (0, 0)) ∧
    (∀ k, k ≠ g → ((((((((w.setCell ⟨g, 0, none⟩ u0).setCell ⟨g, 1, none⟩ u1).setCell ⟨g, 2, none⟩ u2).setCell ⟨g, 3, none⟩ u3).setCell ⟨g, 4, none⟩ u4).setCell ⟨g, 5, none⟩ u5).setCell ⟨g, 6, none⟩ u6).setCell ⟨g, 7, none⟩ u7).heap[k]? = w.heap[k]?) ∧
    (∀ B w0, Below B w0 w → B ≤ g → Below B w0 ((((((((w.setCell ⟨g, 0, none⟩ u0).setCell ⟨g, 1, none⟩ u1).setCell ⟨g, 2, none⟩ u2).setCell ⟨g, 3, none⟩ u3).setCell ⟨g, 4, none⟩ u4).setCell ⟨g, 5, none⟩ u5).setCell ⟨g, 6, none⟩ u6).setCell ⟨g, 7, none⟩ u7)) := by
  refine ⟨?_, fun k hk => ?_, fun B w0 hb hg => ?_⟩
  · have kk := blk_set (blk_set (blk_set (blk_set (blk_set (blk_set (blk_set (blk_set h 0 u0) 1 u1) 2 u2) 3 u3) 4 u4) 5 u5) 6 u6) 7 u7
    simp only [List.setIfInBounds_toArray, List.set_cons_zero, List.set_cons_succ] at kk
    exact kk
  · rw [heap_setCell_other _ _ _ _ hk, heap_setCell_other _ _ _ _ hk, heap_setCell_other _ _ _ _ hk, heap_setCell_other _ _ _ _ hk, heap_setCell_other _ _ _ _ hk, heap_setCell_other _ _ _ _ hk, heap_setCell_other _ _ _ _ hk, heap_setCell_other _ _ _ _ hk]
  · exact (((((((hb.setCell hg _).setCell hg _).setCell hg _).setCell hg _).setCell hg _).setCell hg _).setCell hg _).setCell hg _
theorem rturn_calls (x n : Int) (w : World) (h0 : 0 ≤ n) (h1 : n ≤ 32) : Calls Try.prog 27 #[.int .u32 x, .int .i64 n] w fun e w' => e = .returned (.int .u32 (trn x n)) ∧ Drawn0 w w' := by
  refine parapetref1_turn.calls x n _ w ?_
  have e : wrap64 (32 - n) = 32 - n := by unfold wrap64; omega
  unfold parapetref1_turn.f trn
  rw [if_pos h0, e, if_pos (by omega)]
set_option maxHeartbeats 4000000 in
set_option maxRecDepth 100000 in
theorem block_calls (gt gh : Nat) (hgt : gt ≠ gh) (s : S8) (w : World) (hT : Arr w gt 53 tabL) (hH : Arr w gh 34 s.list)
    (ad : Addr) (c : Nat) (l : List Int) (hl : ∀ i, 0 ≤ l.getD i 0 ∧ l.getD i 0 ≤ 255) (hc : ∀ j, j < 64 → w.cell? (ad.add j) = some (.int .u8 (l.getD j 0))) :
    Calls Try.prog 21 #[.pointer (some ⟨gt, 0, none⟩), .pointer (some ⟨gh, 0, none⟩), .slice (some ad) 64 c] w fun e w' => e = .returned (.tuple #[]) ∧ Arr w' gh 34 (blockS s l).list ∧ Keep w w' gh := by
  have HTT := Aside0.mk hT
  have HHH := Aside0.mk hH
  have HGT := Aside0.mk hgt
  have HGHL : Aside0 (gh < w.heap.size) := ⟨blk_lt hH⟩
  clear hT hH hgt
  have hc1 : ∀ j, j + 1 < 64 → w.cell? ⟨ad.block, ad.off + (j + 1), none⟩ = some (.int .u8 (l.getD (j + 1) 0)) := fun j hj => by
    have := hc (j + 1) hj; simpa [Addr.add] using this
  have HC := Aside0.mk hc
  have HC1 := Aside0.mk hc1
  have HL0 := Aside0.mk hl
  clear hc hc1 hl
  obtain ⟨s0, s1, s2, s3, s4, s5, s6, s7⟩ := s
  go_enter Try.func21, Try.ntmps21
  go_wp2
  go_loopg [7] 16 (fun gk v7 w' => ∃ (k : Nat) (L : List Int), v7 = .int .i64 k ∧ Aside0 (k ≤ 16) ∧ Aside0 (16 - k ≤ gk) ∧ Aside0 (L = W1 l k) ∧ Aside0 (Arr w' w.heap.size 51 L) ∧ Aside0 (Below w.heap.size w w'))
  case atStart => exact ⟨0, W1 l 0, rfl, ⟨by omega⟩, ⟨by omega⟩, ⟨rfl⟩, ⟨by unfold Arr; rw [blk_new]; rfl⟩, ⟨below_alloc (Below.refl _ _) _⟩⟩
  case round =>
    obtain ⟨k, L, rfl, Hk, HG, HL, HA, HB⟩ := hrel
    have hk := Hk.out
    by_cases hlt : k < 16
    · have e1 : decide (k < 16) = true := decide_eq_true hlt
      have z0 : 0 ≤ (k : Int) := by omega
      have z1 : (k : Int) < 16 := by omega
      obtain ⟨x0, hx0⟩ : ∃ x, x = l.getD (4 * k) 0 := ⟨_, rfl⟩
      obtain ⟨x1, hx1⟩ : ∃ x, x = l.getD (4 * k + 1) 0 := ⟨_, rfl⟩
      obtain ⟨x2, hx2⟩ : ∃ x, x = l.getD (4 * k + 2) 0 := ⟨_, rfl⟩
      obtain ⟨x3, hx3⟩ : ∃ x, x = l.getD (4 * k + 3) 0 := ⟨_, rfl⟩
      have h0 : wr.cell? (ad.add (4 * k)) = some (.int .u8 x0) := by rw [hx0]; exact (HB.out.cell (World.block_lt_of_cell? w _ (HC.out _ (by omega)))).trans (HC.out _ (by omega))
      have h1 : wr.cell? (⟨ad.block, ad.off + (4 * k + 1), none⟩) = some (.int .u8 x1) := by rw [hx1]; exact (HB.out.cell (World.block_lt_of_cell? w _ (HC1.out _ (by omega)))).trans (HC1.out _ (by omega))
      have h2 : wr.cell? (⟨ad.block, ad.off + (4 * k + 2), none⟩) = some (.int .u8 x2) := by rw [hx2]; exact (HB.out.cell (World.block_lt_of_cell? w _ (HC1.out _ (by omega)))).trans (HC1.out _ (by omega))
      have h3 : wr.cell? (⟨ad.block, ad.off + (4 * k + 3), none⟩) = some (.int .u8 x3) := by rw [hx3]; exact (HB.out.cell (World.block_lt_of_cell? w _ (HC1.out _ (by omega)))).trans (HC1.out _ (by omega))
      have r0 := HL0.out (4 * k); rw [← hx0] at r0
      have r1 := HL0.out (4 * k + 1); rw [← hx1] at r1
      have r2 := HL0.out (4 * k + 2); rw [← hx2] at r2
      have r3 := HL0.out (4 * k + 3); rw [← hx3] at r3
      obtain ⟨r0a, r0b⟩ := r0
      obtain ⟨r1a, r1b⟩ := r1
      obtain ⟨r2a, r2b⟩ := r2
      obtain ⟨r3a, r3b⟩ := r3
      have hL := HL.out
      have hL64 : L.length = 64 := by rw [hL]; exact W1_length l k
      have HW : Aside0 (L.set k (word4 x0 x1 x2 x3) = W1 l (k + 1)) := ⟨by rw [hL, hx0, hx1, hx2, hx3]; rfl⟩
      have m0 := HA.out.cell k (by omega)
      have mf := HA.out.fr k
      clear hx0 hx1 hx2 hx3 hL hL64
      have a0 : IntKind.i64.wrap (4 * (k : Int)) = 4 * (k : Int) := IntWalk.i64_in _ (by omega)
      have a1 : IntKind.i64.wrap (4 * (k : Int) + 1) = 4 * (k : Int) + 1 := IntWalk.i64_in _ (by omega)
      have a2 : IntKind.i64.wrap (4 * (k : Int) + 2) = 4 * (k : Int) + 2 := IntWalk.i64_in _ (by omega)
      have a3 : IntKind.i64.wrap (4 * (k : Int) + 3) = 4 * (k : Int) + 3 := IntWalk.i64_in _ (by omega)
      have b0 : 0 ≤ 4 * (k : Int) := by omega
      have b1 : 0 ≤ 4 * (k : Int) + 1 := by omega
      have b2 : 0 ≤ 4 * (k : Int) + 2 := by omega
      have b3 : 0 ≤ 4 * (k : Int) + 3 := by omega
      have d0 : 4 * (k : Int) < 64 := by omega
      have d1 : 4 * (k : Int) + 1 < 64 := by omega
      have d2 : 4 * (k : Int) + 2 < 64 := by omega
      have d3 : 4 * (k : Int) + 3 < 64 := by omega
      have t0 : (4 * (k : Int)).toNat = 4 * k := by omega
      have t1 : (4 * (k : Int) + 1).toNat = 4 * k + 1 := by omega
      have t2 : (4 * (k : Int) + 2).toNat = 4 * k + 2 := by omega
      have t3 : (4 * (k : Int) + 3).toNat = 4 * k + 3 := by omega
      go_wp2
      go_still_tail 34, (by kernel_rfl)
      change wpList _ _ _ _ _ (wr.drewN 1)
      go_wp2
      go_roundg (16 - (k + 1))
      case measure => have := HG.out; omega
      case rel =>
        refine ⟨k + 1, L.set k (word4 x0 x1 x2 x3), by go_num, ⟨by omega⟩, ⟨Nat.le_refl _⟩, HW, ⟨?_⟩, ⟨?_⟩⟩
        · exact Arr.set (blk_drewN HA.out 1) _ _
        · exact (pw_below_drewN HB.out _).setCell (Nat.le_refl _) _
    · have e1 : decide (k < 16) = false := decide_eq_false hlt
      have HA16 : Aside0 (Arr wr w.heap.size 51 (W1 l 16)) := Aside0.mk (by rw [← show k = 16 by omega, ← HL.out]; exact HA.out)
      clear HL HA
      obtain rfl : k = 16 := by omega
      go_wp2
      obtain ⟨wo, hwo⟩ : ∃ wo : World, wo = wr := ⟨_, rfl⟩
      subst hwo
      clear HG Hk hk hlt e1
      go_loopg [8] 48 (fun gk v8 w' => ∃ (k : Nat) (L : List Int), v8 = .int .i64 ((k : Int) + 16) ∧ Aside0 (k ≤ 48) ∧ Aside0 (48 - k ≤ gk) ∧ Aside0 (L = W2 (W1 l 16) k) ∧ Aside0 (Arr w' w.heap.size 51 L) ∧ Aside0 (Below w.heap.size w w'))
      case atStart => exact ⟨0, W1 l 16, rfl, ⟨by omega⟩, ⟨by omega⟩, ⟨rfl⟩, HA16, HB⟩
      case round =>
        clear HA16 HB
        obtain ⟨k, L, rfl, Hk, HG, HL, HA, HB⟩ := hrel
        have hk := Hk.out
        by_cases hlt : k < 48
        · have e1 : decide ((k : Int) + 16 < 64) = true := decide_eq_true (by omega)
          have hL := HL.out
          have hL64 : L.length = 64 := by rw [hL]; exact W2_length _ (W1_length l 16) k
          have m0 := HA.out.cell k (by omega)
          have m1 := HA.out.cell (1 + k) (by omega)
          have m2 := HA.out.cell (9 + k) (by omega)
          have m3 := HA.out.cell (14 + k) (by omega)
          have m4 := HA.out.cell (16 + k) (by omega)
          have mf := HA.out.fr (16 + k)
          obtain ⟨y0, hy0⟩ : ∃ x, x = L.getD k 0 := ⟨_, rfl⟩
          obtain ⟨y1, hy1⟩ : ∃ x, x = L.getD (1 + k) 0 := ⟨_, rfl⟩
          obtain ⟨y2, hy2⟩ : ∃ x, x = L.getD (9 + k) 0 := ⟨_, rfl⟩
          obtain ⟨y3, hy3⟩ : ∃ x, x = L.getD (14 + k) 0 := ⟨_, rfl⟩
          have HW : Aside0 (L.set (16 + k) (mix y0 y2 y1 y3) = W2 (W1 l 16) (k + 1)) := ⟨by rw [hy0, hy1, hy2, hy3, hL]; rfl⟩
          rw [← hy0] at m0
          rw [← hy1] at m1
          rw [← hy2] at m2
          rw [← hy3] at m3
          clear hy0 hy1 hy2 hy3 hL hL64
          have a0 : IntKind.i64.wrap ((k : Int) + 16 - 15) = ((1 + k : Nat) : Int) := by rw [show (k : Int) + 16 - 15 = ((1 + k : Nat) : Int) by omega]; exact IntWalk.i64_in _ (by omega)
          have a1 : IntKind.i64.wrap ((k : Int) + 16 - 2) = ((14 + k : Nat) : Int) := by rw [show (k : Int) + 16 - 2 = ((14 + k : Nat) : Int) by omega]; exact IntWalk.i64_in _ (by omega)
          have a2 : IntKind.i64.wrap ((k : Int) + 16 - 16) = (k : Int) := by rw [show (k : Int) + 16 - 16 = (k : Int) by omega]; exact IntWalk.i64_in _ (by omega)
          have a3 : IntKind.i64.wrap ((k : Int) + 16 - 7) = ((9 + k : Nat) : Int) := by rw [show (k : Int) + 16 - 7 = ((9 + k : Nat) : Int) by omega]; exact IntWalk.i64_in _ (by omega)
          have b0 : 1 + k < 64 := by omega
          have b1 : 14 + k < 64 := by omega
          have b2 : k < 64 := by omega
          have b3 : 9 + k < 64 := by omega
          have b4 : (k : Int) + 16 < 64 := by omega
          have b5 : 0 ≤ (k : Int) + 16 := by omega
          have t4 : ((k : Int) + 16).toNat = 16 + k := by omega
          go_wp2
          refine QT.region 28 (by kernel_rfl) (by kernel_rfl) ?_
          simp only [List.take_succ_cons, List.take_zero, List.drop_succ_cons, List.drop_zero]
          repeat (go_big_quiet_step ((go_at_call 27; first | exact QT.quiet1 (rturn_calls _ _ _ (by omega) (by omega)) | exact QT.quiet0 (rturn_calls _ _ _ (by omega) (by omega)))))
          refine wpQuiet_nil ?_
          intro nq
          go_wp2
          go_roundg (48 - (k + 1))
          case measure => have := HG.out; omega
          case rel =>
            refine ⟨k + 1, L.set (16 + k) (mix y0 y2 y1 y3), by go_num, ⟨by omega⟩, ⟨Nat.le_refl _⟩, HW, ⟨?_⟩, ⟨?_⟩⟩
            · rw [show mix y0 y2 y1 y3 = (y0 + bits BinOp.xor IntKind.u32 (bits BinOp.xor IntKind.u32 (trn y1 7) (trn y1 18)) (y1 / 8) + y2 + bits BinOp.xor IntKind.u32 (bits BinOp.xor IntKind.u32 (trn y3 17) (trn y3 19)) (y3 / 1024)) % 4294967296 by unfold mix; congr 1; omega]
              exact Arr.set (blk_drewN HA.out _) _ _
            · exact (pw_below_drewN HB.out _).setCell (Nat.le_refl _) _
        · have e1 : decide ((k : Int) + 16 < 64) = false := decide_eq_false (by omega)
          have HA48 : Aside0 (Arr wr w.heap.size 51 (spreadL l)) := Aside0.mk (by rw [spreadL, ← show k = 48 by omega, ← HL.out]; exact HA.out)
          clear HL HA
          have hH : V8 wr gh s0 s1 s2 s3 s4 s5 s6 s7 := blk_below HHH.out HB.out
          have HT4 : Aside0 (Arr wr gt 53 tabL) := ⟨blk_below HTT.out HB.out⟩
          have c0 := (blk_cell hH 0).trans rfl
          have c1 := (blk_cell hH 1).trans rfl
          have c2 := (blk_cell hH 2).trans rfl
          have c3 := (blk_cell hH 3).trans rfl
          have c4 := (blk_cell hH 4).trans rfl
          have c5 := (blk_cell hH 5).trans rfl
          have c6 := (blk_cell hH 6).trans rfl
          have c7 := (blk_cell hH 7).trans rfl
          have HH := Aside0.mk hH
          clear hH
          go_upto_region 13 with (fail)
          obtain ⟨gv, hgv⟩ : ∃ gv, gv = wr.heap.size := ⟨_, rfl⟩
          obtain ⟨wv, hwv⟩ : ∃ wv, wv = wr.alloc (.cells #[.int .u32 s0, .int .u32 s1, .int .u32 s2, .int .u32 s3, .int .u32 s4, .int .u32 s5, .int .u32 s6, .int .u32 s7] 34) := ⟨_, rfl⟩
          rw [← hwv, ← hgv]
          obtain ⟨M, hM⟩ : ∃ M, M = spreadL l := ⟨_, rfl⟩
          have HM := Aside0.mk hM
          have HM64 : Aside0 (M.length = 64) := ⟨by rw [hM]; exact W2_length _ (W1_length l 16) 48⟩
          have hpm := blk_lt HA48.out
          have HPM : Aside0 (w.heap.size < gv) := ⟨by rw [hgv]; exact hpm⟩
          have HA4 : Aside0 (Arr wv w.heap.size 51 M) := ⟨by rw [hwv, hM]; exact blk_alloc HA48.out _⟩
          have HA5 : Aside0 (Arr wv gt 53 tabL) := ⟨by rw [hwv]; exact blk_alloc HT4.out _⟩
          have HA6 : Aside0 (V8 wv gv s0 s1 s2 s3 s4 s5 s6 s7) := ⟨by rw [hwv, hgv]; exact blk_new _ _⟩
          have HBv : Aside0 (Below w.heap.size w wv) := ⟨by rw [hwv]; exact HB.out.alloc (Nat.le_of_lt hpm) _⟩
          have HGTL : Aside0 (gt < w.heap.size) := ⟨blk_lt HTT.out⟩
          clear hwv hgv hM hpm HA48 HT4 HB HH c0 c1 c2 c3 c4 c5 c6 c7
          go_loopg [12] 64 (fun gk v12 wr => ∃ (k : Nat) (a0 a1 a2 a3 a4 a5 a6 a7 : Int), v12 = .int .i64 k ∧ Aside0 (k ≤ 64) ∧ Aside0 (64 - k ≤ gk) ∧ Aside0 (rounds M ⟨s0, s1, s2, s3, s4, s5, s6, s7⟩ k = ⟨a0, a1, a2, a3, a4, a5, a6, a7⟩) ∧ Aside0 (Arr wr w.heap.size 51 M) ∧ Aside0 (V8 wr gv a0 a1 a2 a3 a4 a5 a6 a7) ∧ Aside0 (Below w.heap.size w wr))
          case atStart => exact ⟨0, s0, s1, s2, s3, s4, s5, s6, s7, rfl, ⟨by omega⟩, ⟨by omega⟩, ⟨rfl⟩, HA4, HA6, HBv⟩
          case round =>
            clear HA4 HA5 HA6 HBv
            obtain ⟨k, a0, a1, a2, a3, a4, a5, a6, a7, rfl, Hk, HG, HRR, HA4, HA6, HB⟩ := hrel
            have hk := Hk.out
            by_cases hlt : k < 64
            · have e1 : decide (k < 64) = true := decide_eq_true hlt
              have z1 : (k : Int) < 64 := by omega
              have c0 := (blk_cell HA6.out 0).trans rfl
              have c1 := (blk_cell HA6.out 1).trans rfl
              have c2 := (blk_cell HA6.out 2).trans rfl
              have c3 := (blk_cell HA6.out 3).trans rfl
              have c4 := (blk_cell HA6.out 4).trans rfl
              have c5 := (blk_cell HA6.out 5).trans rfl
              have c6 := (blk_cell HA6.out 6).trans rfl
              have c7 := (blk_cell HA6.out 7).trans rfl
              have m0 := HA4.out.cell k (by rw [HM64.out]; exact hlt)
              have hA5 : Arr wr gt 53 tabL := blk_below HTT.out HB.out
              have m1 := hA5.cell (8 + k) (by show 8 + k < 72; omega)
              obtain ⟨x, hx⟩ : ∃ x, x = M.getD k 0 := ⟨_, rfl⟩
              obtain ⟨y, hy⟩ : ∃ x, x = KT.getD k 0 := ⟨_, rfl⟩
              rw [← hx] at m0
              rw [← tabL_K k hlt, ← hy] at m1
              have HX := Aside0.mk hx
              have HY := Aside0.mk hy
              clear hx hy hA5
              go_wp2
              go_quiet ((go_at_call 27; first | exact QT.quiet1 (rturn_calls _ _ _ (by omega) (by omega)) | exact QT.quiet0 (rturn_calls _ _ _ (by omega) (by omega))))
              go_wp2
              go_quiet ((go_at_call 27; first | exact QT.quiet1 (rturn_calls _ _ _ (by omega) (by omega)) | exact QT.quiet0 (rturn_calls _ _ _ (by omega) (by omega))))
              go_upto_region 19 with (fail)
              obtain ⟨T, hT⟩ : ∃ T, rT a4 a5 a6 a7 y x = T := ⟨_, rfl⟩
              obtain ⟨U, hU⟩ : ∃ U, rU a0 a1 a2 = U := ⟨_, rfl⟩
              unfold rT at hT
              unfold rU at hU
              rw [hT, hU]
              have HT := Aside0.mk (show rT a4 a5 a6 a7 y x = T from hT)
              have HU := Aside0.mk (show rU a0 a1 a2 = U from hU)
              clear hT hU m0 m1 c0 c1 c2 c3 c4 c5 c6 c7
              generalize hwz : World.drewN wr _ = wz
              have HA4z : Aside0 (Arr wz w.heap.size 51 M) := ⟨by rw [← hwz]; exact HA4.out⟩
              have HA6z : Aside0 (V8 wz gv a0 a1 a2 a3 a4 a5 a6 a7) := ⟨by rw [← hwz]; exact HA6.out⟩
              have HBz : Aside0 (Below w.heap.size w wz) := ⟨by rw [← hwz]; exact pw_below_drewN HB.out _⟩
              clear hwz HA4 HA6 HB
              have c0 := (blk_cell HA6z.out 0).trans rfl
              have c1 := (blk_cell HA6z.out 1).trans rfl
              have c2 := (blk_cell HA6z.out 2).trans rfl
              have c3 := (blk_cell HA6z.out 3).trans rfl
              have c4 := (blk_cell HA6z.out 4).trans rfl
              have c5 := (blk_cell HA6z.out 5).trans rfl
              have c6 := (blk_cell HA6z.out 6).trans rfl
              have c7 := (blk_cell HA6z.out 7).trans rfl
              have f0 := blk_frozen HA6z.out 0
              have f1 := blk_frozen HA6z.out 1
              have f2 := blk_frozen HA6z.out 2
              have f3 := blk_frozen HA6z.out 3
              have f4 := blk_frozen HA6z.out 4
              have f5 := blk_frozen HA6z.out 5
              have f6 := blk_frozen HA6z.out 6
              have f7 := blk_frozen HA6z.out 7
              go_wp2
              go_roundg (64 - (k + 1))
              case measure => have := HG.out; omega
              case rel =>
                have h8 := set8 (w := wz.drewN nq) (g := gv) (show (wz.drewN nq).heap[gv]? = _ from HA6z.out) (.int .u32 ((T + U) % 4294967296)) (.int .u32 a0) (.int .u32 a1) (.int .u32 a2) (.int .u32 ((a3 + T) % 4294967296)) (.int .u32 a4) (.int .u32 a5) (.int .u32 a6)
                refine ⟨k + 1, (T + U) % 4294967296, a0, a1, a2, (a3 + T) % 4294967296, a4, a5, a6, by go_num, ⟨by omega⟩, ⟨Nat.le_refl _⟩, ⟨by rw [rounds, HRR.out, ← HX.out, ← HY.out, ← HT.out, ← HU.out]; rfl⟩, ⟨(h8.2.1 _ (Nat.ne_of_lt HPM.out)).trans HA4z.out⟩, ⟨h8.1⟩, ⟨h8.2.2 _ _ (pw_below_drewN HBz.out nq) (Nat.le_of_lt HPM.out)⟩⟩
            · have e1 : decide (k < 64) = false := decide_eq_false hlt
              have hk64 : k = 64 := by omega
              subst hk64
              have HV : Aside0 (Arr wr gv 34 (S8.list ⟨a0, a1, a2, a3, a4, a5, a6, a7⟩)) := HA6
              have HD0 : Aside0 (Arr wr gh 34 (S8.list ⟨s0, s1, s2, s3, s4, s5, s6, s7⟩)) := ⟨blk_below HHH.out HB.out⟩
              obtain ⟨S, hS⟩ : ∃ S, S = S8.list ⟨s0, s1, s2, s3, s4, s5, s6, s7⟩ := ⟨_, rfl⟩
              obtain ⟨V, hV⟩ : ∃ V, V = S8.list ⟨a0, a1, a2, a3, a4, a5, a6, a7⟩ := ⟨_, rfl⟩
              rw [← hS] at HD0
              rw [← hV] at HV
              have HS := Aside0.mk hS
              have HVV := Aside0.mk hV
              clear hS hV HA4 HA6 e1 HG Hk hk hlt
              go_wp2
              obtain ⟨wo, hwo⟩ : ∃ wo : World, wo = wr := ⟨_, rfl⟩
              subst hwo
              go_loopg [17] 8 (fun gk v17 wr => ∃ (k : Nat), v17 = .int .i64 k ∧ Aside0 (k ≤ 8) ∧ Aside0 (8 - k ≤ gk) ∧ Aside0 (Arr wr gh 34 (addK S V k)) ∧ Aside0 (Arr wr gv 34 V) ∧ Aside0 (Keep w wr gh))
              case atStart => exact ⟨0, rfl, ⟨by omega⟩, ⟨by omega⟩, HD0, HV, ⟨⟨KeepBut.of_below HB.out _ _, HB.out.mono (Nat.le_of_lt HGHL.out)⟩⟩⟩
              case round =>
                clear HD0 HV HB
                obtain ⟨k, rfl, Hk, HG, HD, HV, HK⟩ := hrel
                have hk := Hk.out
                by_cases hlt : k < 8
                · have e1 : decide (k < 8) = true := decide_eq_true hlt
                  have z1 : (k : Int) < 8 := by omega
                  have hl8 : k < (addK S V k).length := by rw [addK_length, HS.out]; exact hlt
                  have m0 := HD.out.cell k hl8
                  have m1 := HV.out.cell k (by rw [HVV.out]; exact hlt)
                  have f0 := blk_frozen HD.out k
                  obtain ⟨x, hx⟩ : ∃ x, x = (addK S V k).getD k 0 := ⟨_, rfl⟩
                  obtain ⟨y, hy⟩ : ∃ x, x = V.getD k 0 := ⟨_, rfl⟩
                  rw [← hx] at m0
                  rw [← hy] at m1
                  have HX := Aside0.mk hx
                  clear hx hl8
                  have HY := Aside0.mk hy
                  clear hy
                  go_wp2
                  go_still_tail 12, (by kernel_rfl)
                  refine QT.drew_at ?_
                  go_wp2
                  go_roundg (8 - (k + 1))
                  case measure => have := HG.out; omega
                  case rel =>
                    refine ⟨k + 1, by go_num, ⟨by omega⟩, ⟨Nat.le_refl _⟩, ⟨?_⟩, ⟨?_⟩, ⟨?_⟩⟩
                    · have := Arr.set (show Arr (wr.drewN 1) gh 34 (addK S V k) from HD.out) k ((x + y) % 4294967296)
                      rw [addK, ← HX.out, ← HY.out]; exact this
                    · exact blk_far (p := ⟨gh, k, none⟩) (show (wr.drewN 1).heap[gv]? = _ from HV.out) (by have := HGHL.out; have := HPM.out; show gv ≠ gh; omega) _
                    · exact Keep.set (HK.out.drewN 1) _ _
                · have e1 : decide (k < 8) = false := decide_eq_false hlt
                  go_wp2
                  go_end0
                  have hk8 : k = 8 := by omega
                  subst hk8
                  refine ⟨rfl, ?_, HK.out⟩
                  have := HD.out
                  rw [HS.out, HVV.out, addK_all, ← HRR.out, HM.out] at this
                  exact this
end Go.Proofs.Ytlonhkechpgbiaa.Sh
