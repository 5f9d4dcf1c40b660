/- The walk of spread. -/
import Derived.Test.YtlonhkechpgbiaaPr
import Derived.Outline
import Derived.StillTailTactics
import Derived.BigRegion
import Derived.IntWalk
import Derived.Test.YtlonhkechpgbiaaQW
namespace Go.Proofs.Ytlonhkechpgbiaa.Sh
open Go.RowKit Go.Proofs.Ytlonhkechpgbiaa.Pr Go.Proofs.YtlonhkechpgbiaaW.PrintWords Go.Proofs.YtlonhkechpgbiaaW.PrintLast Go.Proofs.YtlonhkechpgbiaaW.PrintMore
set_option linter.unusedVariables false
set_option linter.unusedSimpArgs false

/-- An array of words of 32 digits. -/
def u32s (L : List Int) : Array Value := (L.map (Value.int .u32)).toArray
theorem u32s_get (L : List Int) (i : Nat) (h : i < L.length) : (u32s L)[i]? = some (.int .u32 (L.getD i 0)) := by
  simp [u32s, h]
theorem u32s_set (L : List Int) (i : Nat) (x : Int) : (u32s L).setIfInBounds i (.int .u32 x) = u32s (L.set i x) := by
  simp [u32s, List.map_set]
def Arr (w : World) (g T : Nat) (L : List Int) : Prop := w.heap[g]? = some (.cells (u32s L) T (0, 0))
theorem Arr.cell {w g T L} (h : Arr w g T L) (i : Nat) (hi : i < L.length) : w.cell? ⟨g, i, none⟩ = some (.int .u32 (L.getD i 0)) := (blk_cell h i).trans (u32s_get L i hi)
theorem u32s_size (L : List Int) : (u32s L).size = L.length := by simp [u32s]
theorem u32s_one (L : List Int) : (u32s L).all (·.oneCell') = true := by
  simp [u32s, Value.oneCell']
theorem info64 {L : List Int} (h : L.length = 64) : (Try.prog.info? 51).map (·.size) = some (u32s L).size := by
  rw [u32s_size, h]; kernel_rfl
theorem info8 {L : List Int} (h : L.length = 8) : (Try.prog.info? 34).map (·.size) = some (u32s L).size := by
  rw [u32s_size, h]; kernel_rfl
theorem Arr.fr {w g T L} (h : Arr w g T L) (i : Nat) : w.frozen? ⟨g, i, none⟩ = false := blk_frozen h i
theorem Arr.set {w g T L} (h : Arr w g T L) (i : Nat) (x : Int) : Arr (w.setCell ⟨g, i, none⟩ (.int .u32 x)) g T (L.set i x) := by
  have := blk_set h i (.int .u32 x); rw [u32s_set] at this; exact this

def word4 (x0 x1 x2 x3 : Int) : Int := bits BinOp.or IntKind.u32 (bits BinOp.or IntKind.u32 (bits BinOp.or IntKind.u32 (x0 * 16777216) (x1 * 65536)) (x2 * 256)) x3
def W1 (l : List Int) : Nat → List Int
  | 0 => List.replicate 64 0
  | k + 1 => (W1 l k).set k (word4 (l.getD (4 * k) 0) (l.getD (4 * k + 1) 0) (l.getD (4 * k + 2) 0) (l.getD (4 * k + 3) 0))
theorem W1_length (l : List Int) : ∀ k, (W1 l k).length = 64
  | 0 => by simp [W1]
  | k + 1 => by simp [W1, W1_length l k]
def trn (x n : Int) : Int := bits BinOp.or IntKind.u32 (shr IntKind.u32 x n) (shl IntKind.u32 x (32 - n))
theorem turn_calls (x n : Int) (w : World) (h0 : 0 ≤ n) (h1 : n ≤ 32) : Calls Try.prog 31 #[.int .u32 x, .int .i64 n] w fun e w' => e = .returned (.int .u32 (trn x n)) ∧ Drawn0 w w' := by
  refine sha_turn.calls x n _ w ?_
  have e : wrap64 (32 - n) = 32 - n := by unfold wrap64; omega
  unfold sha_turn.f trn
  rw [if_pos h0, e, if_pos (by omega)]
theorem turn_q (x n : Int) (w : World) (m : Nat) (h0 : 0 ≤ n) (h1 : n ≤ 32) : Calls Try.prog 31 #[.int .u32 x, .int .i64 n] (w.drewN m) fun e w'' => e = .returned (.int .u32 (trn x n)) ∧ ∃ m, w'' = w.drewN m :=
  Calls.quiet_of ((turn_calls x n _ h0 h1).mono fun _ _ ⟨he, ⟨m, hm⟩⟩ => ⟨he, m, hm⟩)
def mix (a b x y : Int) : Int := (a + b + bits BinOp.xor IntKind.u32 (bits BinOp.xor IntKind.u32 (trn x 7) (trn x 18)) (x / 8) + bits BinOp.xor IntKind.u32 (bits BinOp.xor IntKind.u32 (trn y 17) (trn y 19)) (y / 1024)) % 4294967296
def W2 (L : List Int) : Nat → List Int
  | 0 => L
  | n + 1 => (W2 L n).set (16 + n) (mix ((W2 L n).getD n 0) ((W2 L n).getD (9 + n) 0) ((W2 L n).getD (1 + n) 0) ((W2 L n).getD (14 + n) 0))
theorem W2_length (L : List Int) (h : L.length = 64) : ∀ k, (W2 L k).length = 64
  | 0 => h
  | k + 1 => by simp [W2, W2_length L h k]
def spreadL (l : List Int) : List Int := W2 (W1 l 16) 48

set_option maxHeartbeats 4000000 in
set_option maxRecDepth 100000 in
theorem spread_calls (ad : Addr) (c : Nat) (l : List Int) (w : World) (hl : ∀ i, 0 ≤ l.getD i 0 ∧ l.getD i 0 ≤ 255) (hc : ∀ j, j < 64 → w.cell? (ad.add j) = some (.int .u8 (l.getD j 0))) :
    Calls Try.prog 29 #[.slice (some ad) 64 c] w fun e w' => e = .returned (.agg (u32s (spreadL l))) ∧ Below w.heap.size w w' := by
  obtain ⟨M, hM⟩ : ∃ M, M = spreadL l := ⟨_, rfl⟩
  rw [← hM]
  have HMM := Aside0.mk hM
  clear hM
  have hc1 : ∀ j, j + 1 < 64 → w.cell? ⟨ad.block, ad.off + (j + 1), none⟩ = some (.int .u8 (l.getD (j + 1) 0)) := fun j hj => by
    have := hc (j + 1) hj; simpa [Addr.add] using this
  have HC := Aside0.mk hc
  have HC1 := Aside0.mk hc1
  have HL0 := Aside0.mk hl
  clear hc hc1 hl
  go_enter Try.func29, Try.ntmps29
  go_wp2
  go_loopg [7] 16 (fun gk v7 w' => ∃ (k : Nat) (L : List Int), v7 = .int .i64 k ∧ Aside0 (k ≤ 16) ∧ Aside0 (16 - k ≤ gk) ∧ Aside0 (L = W1 l k) ∧ Aside0 (Arr w' w.heap.size 51 L) ∧ Aside0 (Below w.heap.size w w'))
  case atStart => exact ⟨0, W1 l 0, rfl, ⟨by omega⟩, ⟨by omega⟩, ⟨rfl⟩, ⟨by unfold Arr; rw [blk_new]; rfl⟩, ⟨below_alloc (Below.refl _ _) _⟩⟩
  case round =>
    obtain ⟨k, L, rfl, Hk, HG, HL, HA, HB⟩ := hrel
    have hk := Hk.out
    by_cases hlt : k < 16
    · have e1 : decide (k < 16) = true := decide_eq_true hlt
      have z0 : 0 ≤ (k : Int) := by omega
      have z1 : (k : Int) < 16 := by omega
      obtain ⟨x0, hx0⟩ : ∃ x, x = l.getD (4 * k) 0 := ⟨_, rfl⟩
      obtain ⟨x1, hx1⟩ : ∃ x, x = l.getD (4 * k + 1) 0 := ⟨_, rfl⟩
      obtain ⟨x2, hx2⟩ : ∃ x, x = l.getD (4 * k + 2) 0 := ⟨_, rfl⟩
      obtain ⟨x3, hx3⟩ : ∃ x, x = l.getD (4 * k + 3) 0 := ⟨_, rfl⟩
      have h0 : wr.cell? (ad.add (4 * k)) = some (.int .u8 x0) := by rw [hx0]; exact (HB.out.cell (World.block_lt_of_cell? w _ (HC.out _ (by omega)))).trans (HC.out _ (by omega))
      have h1 : wr.cell? (⟨ad.block, ad.off + (4 * k + 1), none⟩) = some (.int .u8 x1) := by rw [hx1]; exact (HB.out.cell (World.block_lt_of_cell? w _ (HC1.out _ (by omega)))).trans (HC1.out _ (by omega))
      have h2 : wr.cell? (⟨ad.block, ad.off + (4 * k + 2), none⟩) = some (.int .u8 x2) := by rw [hx2]; exact (HB.out.cell (World.block_lt_of_cell? w _ (HC1.out _ (by omega)))).trans (HC1.out _ (by omega))
      have h3 : wr.cell? (⟨ad.block, ad.off + (4 * k + 3), none⟩) = some (.int .u8 x3) := by rw [hx3]; exact (HB.out.cell (World.block_lt_of_cell? w _ (HC1.out _ (by omega)))).trans (HC1.out _ (by omega))
      have r0 := HL0.out (4 * k); rw [← hx0] at r0
      have r1 := HL0.out (4 * k + 1); rw [← hx1] at r1
      have r2 := HL0.out (4 * k + 2); rw [← hx2] at r2
      have r3 := HL0.out (4 * k + 3); rw [← hx3] at r3
      obtain ⟨r0a, r0b⟩ := r0
      obtain ⟨r1a, r1b⟩ := r1
      obtain ⟨r2a, r2b⟩ := r2
      obtain ⟨r3a, r3b⟩ := r3
      have hL := HL.out
      have hL64 : L.length = 64 := by rw [hL]; exact W1_length l k
      have HW : Aside0 (L.set k (word4 x0 x1 x2 x3) = W1 l (k + 1)) := ⟨by rw [hL, hx0, hx1, hx2, hx3]; rfl⟩
      have m0 := HA.out.cell k (by omega)
      have mf := HA.out.fr k
      clear hx0 hx1 hx2 hx3 hL hL64
      have a0 : IntKind.i64.wrap (4 * (k : Int)) = 4 * (k : Int) := IntWalk.i64_in _ (by omega)
      have a1 : IntKind.i64.wrap (4 * (k : Int) + 1) = 4 * (k : Int) + 1 := IntWalk.i64_in _ (by omega)
      have a2 : IntKind.i64.wrap (4 * (k : Int) + 2) = 4 * (k : Int) + 2 := IntWalk.i64_in _ (by omega)
      have a3 : IntKind.i64.wrap (4 * (k : Int) + 3) = 4 * (k : Int) + 3 := IntWalk.i64_in _ (by omega)
      have b0 : 0 ≤ 4 * (k : Int) := by omega
      have b1 : 0 ≤ 4 * (k : Int) + 1 := by omega
      have b2 : 0 ≤ 4 * (k : Int) + 2 := by omega
      have b3 : 0 ≤ 4 * (k : Int) + 3 := by omega
      have d0 : 4 * (k : Int) < 64 := by omega
      have d1 : 4 * (k : Int) + 1 < 64 := by omega
      have d2 : 4 * (k : Int) + 2 < 64 := by omega
      have d3 : 4 * (k : Int) + 3 < 64 := by omega
      have t0 : (4 * (k : Int)).toNat = 4 * k := by omega
      have t1 : (4 * (k : Int) + 1).toNat = 4 * k + 1 := by omega
      have t2 : (4 * (k : Int) + 2).toNat = 4 * k + 2 := by omega
      have t3 : (4 * (k : Int) + 3).toNat = 4 * k + 3 := by omega
      go_wp2
      go_still_tail 34, (by kernel_rfl)
      change wpList _ _ _ _ _ (wr.drewN 1)
      go_wp2
      go_roundg (16 - (k + 1))
      case measure => have := HG.out; omega
      case rel =>
        refine ⟨k + 1, L.set k (word4 x0 x1 x2 x3), by go_num, ⟨by omega⟩, ⟨Nat.le_refl _⟩, HW, ⟨?_⟩, ⟨?_⟩⟩
        · exact Arr.set (blk_drewN HA.out 1) _ _
        · exact (pw_below_drewN HB.out _).setCell (Nat.le_refl _) _
    · have e1 : decide (k < 16) = false := decide_eq_false hlt
      have HA16 : Aside0 (Arr wr w.heap.size 51 (W1 l 16)) := Aside0.mk (by rw [← show k = 16 by omega, ← HL.out]; exact HA.out)
      clear HL HA
      obtain rfl : k = 16 := by omega
      go_wp2
      obtain ⟨wo, hwo⟩ : ∃ wo : World, wo = wr := ⟨_, rfl⟩
      subst hwo
      clear HG Hk hk hlt e1
      go_loopg [4] 48 (fun gk v4 w' => ∃ (k : Nat) (L : List Int), v4 = .int .i64 ((k : Int) + 16) ∧ Aside0 (k ≤ 48) ∧ Aside0 (48 - k ≤ gk) ∧ Aside0 (L = W2 (W1 l 16) k) ∧ Aside0 (Arr w' w.heap.size 51 L) ∧ Aside0 (Below w.heap.size w w'))
      case atStart => exact ⟨0, W1 l 16, rfl, ⟨by omega⟩, ⟨by omega⟩, ⟨rfl⟩, HA16, HB⟩
      case round =>
        clear HA16 HB
        obtain ⟨k, L, rfl, Hk, HG, HL, HA, HB⟩ := hrel
        have hk := Hk.out
        by_cases hlt : k < 48
        · have e1 : decide ((k : Int) + 16 < 64) = true := decide_eq_true (by omega)
          have hL := HL.out
          have hL64 : L.length = 64 := by rw [hL]; exact W2_length _ (W1_length l 16) k
          have m0 := HA.out.cell k (by omega)
          have m1 := HA.out.cell (1 + k) (by omega)
          have m2 := HA.out.cell (9 + k) (by omega)
          have m3 := HA.out.cell (14 + k) (by omega)
          have m4 := HA.out.cell (16 + k) (by omega)
          have mf := HA.out.fr (16 + k)
          obtain ⟨y0, hy0⟩ : ∃ x, x = L.getD k 0 := ⟨_, rfl⟩
          obtain ⟨y1, hy1⟩ : ∃ x, x = L.getD (1 + k) 0 := ⟨_, rfl⟩
          obtain ⟨y2, hy2⟩ : ∃ x, x = L.getD (9 + k) 0 := ⟨_, rfl⟩
          obtain ⟨y3, hy3⟩ : ∃ x, x = L.getD (14 + k) 0 := ⟨_, rfl⟩
          have HW : Aside0 (L.set (16 + k) (mix y0 y2 y1 y3) = W2 (W1 l 16) (k + 1)) := ⟨by rw [hy0, hy1, hy2, hy3, hL]; rfl⟩
          rw [← hy0] at m0
          rw [← hy1] at m1
          rw [← hy2] at m2
          rw [← hy3] at m3
          clear hy0 hy1 hy2 hy3 hL hL64
          have a0 : IntKind.i64.wrap ((k : Int) + 16 - 15) = ((1 + k : Nat) : Int) := by rw [show (k : Int) + 16 - 15 = ((1 + k : Nat) : Int) by omega]; exact IntWalk.i64_in _ (by omega)
          have a1 : IntKind.i64.wrap ((k : Int) + 16 - 2) = ((14 + k : Nat) : Int) := by rw [show (k : Int) + 16 - 2 = ((14 + k : Nat) : Int) by omega]; exact IntWalk.i64_in _ (by omega)
          have a2 : IntKind.i64.wrap ((k : Int) + 16 - 16) = (k : Int) := by rw [show (k : Int) + 16 - 16 = (k : Int) by omega]; exact IntWalk.i64_in _ (by omega)
          have a3 : IntKind.i64.wrap ((k : Int) + 16 - 7) = ((9 + k : Nat) : Int) := by rw [show (k : Int) + 16 - 7 = ((9 + k : Nat) : Int) by omega]; exact IntWalk.i64_in _ (by omega)
          have b0 : 1 + k < 64 := by omega
          have b1 : 14 + k < 64 := by omega
          have b2 : k < 64 := by omega
          have b3 : 9 + k < 64 := by omega
          have b4 : (k : Int) + 16 < 64 := by omega
          have b5 : 0 ≤ (k : Int) + 16 := by omega
          have t4 : ((k : Int) + 16).toNat = 16 + k := by omega
          go_wp2
          go_quiet (fail)
          go_wp2
          refine QT.region 28 (by kernel_rfl) (by kernel_rfl) ?_
          simp only [List.take_succ_cons, List.take_zero, List.drop_succ_cons, List.drop_zero]
          repeat (go_big_quiet_step ((go_at_call 31; first | exact QT.quiet1 (turn_calls _ _ _ (by omega) (by omega)) | exact QT.quiet0 (turn_calls _ _ _ (by omega) (by omega)))))
          refine wpQuiet_nil ?_
          intro nq
          go_wp2
          go_roundg (48 - (k + 1))
          case measure => have := HG.out; omega
          case rel =>
            refine ⟨k + 1, L.set (16 + k) (mix y0 y2 y1 y3), by go_num, ⟨by omega⟩, ⟨Nat.le_refl _⟩, HW, ⟨?_⟩, ⟨?_⟩⟩
            · exact Arr.set (blk_drewN HA.out _) _ _
            · exact (pw_below_drewN HB.out _).setCell (Nat.le_refl _) _
        · have e1 : decide ((k : Int) + 16 < 64) = false := decide_eq_false (by omega)
          have HA48 : Aside0 (Arr wr w.heap.size 51 M) := Aside0.mk (by rw [HMM.out, spreadL, ← show k = 48 by omega, ← HL.out]; exact HA.out)
          clear HL HA
          have hA := HA48.out
          have hn : M.length = 64 := by rw [HMM.out]; exact W2_length _ (W1_length l 16) 48
          have hi := info64 hn
          have HN := Aside0.mk hn
          have HI := Aside0.mk hi
          have HAA := Aside0.mk hA
          clear hn hi hA
          go_wp2_with (first | (refine wpList_load_row rfl 51 _ rfl w.heap.size rfl 51 (u32s M) (0, 0) _ HAA.out Try.underlying51 rfl HI.out ?_) | (refine wpList_store_row rfl 51 _ _ rfl w.heap.size (u32s M) rfl rfl 51 (u32s M) HAA.out HI.out rfl (u32s_one M) ?_; rw [setRow_self _ _ _ _ _ HAA.out]))
          exact bodyPost_ret (v := .agg (u32s M)) (results_cell_row rfl _ _ w.heap.size 51 (u32s M) (0, 0) _ rfl HAA.out Try.underlying51 rfl HI.out) rfl ⟨rfl, HB.out⟩
end Go.Proofs.Ytlonhkechpgbiaa.Sh
