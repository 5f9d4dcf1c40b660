/- The walk of the reference's Sum. -/
import Derived.Test.YtlonhkechpgbiaaSha9
namespace Go.Proofs.Ytlonhkechpgbiaa.Sh
open Go.RowKit Go.Proofs.Ytlonhkechpgbiaa.Pr Go.Proofs.YtlonhkechpgbiaaW.PrintWords Go.Proofs.YtlonhkechpgbiaaW.PrintLast Go.Proofs.YtlonhkechpgbiaaW.PrintMore
open Go.Proofs.Ytlonhkechpgbiaa.QT (OwnAt)
set_option linter.unusedVariables false
set_option linter.unusedSimpArgs false
def outL (S : List Int) : Nat → List Int
  | 0 => List.replicate 32 0
  | k + 1 => (outL S k).set k (S.getD (k / 4) 0 / 2 ^ (24 - 8 * (k % 4)) % 256)
theorem outL_length (S : List Int) : ∀ k, (outL S k).length = 32
  | 0 => by simp [outL]
  | k + 1 => by simp [outL, outL_length S k]
theorem outL_four (S : List Int) : ∀ k, outL S (4 * k) = hashL S k
  | 0 => rfl
  | k + 1 => by
    have e0 : (4 * k) / 4 = k := by omega
    have e1 : (4 * k + 1) / 4 = k := by omega
    have e2 : (4 * k + 1 + 1) / 4 = k := by omega
    have e3 : (4 * k + 1 + 1 + 1) / 4 = k := by omega
    have f0 : (4 * k) % 4 = 0 := by omega
    have f1 : (4 * k + 1) % 4 = 1 := by omega
    have f2 : (4 * k + 1 + 1) % 4 = 2 := by omega
    have f3 : (4 * k + 1 + 1 + 1) % 4 = 3 := by omega
    have p0 : (2 : Int) ^ (24 - 8 * 0) = 16777216 := by decide
    have p1 : (2 : Int) ^ (24 - 8 * 1) = 65536 := by decide
    have p2 : (2 : Int) ^ (24 - 8 * 2) = 256 := by decide
    have p3 : (2 : Int) ^ (24 - 8 * 3) = 1 := by decide
    rw [show 4 * (k + 1) = 4 * k + 1 + 1 + 1 + 1 by omega, outL, outL, outL, outL, outL_four S k, hashL, e0, e1, e2, e3, f0, f1, f2, f3, p0, p1, p2, p3, Int.ediv_one]
theorem outL_all (s : S8) : outL s.list 32 = hashL s.list 8 := outL_four s.list 8
theorem info32b {L : List Int} (h : L.length = 32) : (Try.prog.info? 26).map (·.size) = some (u8s L).size := by
  rw [u8s_size, h]; kernel_rfl
theorem add_add (a : Addr) (i j : Nat) : (a.add i).add j = a.add (i + j) := by
  unfold Addr.add
  by_cases hi : i = 0
  · subst hi; simp
  · by_cases hj : j = 0
    · subst hj; simp [hi]
    · rw [if_neg hi, if_neg hj, if_neg (by omega)]; simp [Nat.add_assoc]
/-- A tail that is made behind w0, of blocks from B on. -/
def RInv (w0 : World) (B : Nat) (wr : World) (v : Value) (T : List Int) : Prop := OwnAt wr B 5 v (nums .u8 T) ∧ Below B w0 wr ∧ B ≤ w0.heap.size
theorem RInv.lit {w0 wr : World} {B : Nat} {v : Value} {T : List Int} (h : RInv w0 B wr v T) (x : Int) : RInv w0 B (wr.alloc (.cells #[.int .u8 x] 5)) v T :=
  ⟨h.1.alloc _, h.2.1.alloc (Nat.le_trans h.2.2 h.2.1.size) _, h.2.2⟩
theorem RInv.le {w0 wr : World} {B : Nat} {v : Value} {T : List Int} (h : RInv w0 B wr v T) : B ≤ wr.heap.size := Nat.le_trans h.2.2 h.2.1.size
theorem RInv.app {w0 wr : World} {B : Nat} {v : Value} {T : List Int} (h : RInv w0 B wr v T) {p : List Int} {v' : Value} {w' : World}
    (hO : OwnAt w' B 5 v' (nums .u8 T ++ nums .u8 p)) (hG : wr.grownBy w' v.ownBlock) : RInv w0 B w' v' (T ++ p) := by
  refine ⟨by rw [nums_append]; exact hO, ⟨hG.os.trans h.2.1.os, hG.tape.trans h.2.1.tape, hG.output.trans h.2.1.output, Nat.le_trans h.2.1.size hG.size, fun i hi => (hG.block i (Nat.lt_of_lt_of_le hi h.le) (fun he => ?_)).trans (h.2.1.block i hi)⟩, h.2.2⟩
  have := h.1.base_le _ he.symm; omega

set_option maxHeartbeats 4000000 in
set_option maxRecDepth 100000 in
theorem rsum_calls (A : Option Addr) (c : Nat) (l : List Int) (w : World) (hC : Kd.C (Kd.int .u8) w A l.length l) (hc : l.length ≤ c) (hb : ∀ x ∈ l, 0 ≤ x ∧ x ≤ 255) (hl : l.length ≤ 70368744177664) (sF : S8) (bF : Bool) (rF : List Int) (hEF : eat (padD l (l.length : Int)).length ⟨1779033703, 3144134277, 1013904242, 2773480762, 1359893119, 2600822924, 528734635, 1541459225⟩ true (padD l (l.length : Int)) = (sF, bF, rF)) :
    Calls Try.prog 11 #[.slice A l.length c] w fun e w' => e = .returned (.agg (u8s (hashL sF.list 8))) ∧ Below w.heap.size w w' := by
  have HC := Aside0.mk hC
  have HBB := Aside0.mk hb
  obtain ⟨i0, hi, hz0, hz1, hz2⟩ := info_parts infoB
  have hz72 := zero72
  have HEF := Aside0.mk hEF
  clear hC hb hEF
  go_enter Try.func11, Try.ntmps11
  go_wp2_with fail
  refine (tables_calls _).mono ?_
  rintro e w1 ⟨rfl, hb1⟩
  have HP1 : Aside0 (ArrB w1 w.heap.size 26 (List.replicate 32 0)) := ⟨by refine blk_below ?_ hb1; exact (blk_new _ _)⟩
  have HB1 : Aside0 (Below w.heap.size w w1) := ⟨(below_alloc (Below.refl _ _) _).trans (hb1.mono (by simp))⟩
  have HS1 : Aside0 (w.heap.size < w1.heap.size) := ⟨by have := hb1.size; simp at this; omega⟩
  obtain ⟨M, hM⟩ : ∃ M, M = tabL := ⟨_, rfl⟩
  have HM := Aside0.mk hM
  rw [← hM]
  have HI := Aside0.mk (info72 (show M.length = 72 by rw [hM]; rfl))
  have HLM : Aside0 (M.length = 72) := ⟨by rw [hM]; rfl⟩
  clear hM hb1
  go_upto_region 2 with (refine wpList_store_row rfl 53 _ _ rfl w1.heap.size (u32s M) rfl rfl 53 _ (blk_new w1 (.cells Z72 53)) HI.out (by rw [u32s_size, HLM.out]; rfl) (u32s_one M) ?_)
  obtain ⟨gt, hgt⟩ : ∃ g, g = w1.heap.size := ⟨_, rfl⟩
  rw [← hgt]
  obtain ⟨w2, hw2⟩ : ∃ w2, w2 = (w1.alloc (.cells Z72 53)).setRow gt (u32s M) := ⟨_, rfl⟩
  rw [← hw2]
  have hT2 : Arr w2 gt 53 tabL := by rw [hw2, hgt, HM.out]; exact setRow_heap _ _ _ _ _ _ (blk_new _ _)
  have HP2 : Aside0 (ArrB w2 w.heap.size 26 (List.replicate 32 0)) := ⟨by rw [hw2]; exact (setRow_other _ _ _ _ (by have := HS1.out; omega)).trans (blk_alloc HP1.out _)⟩
  have HB2 : Aside0 (Below w.heap.size w w2) := ⟨by rw [hw2]; exact below_setRow (HB1.out.alloc (Nat.le_of_lt HS1.out) _) (by have := HS1.out; omega) _⟩
  have HGT : Aside0 (w.heap.size < gt) := ⟨by have := HS1.out; omega⟩
  have d0 := hT2.cell 0 (by decide)
  have d1 := hT2.cell 1 (by decide)
  have d2 := hT2.cell 2 (by decide)
  have d3 := hT2.cell 3 (by decide)
  have d4 := hT2.cell 4 (by decide)
  have d5 := hT2.cell 5 (by decide)
  have d6 := hT2.cell 6 (by decide)
  have d7 := hT2.cell 7 (by decide)
  have HT2 := Aside0.mk hT2
  rw [show tabL.getD 0 0 = 1779033703 from rfl] at d0
  rw [show tabL.getD 1 0 = 3144134277 from rfl] at d1
  rw [show tabL.getD 2 0 = 1013904242 from rfl] at d2
  rw [show tabL.getD 3 0 = 2773480762 from rfl] at d3
  rw [show tabL.getD 4 0 = 1359893119 from rfl] at d4
  rw [show tabL.getD 5 0 = 2600822924 from rfl] at d5
  rw [show tabL.getD 6 0 = 528734635 from rfl] at d6
  rw [show tabL.getD 7 0 = 1541459225 from rfl] at d7
  clear hw2 hgt hT2 HP1 HB1 HS1
  go_upto_region 4 with (fail)
  obtain ⟨gh, hgh⟩ : ∃ g, g = w2.heap.size := ⟨_, rfl⟩
  rw [← hgh]
  obtain ⟨w3, hw3⟩ : ∃ w3, w3 = w2.alloc (.cells #[.int .u32 1779033703, .int .u32 3144134277, .int .u32 1013904242, .int .u32 2773480762, .int .u32 1359893119, .int .u32 2600822924, .int .u32 528734635, .int .u32 1541459225] 34) := ⟨_, rfl⟩
  rw [← hw3]
  have HH3 : Aside0 (Arr w3 gh 34 (S8.list ⟨1779033703, 3144134277, 1013904242, 2773480762, 1359893119, 2600822924, 528734635, 1541459225⟩)) := ⟨by rw [hw3, hgh]; exact blk_new _ _⟩
  have HT3 : Aside0 (Arr w3 gt 53 tabL) := ⟨by rw [hw3]; exact blk_alloc HT2.out _⟩
  have HP3 : Aside0 (ArrB w3 w.heap.size 26 (List.replicate 32 0)) := ⟨by rw [hw3]; exact blk_alloc HP2.out _⟩
  have HB3 : Aside0 (Below w.heap.size w w3) := ⟨by rw [hw3]; exact HB2.out.alloc HB2.out.size _⟩
  have HGTH : Aside0 (gt < gh) := ⟨by rw [hgh]; exact blk_lt HT2.out⟩
  obtain ⟨B, hBd⟩ : ∃ B, B = w3.heap.size := ⟨_, rfl⟩
  have HGHB : Aside0 (gh < B) := ⟨by rw [hBd]; exact blk_lt HH3.out⟩
  have HR0 : Aside0 (RInv w3 B w3 (.slice none 0 0) []) := ⟨⟨OwnAt.nil _ _ _, Below.refl _ _, by rw [hBd]; exact Nat.le_refl _⟩⟩
  have HC3 : Aside0 (Kd.C (Kd.int .u8) w3 A l.length l) := ⟨Kd.C_below HC.out HB3.out⟩
  clear hw3 hgh hBd HT2 HP2 HB2 HC d0 d1 d2 d3 d4 d5 d6 d7
  go_upto_region 5 with (at_builtin; refine QT.wpList_append_at rfl _ _ 23 23 rfl 5 i0 (.int .u8 0) 1 Try.underlying23 hi hz0 rfl hz1 hz2 rfl HR0.out.1 _ rfl (nums .u8 l) (QT.src_of Try.underlying23 HC3.out) (QT.nums_one _ _) (by rw [nums_length, nums_length]; show (0 + _) * 1 ≤ _; omega) (by decide) ?_ ?_)
  · exact HR0.out.le
  · intro v4 w4 hO4 hG4 hv4
    have hI4 := HR0.out.app hO4 hG4
    rw [List.nil_append] at hI4
    obtain ⟨A4, cA4, e4, hl4, hl4'⟩ := hI4.1.slice
    rw [nums_length] at e4
    subst e4
    have HI4 := Aside0.mk hI4
    have HI4' := fun x => Aside0.mk (hI4.lit x)
    clear hI4 hO4 hG4 hv4 hl4 hl4'
    go_wp2_with (at_builtin; refine QT.wpList_append_at rfl _ _ 23 23 rfl 5 i0 (.int .u8 0) 1 Try.underlying23 hi hz0 rfl hz1 hz2 rfl (HI4' 128).out.1 _ rfl (nums .u8 [128]) (QT.src_byte Try.underlying23 .u8 128 _ _) (QT.nums_one _ _) (by rw [nums_length, nums_length]; have := hl; show (_ + 1) * 1 ≤ _; omega) (by decide) ?_ ?_)
    · exact (HI4' 128).out.le
    · intro v5 w5 hO5 hG5 hv5
      have hI5 := (HI4' 128).out.app hO5 hG5
      obtain ⟨A5, cA5, e5, hl5, hl5'⟩ := hI5.1.slice
      rw [nums_length] at e5
      obtain ⟨N5, hN5⟩ : ∃ N5, N5 = (l ++ [128]).length := ⟨_, rfl⟩
      rw [← hN5] at e5
      have HN5 := Aside0.mk hN5
      clear hN5
      subst e5
      have HI5 := Aside0.mk hI5
      clear hI5 hO5 hG5 hv5 hl5 hl5' HI4 HI4'
      go_wp2
      go_loopg [5] 64 (fun gk v5 wr => ∃ (A : Option Addr) (c : Nat) (T : List Int), v5 = .slice A T.length c ∧ Aside0 ((120 - T.length % 64) % 64 ≤ gk) ∧ Aside0 (T.length + (120 - T.length % 64) % 64 ≤ 70368744177664 + 64) ∧ Aside0 (padZ gk T = padZ 64 (l ++ [128])) ∧ Aside0 (RInv w3 B wr v5 T))
      case atStart => exact ⟨A5, cA5, l ++ [128], by rw [HN5.out], ⟨by omega⟩, ⟨by rw [List.length_append, List.length_singleton]; omega⟩, ⟨rfl⟩, HI5⟩
      case round =>
        clear HI5
        obtain ⟨At, ct, T, rfl, HG, HTL, HPZ, HI⟩ := hrel
        have htl := HTL.out
        have zt : 0 ≤ (T.length : Int) := by omega
        have HI' := fun x => Aside0.mk (HI.out.lit x)
        by_cases h56 : T.length % 64 = 56
        · have e1 : (((T.length : Int) % 64) != 56) = false := by simp; omega
          have hPT : T = padZ 64 (l ++ [128]) := by rw [← HPZ.out]; cases gk with
            | zero => rfl
            | succ gk => rw [padZ, if_pos h56]
          have HPT := Aside0.mk hPT
          have HPL : Aside0 (T.length ≤ 70368744177664 + 64) := ⟨by omega⟩
          clear hPT HPZ HG HTL htl
          go_wp2
          obtain ⟨N8, hN8⟩ : ∃ N8, N8 = (l.length : Int) * 8 := ⟨_, rfl⟩
          rw [← hN8]
          have zn0 : 0 ≤ N8 := by omega
          have zn1 : N8 ≤ 562949953421312 := by omega
          have HN8 := Aside0.mk hN8
          clear hN8 h56 e1 zt HI'
          obtain ⟨T0, hT0⟩ : ∃ T0, T0 = T := ⟨_, rfl⟩
          have HT0 := Aside0.mk hT0
          obtain ⟨wo, hwo⟩ : ∃ wo : World, wo = wr := ⟨_, rfl⟩
          subst hwo
          go_loopg [5, 7] 8 (fun gk v5 v7 wr => ∃ (A : Option Addr) (c : Nat) (T : List Int) (j : Nat), v5 = .slice A T.length c ∧ v7 = .int .i64 (7 - (j : Int)) ∧ Aside0 (j ≤ 8) ∧ Aside0 (8 - j ≤ gk) ∧ Aside0 (T = T0 ++ num8 N8 j) ∧ Aside0 (RInv w3 B wr v5 T))
          case atStart => exact ⟨At, ct, T, 0, rfl, rfl, ⟨by omega⟩, ⟨by omega⟩, ⟨by rw [HT0.out]; simp [num8]⟩, HI⟩
          case round =>
            clear HI
            obtain ⟨Ar, cr, T', j, rfl, rfl, Hj, HG, HT', HI⟩ := hrel
            have hj := Hj.out
            have HI' := fun x => Aside0.mk (HI.out.lit x)
            by_cases hlt : j < 8
            · have e1 : decide ((j : Int) ≤ 7) = true := decide_eq_true (by omega)
              have z1 : 0 ≤ 7 - (j : Int) := by omega
              have HTL' : Aside0 (T'.length ≤ 70368744177664 + 64 + 8) := ⟨by rw [HT'.out, List.length_append, num8_length, HT0.out]; have := HPL.out; omega⟩
              go_wp2_with (at_builtin; refine QT.wpList_append_at rfl _ _ 23 23 rfl 5 i0 (.int .u8 0) 1 Try.underlying23 hi hz0 rfl hz1 hz2 rfl (HI' (N8 / 2 ^ (8 * (7 - j)) % 256)).out.1 _ rfl (nums .u8 [(N8 / 2 ^ (8 * (7 - j)) % 256)]) (QT.src_byte Try.underlying23 .u8 (N8 / 2 ^ (8 * (7 - j)) % 256) _ _) (QT.nums_one _ _) (by rw [nums_length, nums_length]; have := HTL'.out; show (_ + 1) * 1 ≤ _; omega) (by decide) ?_ ?_)
              · exact (HI' _).out.le
              · intro v4 w4 hO4 hG4 hv4
                have hI4 := (HI' _).out.app hO4 hG4
                obtain ⟨A4, cA4, e4, hl4, hl4'⟩ := hI4.1.slice
                rw [nums_length] at e4
                obtain ⟨N4, hN4⟩ : ∃ N4, N4 = (T' ++ [N8 / 2 ^ (8 * (7 - j)) % 256]).length := ⟨_, rfl⟩
                rw [← hN4] at e4
                have HN4 := Aside0.mk hN4
                clear hN4
                subst e4
                have HI4 := Aside0.mk hI4
                clear hI4 hO4 hG4 hv4 hl4 hl4' HI HI'
                go_wp2
                go_roundg (8 - (j + 1))
                case measure => have := HG.out; omega
                case rel =>
                  exact ⟨A4, cA4, T' ++ [N8 / 2 ^ (8 * (7 - j)) % 256], j + 1, by rw [HN4.out], by (first | rfl | (congr 1; omega)), ⟨by omega⟩, ⟨Nat.le_refl _⟩, ⟨by rw [HT'.out, num8, List.append_assoc, show 8 * (7 - j) = 56 - 8 * j by omega]⟩, HI4⟩
            · have e1 : decide ((j : Int) ≤ 7) = false := decide_eq_false (by omega)
              have hj8 : j = 8 := by omega
              subst hj8
              have HTE : Aside0 (T' = padD l (l.length : Int)) := ⟨by rw [HT'.out, HT0.out, HPT.out, HN8.out]; rfl⟩
              have HTLx : T'.length ≤ 70368744177664 + 72 := by rw [HT'.out, List.length_append, num8_length, HT0.out]; have := HPL.out; omega
              clear HT' HT0 HPT HN8 HPL HI' Hj HG zn0 zn1
              go_wp2
              have HM0 : Aside0 (T'.length % 64 = 0) := ⟨by rw [HTE.out]; exact padD_mod l _⟩
              have HE0 : Aside0 (∃ f, (T'.drop (64 * 0)).length ≤ f ∧ eat f ⟨1779033703, 3144134277, 1013904242, 2773480762, 1359893119, 2600822924, 528734635, 1541459225⟩ true (T'.drop (64 * 0)) = (sF, bF, rF)) := ⟨_, Nat.le_refl _, by rw [Nat.mul_zero, List.drop_zero, HTE.out]; exact HEF.out⟩
              have HX : Aside0 (∀ x ∈ T', 0 ≤ x ∧ x ≤ 255) := ⟨by rw [HTE.out]; exact padD_bytes l _ HBB.out⟩
              have HHr : Aside0 (Arr wr gh 34 (S8.list ⟨1779033703, 3144134277, 1013904242, 2773480762, 1359893119, 2600822924, 528734635, 1541459225⟩)) := ⟨(HI.out.2.1.block _ HGHB.out).trans HH3.out⟩
              have HTr : Aside0 (Arr wr gt 53 tabL) := ⟨(HI.out.2.1.block _ (by have := HGHB.out; have := HGTH.out; omega)).trans HT3.out⟩
              have HPr : Aside0 (ArrB wr w.heap.size 26 (List.replicate 32 0)) := ⟨(HI.out.2.1.block _ (by have := HGHB.out; have := HGTH.out; have := HGT.out; omega)).trans HP3.out⟩
              have HBr : Aside0 (Below w.heap.size w wr) := ⟨HB3.out.trans (HI.out.2.1.mono (by have := HGHB.out; have := HGTH.out; have := HGT.out; omega))⟩
              have HOr : Aside0 (OwnAt wr B 5 (.slice Ar T'.length cr) (nums .u8 T')) := ⟨HI.out.1⟩
              have HTL3 : Aside0 (T'.length ≤ 70368744177664 + 72) := ⟨HTLx⟩
              obtain ⟨wo, hwo⟩ : ∃ wo : World, wo = wr := ⟨_, rfl⟩
              subst hwo
              clear HI HTE HH3 HT3 HP3 HB3
              go_loopg [8] (T'.length) (fun gk v8 wr => ∃ (q : Nat) (sc : S8), v8 = .int .i64 (64 * (q : Int)) ∧ Aside0 (64 * q ≤ T'.length) ∧ Aside0 (T'.length - 64 * q ≤ gk) ∧ Aside0 (∃ f, (T'.drop (64 * q)).length ≤ f ∧ eat f sc true (T'.drop (64 * q)) = (sF, bF, rF)) ∧ Aside0 (Arr wr gh 34 sc.list) ∧ Aside0 (Arr wr gt 53 tabL) ∧ Aside0 (ArrB wr w.heap.size 26 (List.replicate 32 0)) ∧ Aside0 (Below w.heap.size w wr) ∧ Aside0 (OwnAt wr B 5 (.slice Ar T'.length cr) (nums .u8 T')))
              case atStart => exact ⟨0, _, rfl, ⟨by omega⟩, ⟨by omega⟩, HE0, HHr, HTr, HPr, HBr, HOr⟩
              case round =>
                clear HE0 HHr HTr HPr HBr HOr
                obtain ⟨q, sc, rfl, HQ, HG, HE, HHr, HTr, HPr, HBr, HOr⟩ := hrel
                have hq := HQ.out
                have hm := HM0.out
                have htl := HTL3.out
                by_cases hlt : 64 * q < T'.length
                · have e1 : decide (64 * (q : Int) < (T'.length : Int)) = true := decide_eq_true (by omega)
                  obtain ⟨Ax, cx, ex, hcc, hcc2⟩ := HOr.out.slice
                  rw [nums_length] at hcc
                  have hcx : cr = cx := (Value.slice.inj ex).2.2
                  subst hcx
                  obtain ⟨ad, rfl, hbad, hcells⟩ := HOr.out.cells (by rw [nums_length]; omega)
                  have HCL := Aside0.mk hcells
                  have HBAD := Aside0.mk hbad
                  have z1 : 0 ≤ 64 * (q : Int) := by omega
                  have z2 : 64 * (q : Int) + 64 ≤ (T'.length : Int) := by omega
                  have z3 : 64 * (q : Int) + 64 ≤ (cr : Int) := by omega
                  have z4 : (64 * (q : Int)).toNat = 64 * q := by omega
                  have z5 : (64 * (q : Int) + 64).toNat = 64 * q + 64 := by omega
                  have z6 : ¬ cr = 64 * q := by omega
                  have HLT := Aside0.mk hlt
                  clear ex hcells hbad hlt hm
                  go_wp2_with fail
                  have hd : (T'.drop (64 * q)).length = T'.length - 64 * q := List.length_drop
                  refine (block_calls gt gh (Nat.ne_of_lt HGTH.out) sc wr HTr.out HHr.out (ad.add (64 * q)) _ (T'.drop (64 * q)) (fun i => by
                      by_cases hi : i < (T'.drop (64 * q)).length
                      · rw [List.getD_eq_getElem?_getD, List.getElem?_eq_getElem hi]; exact HX.out _ (List.mem_of_mem_drop (List.getElem_mem hi))
                      · rw [List.getD_eq_getElem?_getD, List.getElem?_eq_none (by omega)]; exact ⟨by decide, by decide⟩) (fun j hj => by
                      have hlt := HLT.out
                      have hq2 : 64 * q + j < T'.length := by omega
                      rw [show (ad.add (64 * q)).add j = ad.add (64 * q + j) from (add_add ad _ _)]
                      exact HCL.out (64 * q + j) _ (by
                        unfold nums
                        rw [List.getElem?_map, List.getElem?_eq_getElem hq2, List.getD_eq_getElem?_getD, List.getElem?_drop, List.getElem?_eq_getElem hq2]; rfl))).mono ?_
                  rintro e w5 ⟨rfl, hh5, hk5⟩
                  have hT5 : Arr w5 gt 53 tabL := hk5.k.blk HTr.out (Nat.ne_of_lt HGTH.out) (by simp)
                  have hP5 : ArrB w5 w.heap.size 26 (List.replicate 32 0) := hk5.k.blk HPr.out (by have := HGTH.out; have := HGT.out; omega) (by simp)
                  have hB5 : Below w.heap.size w w5 := HBr.out.trans (hk5.b.mono (by have := HGTH.out; have := HGT.out; omega))
                  have hO5 : OwnAt w5 B 5 (.slice (some ad) T'.length cr) (nums .u8 T') := HOr.out.keep hk5.k (by simp only [Value.ownBlock]; intro he; cases he; have := HBAD.out; have := HGHB.out; omega)
                  have HH5 := Aside0.mk hh5
                  have HT5 := Aside0.mk hT5
                  have HP5 := Aside0.mk hP5
                  have HB5 := Aside0.mk hB5
                  have HO5 := Aside0.mk hO5
                  clear hh5 hk5 hT5 hP5 hB5 hO5 hd HHr HTr HPr HBr HOr HCL z3 z4 z5 z6
                  go_wp2
                  go_roundg (T'.length - 64 * (q + 1))
                  case measure => have := HG.out; have := HLT.out; omega
                  case rel =>
                    refine ⟨q + 1, _, by (first | rfl | (congr 1; omega)), ⟨by have := HLT.out; have := HM0.out; omega⟩, ⟨Nat.le_refl _⟩, ⟨?_⟩, HH5, HT5, HP5, HB5, HO5⟩
                    obtain ⟨f, hf, he⟩ := HE.out
                    have hlt := HLT.out
                    have hm := HM0.out
                    have hd : (T'.drop (64 * q)).length = T'.length - 64 * q := List.length_drop
                    have hd2 : (T'.drop (64 * (q + 1))).length = T'.length - 64 * (q + 1) := List.length_drop
                    cases f with
                    | zero => omega
                    | succ f =>
                      rw [eat, if_pos (by omega), List.drop_drop, show 64 * q + 64 = 64 * (q + 1) by omega] at he
                      exact ⟨f, by omega, he⟩
                · have e1 : decide (64 * (q : Int) < (T'.length : Int)) = false := decide_eq_false (by omega)
                  have hd : T'.drop (64 * q) = [] := List.drop_of_length_le (by omega)
                  have hsc : sc = sF := by
                    obtain ⟨f, hf, he⟩ := HE.out
                    rw [hd] at he
                    cases f with
                    | zero => exact (Prod.mk.inj he).1
                    | succ f => rw [eat, if_neg (by simp)] at he; exact (Prod.mk.inj he).1
                  subst hsc
                  clear hd HE hlt hm htl
                  go_wp2
                  obtain ⟨go, hgo⟩ : ∃ g, g = wr.heap.size := ⟨_, rfl⟩
                  rw [← hgo]
                  obtain ⟨wa, hwa⟩ : ∃ wa, wa = wr.alloc (.cells (u8s (List.replicate 32 0)) 26) := ⟨_, rfl⟩
                  change Code.wp _ _ _ _ (wr.alloc (.cells (u8s (List.replicate 32 0)) 26))
                  rw [← hwa]
                  have HGO : Aside0 (w.heap.size < go) := ⟨by rw [hgo]; exact blk_lt HPr.out⟩
                  have HGO2 : Aside0 (gh < go) := ⟨by rw [hgo]; exact blk_lt HHr.out⟩
                  have HOo : Aside0 (ArrB wa go 26 (outL sc.list 0)) := ⟨by rw [hwa, hgo]; exact blk_new _ _⟩
                  have HHa : Aside0 (Arr wa gh 34 sc.list) := ⟨by rw [hwa]; exact blk_alloc HHr.out _⟩
                  have HPa : Aside0 (ArrB wa w.heap.size 26 (List.replicate 32 0)) := ⟨by rw [hwa]; exact blk_alloc HPr.out _⟩
                  have HBa : Aside0 (Below w.heap.size w wa) := ⟨by rw [hwa]; exact HBr.out.alloc HBr.out.size _⟩
                  clear hwa hgo HHr HTr HPr HBr HOr
                  go_loopg [10] 32 (fun gk v10 wr => ∃ (k : Nat), v10 = .int .i64 k ∧ Aside0 (k ≤ 32) ∧ Aside0 (32 - k ≤ gk) ∧ Aside0 (ArrB wr go 26 (outL sc.list k)) ∧ Aside0 (Arr wr gh 34 sc.list) ∧ Aside0 (ArrB wr w.heap.size 26 (List.replicate 32 0)) ∧ Aside0 (Below w.heap.size w wr))
                  case atStart => exact ⟨0, rfl, ⟨by omega⟩, ⟨by omega⟩, HOo, HHa, HPa, HBa⟩
                  case round =>
                    clear HOo HHa HPa HBa
                    obtain ⟨k, rfl, Hk, HG, HOo, HHa, HPa, HBa⟩ := hrel
                    have hk := Hk.out
                    by_cases hlt : k < 32
                    · have e1 : decide (k < 32) = true := decide_eq_true hlt
                      have z0 : 0 ≤ (k : Int) := by omega
                      have z1 : (k : Int) < 32 := by omega
                      have z2 : k / 4 < 8 := by omega
                      have z3 : (k : Int) / 4 < 8 := by omega
                      have z4 : 0 ≤ (k : Int) / 4 := by omega
                      have z5 : ((k : Int) / 4).toNat = k / 4 := by omega
                      have z6 : 0 ≤ 24 - 8 * ((k : Int) % 4) := by omega
                      have z7 : (24 - 8 * ((k : Int) % 4)).toNat = 24 - 8 * (k % 4) := by omega
                      have m0 := HHa.out.cell (k / 4) z2
                      have m1 := HOo.out.cell k (by rw [outL_length]; exact hlt)
                      have f1 := HOo.out.fr k
                      obtain ⟨x, hx⟩ : ∃ x, x = sc.list.getD (k / 4) 0 := ⟨_, rfl⟩
                      rw [← hx] at m0
                      have HX2 := Aside0.mk hx
                      clear hx
                      go_wp2
                      go_roundg (32 - (k + 1))
                      case measure => have := HG.out; omega
                      case rel =>
                        refine ⟨k + 1, by go_num, ⟨by omega⟩, ⟨Nat.le_refl _⟩, ⟨?_⟩, ⟨?_⟩, ⟨?_⟩, ⟨?_⟩⟩
                        · rw [outL, ← HX2.out]; exact ArrB.set HOo.out _ _
                        · exact blk_far HHa.out (Nat.ne_of_lt HGO2.out) _
                        · exact blk_far HPa.out (Nat.ne_of_lt HGO.out) _
                        · exact HBa.out.setCell (Nat.le_of_lt HGO.out) _
                    · have e1 : decide (k < 32) = false := decide_eq_false hlt
                      have hk32 : k = 32 := by omega
                      subst hk32
                      obtain ⟨O, hO⟩ : ∃ O, O = outL sc.list 32 := ⟨_, rfl⟩
                      rw [← hO] at HOo
                      have hO32 : O.length = 32 := by rw [hO]; exact outL_length _ 32
                      have HI32 := Aside0.mk (info32b hO32)
                      have HO32 := Aside0.mk hO32
                      have HOO := Aside0.mk hO
                      clear hO hO32 hlt hk
                      go_wp2_with (first | (refine wpList_load_row rfl 26 _ rfl go rfl 26 (u8s O) (0, 0) _ HOo.out Try.underlying26 rfl HI32.out ?_) | (refine wpList_store_row rfl 26 _ _ rfl w.heap.size (u8s O) rfl rfl 26 _ HPa.out HI32.out (by rw [u8s_size, u8s_size, HO32.out]; rfl) (u8s_one O) ?_))
                      exact bodyPost_ret (v := .agg (u8s O)) (results_cell_row rfl _ _ w.heap.size 26 (u8s O) (0, 0) _ rfl (setRow_heap _ _ _ _ _ _ HPa.out) Try.underlying26 rfl HI32.out) rfl ⟨by rw [HOO.out, outL_all], below_setRow HBa.out (Nat.le_refl _) _⟩
        · have e1 : (((T.length : Int) % 64) != 56) = true := by simp; omega
          cases gk with
          | zero => have := HG.out; omega
          | succ gk =>
            have HPZ' : Aside0 (padZ gk (T ++ [0]) = padZ 64 (l ++ [128])) := ⟨by rw [← HPZ.out, padZ, if_neg h56]⟩
            go_wp2_with (at_builtin; refine QT.wpList_append_at rfl _ _ 23 23 rfl 5 i0 (.int .u8 0) 1 Try.underlying23 hi hz0 rfl hz1 hz2 rfl (HI' 0).out.1 _ rfl (nums .u8 [0]) (QT.src_byte Try.underlying23 .u8 0 _ _) (QT.nums_one _ _) (by rw [nums_length, nums_length]; have := HTL.out; show (_ + 1) * 1 ≤ _; omega) (by decide) ?_ ?_)
            · exact (HI' _).out.le
            · intro v4 w4 hO4 hG4 hv4
              have hI4 := (HI' _).out.app hO4 hG4
              obtain ⟨A4, cA4, e4, hl4, hl4'⟩ := hI4.1.slice
              rw [nums_length] at e4
              obtain ⟨N4, hN4⟩ : ∃ N4, N4 = (T ++ [0]).length := ⟨_, rfl⟩
              rw [← hN4] at e4
              have HN4 := Aside0.mk hN4
              clear hN4
              subst e4
              have HI4 := Aside0.mk hI4
              clear hI4 hO4 hG4 hv4 hl4 hl4' HI HI'
              go_wp2
              go_roundg gk
              case measure => omega
              case rel =>
                exact ⟨A4, cA4, T ++ [0], by rw [HN4.out], ⟨by have := HG.out; rw [List.length_append, List.length_singleton]; omega⟩, ⟨by have := HTL.out; rw [List.length_append, List.length_singleton]; omega⟩, HPZ', HI4⟩
end Go.Proofs.Ytlonhkechpgbiaa.Sh
