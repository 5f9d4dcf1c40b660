/- The walk of MsgBack: what is written is read as it was; a byte more, or fewer, is none. -/
import Derived.Test.YtbemfgpdfacdpaaMsg13
namespace Go.Proofs.Ytbemfgpdfacdpaa.Ms
open Go.RowKit Go.Proofs.Ytbemfgpdfacdpaa.Pr Go.Proofs.YtbemfgpdfacdpaaW.PrintWords Go.Proofs.YtbemfgpdfacdpaaW.PrintLast Go.Proofs.YtbemfgpdfacdpaaW.PrintMore
open Go.Proofs.Ytbemfgpdfacdpaa.QT (OwnAt)
set_option linter.unusedVariables false
set_option linter.unusedSimpArgs false
theorem grown_below {W W2 : World} {base : Nat} {e : TypeId} {v : Value} {xs : List Value} (hO : OwnAt W base e v xs) (hG : W.grownBy W2 v.ownBlock) (hb : base ≤ W.heap.size) : Below base W W2 :=
  ⟨hG.os, hG.tape, hG.output, hG.size, fun i hi => hG.block i (Nat.lt_of_lt_of_le hi hb) (fun he => by have := hO.base_le i he.symm; omega)⟩
theorem round_f (k : Int) (n : Nat) (h0 : 0 < n) (hn : n ≤ 1000000) : ∃ r : Nat, parapetalike_Round.f k n = some (r : Int) ∧ r < n := by
  rw [parapetalike_Round.f, if_neg (by omega)]
  have h1 := Int.tmod_lt_of_pos k (show (0 : Int) < n by omega)
  have h2 := Int.lt_tmod_of_pos k (show (0 : Int) < n by omega)
  generalize Int.tmod k n = z at h1 h2
  by_cases hz : z < 0
  · rw [if_pos hz, show wrap64 (z + n) = z + n by unfold wrap64; omega]
    exact ⟨(z + n).toNat, by congr 1; omega, by omega⟩
  · rw [if_neg hz]
    exact ⟨z.toNat, by congr 1; omega, by omega⟩
set_option maxHeartbeats 16000000 in
set_option maxRecDepth 100000 in
theorem back_calls (m : M13) (A8 : Option Addr) (n8 c8 : Nat) (A11 : Option Addr) (n11 c11 : Nat) (k : Int) (w : World) (hE : n8 = m.es.length ∧ n8 ≤ c8 ∧ k46.C w A8 n8 m.es) (hS : n11 = m.sm.length ∧ n11 ≤ c11 ∧ (Kd.int .i64).C w A11 n11 m.sm) (hF : FitM m) :
    Calls Try.prog 5 #[.agg (mcells m (.slice A8 n8 c8) (.slice A11 n11 c11)), .int .i64 k] w fun e w' => e = .returned (.bool true) ∧ Below w.heap.size w w' := by
  have HA := Aside0.mk (fun w => awake_calls w)
  have HE := Aside0.mk hE
  have HS := Aside0.mk hS
  have HF := Aside0.mk hF
  obtain ⟨bi, hbi, hsm⟩ := in_f m hF
  have HBI := Aside0.mk hbi
  have HSM := Aside0.mk hsm
  clear hE hS hF hbi hsm
  go_enter Try.func5, Try.ntmps5
  go_upto_region 1 with (fail)
  generalize hw1 : World.alloc w _ = w1
  obtain ⟨gb, hgb⟩ : ∃ gb, gb = w.heap.size := ⟨_, rfl⟩
  rw [← hgb]
  have HX1 : Aside0 (w1.heap[gb]? = some (.cells (mcells m (.slice A8 n8 c8) (.slice A11 n11 c11)) 27 (0, 0))) := ⟨by rw [← hw1, hgb]; exact blk_new _ _⟩
  have HB1 : Aside0 (Below w.heap.size w w1) := ⟨by rw [← hw1]; exact below_alloc (Below.refl _ _) _⟩
  clear hw1 hgb
  go_wp2_with (refine wpList_load_row rfl 27 _ rfl gb rfl 27 (mcells m (.slice A8 n8 c8) (.slice A11 n11 c11)) (0, 0) _ HX1.out Try.underlying27 rfl size_msg ?_)
  have qi := parapetlaw7_in.calls (m.es.length + 1) m.kd m.fr m.tt m.tm m.ix m.lt m.cm m.ys A8 c8 m.es m.si m.st A11 c11 m.sm m.sd bi w1 (by have q := Kd.C_below HE.out.2.2 HB1.out; rw [HE.out.1] at q; exact q) (by rw [← HE.out.1]; exact HE.out.2.1) (by have q := Kd.C_below HS.out.2.2 HB1.out; rw [HS.out.1] at q; exact q) (by rw [← HS.out.1]; exact HS.out.2.1) HBI.out
  rw [← HE.out.1, ← HS.out.1] at qi
  refine (show Calls Try.prog 8 #[.agg (mcells m (.slice A8 n8 c8) (.slice A11 n11 c11))] w1 _ from qi).mono ?_
  rintro e w2 ⟨rfl, hb⟩
  have HX2 := Aside0.mk (blk_below HX1.out hb)
  have HB2 := Aside0.mk (HB1.out.trans (hb.mono HB1.out.size))
  clear hb qi HX1 HB1 HBI
  cases bi
  · go_wp2_with fail
    refine (HA.out _).mono ?_
    rintro e w3 ⟨rfl, hb⟩
    have HB3 := Aside0.mk (HB2.out.trans (hb.mono HB2.out.size))
    clear hb
    go_wp2
    go_ret
    exact ⟨rfl, HB3.out⟩
  have hsmall := HSM.out rfl
  have HR := Aside0.mk (raw_small hsmall)
  clear hsmall HSM
  go_wp2_with (refine wpList_load_row rfl 27 _ rfl gb rfl 27 (mcells m (.slice A8 n8 c8) (.slice A11 n11 c11)) (0, 0) _ HX2.out Try.underlying27 rfl size_msg ?_)
  refine (encode_calls m A8 n8 c8 A11 n11 c11 w2 (Kd.C_below HE.out.2.2 HB2.out) HE.out.1 HE.out.2.1 (Kd.C_below HS.out.2.2 HB2.out) HS.out.1 HS.out.2.1 (by have := HR.out.1; omega) (by have := HR.out.2; omega)).mono ?_
  obtain ⟨q, hq⟩ : ∃ q, q = encP m := ⟨_, rfl⟩
  rw [← hq]
  rintro e w3 ⟨⟨A, n, c, rfl, hn, hc, hC⟩, hb⟩
  have HX3 := Aside0.mk (blk_below HX2.out hb)
  have HB3 := Aside0.mk (HB2.out.trans (hb.mono HB2.out.size))
  have HQ := Aside0.mk hq
  clear hb hq HX2 HB2
  cases q
  · obtain rfl : n = 0 := hn
    simp only [Option.getD_none, Option.isSome_none, Bool.false_eq_true, ↓reduceIte]
    clear hc hC
    go_wp2_with fail
    refine (HA.out _).mono ?_
    rintro e w4 ⟨rfl, hb⟩
    have HB4 := Aside0.mk (HB3.out.trans (hb.mono HB3.out.size))
    clear hb
    go_wp2
    go_ret
    exact ⟨rfl, HB4.out⟩
  · rename_i bs
    simp only [Option.isSome_some, ↓reduceIte]
    obtain ⟨e1, g1, d1⟩ := enc_some (fun e he => (HF.out.2.2.2.2.2.2.2.2.2.1 e he).fit) HQ.out.symm
    have hn' : n = bs.length := hn
    have hC' : (Kd.int .u8).C w3 A n bs := hC
    have hby : Byt bs := by rw [e1]; exact rawW_bytes m
    have hpos : 0 < n := by rw [hn', e1, rawW, List.length_append, List.length_append, wnum_length]; omega
    have hle : n ≤ 100000 := by rw [hn', e1]; exact HR.out.1
    have HN := Aside0.mk hn'
    have HC3 : Aside0 ((Kd.int .u8).C w3 A bs.length bs) := ⟨by rw [hn'] at hC'; exact hC'⟩
    have HCC := Aside0.mk hc
    have HBY := Aside0.mk hby
    have HE1 := Aside0.mk e1
    have HG1 := Aside0.mk g1
    have HD1 := Aside0.mk d1
    have l0 : ((n : Int) == 0) = false := by simp; omega
    clear hn hc hC hn' hC' hby e1 g1 d1 HQ
    go_wp2_with fail
    refine (decode_calls A n c bs w3 HC3.out HN.out HCC.out HBY.out (by omega)).mono ?_
    rw [HD1.out]
    rintro e w4 ⟨⟨B8, p8, d8, B11, p11, d11, rfl, hp1, hp2, hp3, hp4, hp5, hp6⟩, hb⟩
    simp only [Option.getD_some, Option.isSome_some, ↓reduceIte]
    have HP1 : Aside0 (p8 = m.es.length) := ⟨hp1⟩
    have HP2 := Aside0.mk hp2
    have HP3 : Aside0 (k46.C w4 B8 p8 m.es) := ⟨hp3⟩
    have HP4 : Aside0 (p11 = m.sm.length) := ⟨hp4⟩
    have HP5 := Aside0.mk hp5
    have HP6 : Aside0 ((Kd.int .i64).C w4 B11 p11 m.sm) := ⟨hp6⟩
    have HX4 := Aside0.mk (blk_below HX3.out hb)
    have HB4 := Aside0.mk (HB3.out.trans (hb.mono HB3.out.size))
    have HC4 := Aside0.mk (Kd.C_below HC3.out hb)
    clear hp1 hp2 hp3 hp4 hp5 hp6 hb HX3 HB3 HC3
    go_upto_region 7 with (refine wpList_store_row rfl 27 _ _ rfl w4.heap.size (mcells m (.slice B8 p8 d8) (.slice B11 p11 d11)) rfl rfl 27 _ (blk_new w4 _) size_msg rfl (one_cells _ _ _ _ _ _ _) ?_)
    generalize hv : World.setRow (World.alloc w4 _) _ _ = w5
    obtain ⟨gn, hgn⟩ : ∃ gn, gn = w4.heap.size := ⟨_, rfl⟩
    rw [← hgn]
    have hUV : Below w4.heap.size w4 w5 := by rw [← hv]; exact below_setRow (below_alloc (Below.refl _ _) _) (Nat.le_refl _) _
    have HN5 : Aside0 (w5.heap[gn]? = some (.cells (mcells m (.slice B8 p8 d8) (.slice B11 p11 d11)) 27 (0, 0))) := ⟨by rw [← hv, hgn]; exact setRow_heap _ _ _ _ _ _ (blk_new _ _)⟩
    have HX5 := Aside0.mk (blk_below HX4.out hUV)
    have HB5 := Aside0.mk (HB4.out.trans (hUV.mono HB4.out.size))
    have HC5 := Aside0.mk (Kd.C_below HC4.out hUV)
    have HP35 := Aside0.mk (Kd.C_below HP3.out hUV)
    have HP65 := Aside0.mk (Kd.C_below HP6.out hUV)
    clear hv hgn hUV HX4 HB4 HC4 HP3 HP6
    obtain ⟨i0, hi0, hz0, hz1, hz2⟩ := info_parts infoB
    have HO : Aside0 (OwnAt (w5.alloc (.cells #[] 5)) w5.heap.size 5 (.slice (some ⟨w5.heap.size, 0, none⟩) 0 0) []) := ⟨⟨_, 0, rfl, Nat.le_refl _, by decide, (fun _ h => by cases h), (fun h => absurd h (Nat.lt_irrefl 0)), fun ad hA => by cases hA; exact ⟨Nat.le_refl _, by simp⟩⟩⟩
    have HSR : Aside0 (Src Try.prog 1 30 (.slice A n c) (nums .u8 bs).length (nums .u8 bs) (w5.alloc (.cells #[] 5))) := ⟨by rw [HN.out]; exact QT.src_of Try.underlying30 (Kd.C_alloc HC5.out _)⟩
    go_wp2_with (at_builtin; refine QT.wpList_append_at rfl _ _ 30 30 rfl 5 i0 (.int .u8 0) 1 Try.underlying30 hi0 hz0 rfl hz1 hz2 rfl HO.out _ rfl (nums .u8 bs) HSR.out (QT.nums_one _ _) (by rw [nums_length, ← HN.out]; show (0 + n) * 1 ≤ _; omega) (by decide) ?_ ?_)
    · simp
    intro v6 w6 hO6 hG6 hv6
    have hb6 : Below w5.heap.size w5 w6 := (below_alloc (Below.refl _ _) _).trans (grown_below HO.out hG6 (by simp))
    obtain ⟨A6, c6, e6, hl6, _⟩ := hO6.slice
    rw [nums_length, ← HN.out] at e6
    subst e6
    have HB56 := Aside0.mk hb6
    have HS6 : Aside0 (w5.heap.size ≤ w6.heap.size) := ⟨hb6.size⟩
    have HO6 : Aside0 (OwnAt (w6.alloc (.cells #[.int .u8 0] 5)) w5.heap.size 5 (.slice A6 n c6) (nums .u8 bs)) := ⟨hO6.alloc _⟩
    clear hO6 hG6 hv6 hl6 hb6 HO HSR
    go_wp2_with (at_builtin; refine QT.wpList_append_at rfl _ _ 30 30 rfl 5 i0 (.int .u8 0) 1 Try.underlying30 hi0 hz0 rfl hz1 hz2 rfl HO6.out _ rfl (nums .u8 [0]) (QT.src_byte Try.underlying30 .u8 0 w6 5) (QT.nums_one _ _) (by rw [nums_length, nums_length, ← HN.out]; show (n + 1) * 1 ≤ _; omega) (by decide) ?_ ?_)
    · have := HS6.out; simp; omega
    intro v7 w7 hO7 hG7 hv7
    have hb7 : Below w5.heap.size w6 w7 := ((Below.refl w5.heap.size w6).alloc HS6.out _).trans (grown_below HO6.out hG7 (by have := HS6.out; simp; omega))
    rw [← nums_append] at hO7
    obtain ⟨A7, c7, e7, hl7, _⟩ := hO7.slice
    rw [nums_length] at e7 hl7
    obtain ⟨n7, hn7⟩ : ∃ n7, n7 = (bs ++ [0]).length := ⟨_, rfl⟩
    rw [← hn7] at e7 hl7
    subst e7
    have HN7 := Aside0.mk hn7
    have HL7 := Aside0.mk hl7
    have HC7' := Aside0.mk (C_ownB hO7)
    have HB57 := Aside0.mk (HB56.out.trans hb7)
    clear hO7 hG7 hv7 hb7 hn7 hl7 HO6 HB56 HS6
    have hdn : decP (bs ++ [0]) = none := by rw [HE1.out]; exact dec_rest HG1.out [0] (by simp)
    have HDN := Aside0.mk hdn
    clear hdn
    go_wp2_with fail
    refine (decode_calls A7 n7 c7 (bs ++ [0]) w7 HC7'.out HN7.out HL7.out (app_bytes HBY.out (fun x hx => by rw [List.mem_singleton.1 hx]; decide)) (by rw [HN7.out, List.length_append, ← HN.out]; simp; omega)).mono ?_
    rw [HDN.out]
    rintro e w8 ⟨⟨D8, q8, f8, D11, q11, f11, rfl, hrest⟩, hb⟩
    clear hrest
    simp only [Option.getD_none, Option.isSome_none, Bool.false_eq_true, ↓reduceIte]
    have HB58 := Aside0.mk (HB57.out.trans (hb.mono HB57.out.size))
    clear hb HC7' HN7 HL7 HB57 HDN
    go_upto_region 8 with (refine wpList_store_row rfl 27 _ _ rfl w8.heap.size (mcells M0 (.slice D8 q8 f8) (.slice D11 q11 f11)) rfl rfl 27 _ (blk_new w8 _) size_msg rfl (one_cells _ _ _ _ _ _ _) ?_)
    generalize hv : World.setRow (World.alloc w8 _) _ _ = w9
    have HB59 : Aside0 (Below w5.heap.size w5 w9) := ⟨by
      have hUV : Below w8.heap.size w8 w9 := by rw [← hv]; exact below_setRow (below_alloc (Below.refl _ _) _) (Nat.le_refl _) _
      exact HB58.out.trans (hUV.mono HB58.out.size)⟩
    clear hv HB58
    obtain ⟨r, hr, hrn⟩ := round_f k n hpos (by omega)
    have HRR := Aside0.mk hr
    have hrc : r ≤ c := by have := HCC.out; omega
    clear hr
    go_wp2_with fail
    refine (parapetalike_Round.calls k n r w9 HRR.out).mono ?_
    rintro e w10 ⟨rfl, md, hw⟩
    have HB510 : Aside0 (Below w5.heap.size w5 w10) := ⟨by rw [hw]; exact pw_below_drewN HB59.out md⟩
    clear hw HB59 HRR
    have hcut : decP (bs.take r) = none := dec_cut HBY.out HD1.out r (by rw [← HN.out]; exact hrn)
    have HCUT := Aside0.mk hcut
    clear hcut
    go_wp2_with fail
    have hlr : (bs.take r).length = r := by rw [List.length_take, ← HN.out]; omega
    refine (decode_calls A r c (bs.take r) w10 (by have q := Kd.C_take (Kd.C_below HC5.out HB510.out) (show r ≤ bs.length by rw [← HN.out]; omega); exact q) hlr.symm hrc (fun x hx => HBY.out x (List.mem_of_mem_take hx)) (by omega)).mono ?_
    rw [HCUT.out]
    rintro e w11 ⟨⟨E8, s8, t8, E11, s11, t11, rfl, hrest⟩, hb⟩
    clear hrest
    simp only [Option.getD_none, Option.isSome_none, Bool.false_eq_true, ↓reduceIte]
    have HB511 := Aside0.mk (HB510.out.trans (hb.mono HB510.out.size))
    clear hb HB510 HCUT hlr
    go_upto_region 9 with (refine wpList_store_row rfl 27 _ _ rfl w11.heap.size (mcells M0 (.slice E8 s8 t8) (.slice E11 s11 t11)) rfl rfl 27 _ (blk_new w11 _) size_msg rfl (one_cells _ _ _ _ _ _ _) ?_)
    generalize hv : World.setRow (World.alloc w11 _) _ _ = v
    have HB5V : Aside0 (Below w5.heap.size w5 v) := ⟨by
      have hUV : Below w11.heap.size w11 v := by rw [← hv]; exact below_setRow (below_alloc (Below.refl _ _) _) (Nat.le_refl _) _
      exact HB511.out.trans (hUV.mono HB511.out.size)⟩
    clear hv HB511
    have HXV := Aside0.mk (blk_below HX5.out HB5V.out)
    have HNV := Aside0.mk (blk_below HN5.out HB5V.out)
    have HBV := Aside0.mk (HB5.out.trans (HB5V.out.mono HB5.out.size))
    have ga0 : v.cell? ⟨gb, 0, none⟩ = some (.int .i64 m.kd) := blk_cell HXV.out 0
    have ga1 : v.cell? ⟨gb, 1, none⟩ = some (.int .i64 m.fr) := blk_cell HXV.out 1
    have ga2 : v.cell? ⟨gb, 2, none⟩ = some (.int .i64 m.tt) := blk_cell HXV.out 2
    have ga3 : v.cell? ⟨gb, 3, none⟩ = some (.int .i64 m.tm) := blk_cell HXV.out 3
    have ga4 : v.cell? ⟨gb, 4, none⟩ = some (.int .i64 m.ix) := blk_cell HXV.out 4
    have ga5 : v.cell? ⟨gb, 5, none⟩ = some (.int .i64 m.lt) := blk_cell HXV.out 5
    have ga6 : v.cell? ⟨gb, 6, none⟩ = some (.int .i64 m.cm) := blk_cell HXV.out 6
    have ga7 : v.cell? ⟨gb, 7, none⟩ = some (.bool m.ys) := blk_cell HXV.out 7
    have ga8 : v.cell? ⟨gb, 8, none⟩ = some (.slice A8 n8 c8) := blk_cell HXV.out 8
    have ga9 : v.cell? ⟨gb, 9, none⟩ = some (.int .i64 m.si) := blk_cell HXV.out 9
    have ga10 : v.cell? ⟨gb, 10, none⟩ = some (.int .i64 m.st) := blk_cell HXV.out 10
    have ga11 : v.cell? ⟨gb, 11, none⟩ = some (.slice A11 n11 c11) := blk_cell HXV.out 11
    have ga12 : v.cell? ⟨gb, 12, none⟩ = some (.string m.sd) := blk_cell HXV.out 12
    have gc0 : v.cell? ⟨gn, 0, none⟩ = some (.int .i64 m.kd) := blk_cell HNV.out 0
    have gc1 : v.cell? ⟨gn, 1, none⟩ = some (.int .i64 m.fr) := blk_cell HNV.out 1
    have gc2 : v.cell? ⟨gn, 2, none⟩ = some (.int .i64 m.tt) := blk_cell HNV.out 2
    have gc3 : v.cell? ⟨gn, 3, none⟩ = some (.int .i64 m.tm) := blk_cell HNV.out 3
    have gc4 : v.cell? ⟨gn, 4, none⟩ = some (.int .i64 m.ix) := blk_cell HNV.out 4
    have gc5 : v.cell? ⟨gn, 5, none⟩ = some (.int .i64 m.lt) := blk_cell HNV.out 5
    have gc6 : v.cell? ⟨gn, 6, none⟩ = some (.int .i64 m.cm) := blk_cell HNV.out 6
    have gc7 : v.cell? ⟨gn, 7, none⟩ = some (.bool m.ys) := blk_cell HNV.out 7
    have gc8 : v.cell? ⟨gn, 8, none⟩ = some (.slice B8 p8 d8) := blk_cell HNV.out 8
    have gc9 : v.cell? ⟨gn, 9, none⟩ = some (.int .i64 m.si) := blk_cell HNV.out 9
    have gc10 : v.cell? ⟨gn, 10, none⟩ = some (.int .i64 m.st) := blk_cell HNV.out 10
    have gc11 : v.cell? ⟨gn, 11, none⟩ = some (.slice B11 p11 d11) := blk_cell HNV.out 11
    have gc12 : v.cell? ⟨gn, 12, none⟩ = some (.string m.sd) := blk_cell HNV.out 12
    go_wp2_with fail
    obtain ⟨s1, s2, s3⟩ := HG1.out.small
    have qs := parapetref6_SameMsg.calls 50 m.kd m.fr m.tt m.tm m.ix m.lt m.cm m.ys A8 c8 m.es m.si m.st A11 c11 m.sm m.sd m.kd m.fr m.tt m.tm m.ix m.lt m.cm m.ys B8 d8 m.es m.si m.st B11 d11 m.sm m.sd true v
      (by have q := Kd.C_below HE.out.2.2 HBV.out; rw [HE.out.1] at q; exact q) (by rw [← HE.out.1]; exact HE.out.2.1) (by have q := Kd.C_below HS.out.2.2 HBV.out; rw [HS.out.1] at q; exact q) (by rw [← HS.out.1]; exact HS.out.2.1)
      (by have q := Kd.C_below HP35.out HB5V.out; rw [HP1.out] at q; exact q) (by rw [← HP1.out]; exact HP2.out) (by have q := Kd.C_below HP65.out HB5V.out; rw [HP4.out] at q; exact q) (by rw [← HP4.out]; exact HP5.out) (msg_same_self m s1 s2 s3)
    have e8 : p8 = n8 := HP1.out.trans HE.out.1.symm
    have e11 : p11 = n11 := HP4.out.trans HS.out.1.symm
    rw [← HE.out.1, ← HS.out.1] at qs
    subst e8 e11
    refine qs.mono ?_
    rintro e v2 ⟨rfl, hb⟩
    have HBV2 := Aside0.mk (HBV.out.trans (hb.mono HBV.out.size))
    clear hb qs
    go_wp2_with fail
    refine (HA.out _).mono ?_
    rintro e v3 ⟨rfl, hb⟩
    have HBV3 := Aside0.mk (HBV2.out.trans (hb.mono HBV2.out.size))
    clear hb
    go_wp2
    go_ret
    exact ⟨rfl, HBV3.out⟩
end Go.Proofs.Ytbemfgpdfacdpaa.Ms
