/- 4 texts of the proof, put together, less what is not used; what a tool printed stands among them. -/
import Derived.Test.YtbemfgpdfacdpaaProg
import Derived.ChangeSlices
import Derived.Deep.Matrix
import Derived.Test.YtbemfgpdfacdpaaMDec15
namespace Go.Proofs.Ytbemfgpdfacdpaa.Ms
open Go.RowKit Go.Proofs.Ytbemfgpdfacdpaa.Pr Go.Proofs.YtbemfgpdfacdpaaW.PrintWords Go.Proofs.YtbemfgpdfacdpaaW.PrintLast Go.Proofs.YtbemfgpdfacdpaaW.PrintMore
set_option linter.unusedVariables false
set_option linter.unusedSimpArgs false
set_option maxHeartbeats 16000000 in
set_option maxRecDepth 100000 in
theorem refdec_k3 (A : Option Addr) (n c : Nat) (l : List Int) (w : World) (hC : (Kd.int .u8).C w A l.length l) (hn : n = l.length) (hc : n ≤ c) (hby : Byt l) (hl : l.length ≤ 1000000) (q : Option M13) (hq : q = refD l) (g e : Nat) (W0 : World) (f t u : Int) (i : Nat) (b : Bool) (hD : DS w W0 g e l ⟨3, f, t, u, 0, 0, 0, false, [], 0, 0, [], ⟨#[]⟩⟩ (.slice none 0 0) (.slice none 0 0) i b) (hraw : rawE l = ebodyP (3 : Int) f t u l i b)
    (z1 z6 z7 z8 z9 z10 z11 z12 z13 z14 z15 z16 z17 z18 z19 z20 z21 z22 z23 z24 z25 z26 z27 z28 z29 z30 z31 z32 z33 z34 z35 z36 z37 z38 z39 z40 z41 z42 z43 z44 z45 z46 z47 z48 z49 z50 z51 z52 z53 z54 z55 z56 z57 z58 z59 z60 z61 z62 z63 z64 z65 z66 z67 z68 z69 z70 z71 z72 z73 z74 z75 z76 z77 z78 z79 z80 z81 z82 z83 z84 z85 z86 z87 z88 z89 z90 z91 z92 z93 z94 z95 z96 z97 z98 z99 z100 z101 z102 z103 z104 z105 z106 z107 z108 z109 z110 z111 z112 z113 z114 z115 z116 z117 z118 z119 z120 z121 z122 z123 z124 z125 z126 z127 z128 z129 : Value) : Code.wp Try.prog (decT 3) (bodyPost Try.prog Try.f14 (DecQ w q)) ⟨#[.slice A n c, z1, .pointer (some ⟨w.heap.size, 0, none⟩), .int .i64 0, .pointer (some ⟨e, 0, none⟩), .pointer (some ⟨g, 0, none⟩), z6, z7, z8, z9, z10, z11, z12, z13, z14, z15, z16, z17, z18, z19, z20, z21, z22, z23, z24, z25, z26, z27, z28, z29, z30, z31, z32, z33, z34, z35, z36, z37, z38, z39, z40, z41, z42, z43, z44, z45, z46, z47, z48, z49, z50, z51, z52, z53, z54, z55, z56, z57, z58, z59, z60, z61, z62, z63, z64, z65, z66, z67, z68, z69, z70, z71, z72, z73, z74, z75, z76, z77, z78, z79, z80, z81, z82, z83, z84, z85, z86, z87, z88, z89, z90, z91, z92, z93, z94, z95, z96, z97, z98, z99, z100, z101, z102, z103, z104, z105, z106, z107, z108, z109, z110, z111, z112, z113, z114, z115, z116, z117, z118, z119, z120, z121, z122, z123, z124, z125, z126, z127, z128, z129], []⟩ W0 := by
  have HC := Aside0.mk hC
  have HN := Aside0.mk hn
  have HBY := Aside0.mk hby
  have HL := Aside0.mk hl
  have HQ := Aside0.mk hq
  have HRAW := Aside0.mk hraw
  have D0 := Aside0.mk hD
  have HE0 : Aside0 (w.heap.size ≤ e) := ⟨by have := hD.ze; omega⟩
  have c0 : W0.cell? ⟨g, 0, none⟩ = some (.int .i64 3) := hD.cell 0
  clear hC hn hby hl hq hraw hD
  conv => arg 2; whnf
  go_upto_region 3 with (fail)
  rename_i K1 hK1 K2 hK2
  have HK1 := Aside0.mk hK1
  clear hK1
  go_wp2_with fail
  refine (enum_calls w W0 e l i b 8 D0.out.bl HE0.out D0.out.ey HBY.out (by decide)).mono ?_
  rintro e' V0 ⟨rfl, hE, hK, hB⟩
  dsimp only
  obtain ⟨r, hr⟩ : ∃ r, r = enumP l i b 8 := ⟨_, rfl⟩
  rw [← hr] at hE ⊢
  obtain ⟨x1, i1, b1⟩ := r
  have HV1 := Aside0.mk hr
  have D' := D0.out.call hE hK hB
  have c4 : V0.cell? ⟨g, 4, none⟩ = some (.int .i64 0) := D'.cell 4
  have f4 := blk_frozen D'.mb 4
  obtain ⟨W1, hW⟩ : ∃ W, W = V0.setCell ⟨g, 4, none⟩ (.int .i64 x1) := ⟨_, rfl⟩
  have D1 : Aside0 (DS w W1 g e l ⟨3, f, t, u, x1, 0, 0, false, [], 0, 0, [], ⟨#[]⟩⟩ (.slice none 0 0) (.slice none 0 0) i1 b1) := ⟨by rw [hW]; exact D'.put 4 _ _ _ _ rfl D'.h8 D'.h11⟩
  have HW1 := Aside0.mk hW
  clear hr hE hK hB D' D0 hW
  go_upto_region 11 with (fail)
  rw [← HW1.out]
  clear HW1 c4 f4
  go_wp2_with fail
  refine (enum_calls w W1 e l i1 b1 8 D1.out.bl HE0.out D1.out.ey HBY.out (by decide)).mono ?_
  rintro e' V1 ⟨rfl, hE, hK, hB⟩
  dsimp only
  obtain ⟨r, hr⟩ : ∃ r, r = enumP l i1 b1 8 := ⟨_, rfl⟩
  rw [← hr] at hE ⊢
  obtain ⟨x2, i2, b2⟩ := r
  have HV2 := Aside0.mk hr
  have D' := D1.out.call hE hK hB
  have c5 : V1.cell? ⟨g, 5, none⟩ = some (.int .i64 0) := D'.cell 5
  have f5 := blk_frozen D'.mb 5
  obtain ⟨W2, hW⟩ : ∃ W, W = V1.setCell ⟨g, 5, none⟩ (.int .i64 x2) := ⟨_, rfl⟩
  have D2 : Aside0 (DS w W2 g e l ⟨3, f, t, u, x1, x2, 0, false, [], 0, 0, [], ⟨#[]⟩⟩ (.slice none 0 0) (.slice none 0 0) i2 b2) := ⟨by rw [hW]; exact D'.put 5 _ _ _ _ rfl D'.h8 D'.h11⟩
  have HW2 := Aside0.mk hW
  clear hr hE hK hB D' D1 hW
  go_upto_region 12 with (fail)
  rw [← HW2.out]
  clear HW2 c5 f5
  go_wp2_with fail
  refine (enum_calls w W2 e l i2 b2 8 D2.out.bl HE0.out D2.out.ey HBY.out (by decide)).mono ?_
  rintro e' V2 ⟨rfl, hE, hK, hB⟩
  dsimp only
  obtain ⟨r, hr⟩ : ∃ r, r = enumP l i2 b2 8 := ⟨_, rfl⟩
  rw [← hr] at hE ⊢
  obtain ⟨x3, i3, b3⟩ := r
  have HV3 := Aside0.mk hr
  have D' := D2.out.call hE hK hB
  have c6 : V2.cell? ⟨g, 6, none⟩ = some (.int .i64 0) := D'.cell 6
  have f6 := blk_frozen D'.mb 6
  obtain ⟨W3, hW⟩ : ∃ W, W = V2.setCell ⟨g, 6, none⟩ (.int .i64 x3) := ⟨_, rfl⟩
  have D3 : Aside0 (DS w W3 g e l ⟨3, f, t, u, x1, x2, x3, false, [], 0, 0, [], ⟨#[]⟩⟩ (.slice none 0 0) (.slice none 0 0) i3 b3) := ⟨by rw [hW]; exact D'.put 6 _ _ _ _ rfl D'.h8 D'.h11⟩
  have HW3 := Aside0.mk hW
  clear hr hE hK hB D' D2 hW
  go_upto_region 13 with (fail)
  rw [← HW3.out]
  clear HW3 c6 f6
  go_wp2_with fail
  refine (enum_calls w W3 e l i3 b3 1 D3.out.bl HE0.out D3.out.ey HBY.out (by decide)).mono ?_
  rintro e' V3 ⟨rfl, hE, hK, hB⟩
  dsimp only
  obtain ⟨r, hr⟩ : ∃ r, r = enumP l i3 b3 1 := ⟨_, rfl⟩
  rw [← hr] at hE ⊢
  obtain ⟨x4, i4, b4⟩ := r
  have HV4 := Aside0.mk hr
  have D' := D3.out.call hE hK hB
  have D4 : Aside0 (DS w V3 g e l ⟨3, f, t, u, x1, x2, x3, false, [], 0, 0, [], ⟨#[]⟩⟩ (.slice none 0 0) (.slice none 0 0) i4 b4) := ⟨D'⟩
  clear hr hE hK hB D' D3
  obtain ⟨W4, hW⟩ : ∃ W, W = V3 := ⟨_, rfl⟩
  rw [← hW] at D4 ⊢
  clear hW
  have hN : 0 ≤ x4 ∧ x4 < 256 := by
    have h := enum_range l i3 b3 1 HBY.out (by decide)
    rw [← HV4.out] at h
    exact h
  obtain ⟨N, rfl⟩ : ∃ N : Nat, x4 = (N : Int) := ⟨x4.toNat, by omega⟩
  have HN256 : Aside0 (N < 256) := ⟨by omega⟩
  obtain ⟨FIN, hFIN⟩ : ∃ F, F = eentL l N [] i4 b4 := ⟨_, rfl⟩
  have HFIN := Aside0.mk hFIN
  have HFIN_ := HFIN
  clear hN hFIN
  go_wp2_with fail
  go_loopg [7] N (fun gk v7 wr => ∃ (k : Nat) (acc : List S46) (A8 : Option Addr) (n8 c8 : Nat) (ii : Nat) (bb : Bool), v7 = .int .i64 k ∧ Aside0 (k ≤ N) ∧ Aside0 (N - k ≤ gk) ∧ Aside0 (FIN = eentL l (N - k) acc ii bb) ∧ Aside0 (DS w wr g e l ⟨3, f, t, u, x1, x2, x3, false, acc, 0, 0, [], ⟨#[]⟩⟩ (.slice A8 n8 c8) (.slice none 0 0) ii bb) ∧ Aside0 (acc.length ≤ k) ∧ Aside0 (∀ x ∈ acc, x.f4.length ≤ 255))
  case atStart => exact ⟨0, [], none, 0, 0, i4, b4, rfl, ⟨Nat.zero_le _⟩, ⟨by omega⟩, HFIN, D4, ⟨Nat.le_refl _⟩, ⟨fun x hx => by cases hx⟩⟩
  case round =>
    clear D4 HFIN
    obtain ⟨k, acc, A8, n8, c8, ii, bb, rfl, HKN, HGK, HF, D, HAL, H255⟩ := hrel
    have hkn := HKN.out
    have hN2 := HN256.out
    obtain ⟨Ae, ne, ce, he, _⟩ := D.out.ey
    have t2 : wr.cell? ⟨e, 2, none⟩ = some (.bool bb) := blk_cell he 2
    clear he
    by_cases hlt : k < N ∧ bb = false
    · obtain ⟨hlt, rfl⟩ := hlt
      have l1 : decide (k < N) = true := decide_eq_true hlt
      have l2 : (k : Int) < (N : Int) := by omega
      have HLT := Aside0.mk hlt
      have HE0_ := Aside0.mk D.out.ey
      have HEY0 : Aside0 (Ey w wr e l ii false) := HE0_
      have HB0 := Aside0.mk D.out.bl
      have HK0 : Aside0 (Kept wr wr (fun k => k = e)) := ⟨Kept.refl _ _⟩
      clear hlt HE0_
      go_wp2_with fail
      refine (enum_calls w wr e l ii false 8 HB0.out HE0.out HEY0.out HBY.out (by decide)).mono ?_
      rintro e' U1 ⟨rfl, hE, hK, hB⟩
      dsimp only
      obtain ⟨r, hr⟩ : ∃ r, r = enumP l ii false 8 := ⟨_, rfl⟩
      rw [← hr] at hE ⊢
      obtain ⟨y0, j1, d1⟩ := r
      have HY1 := Aside0.mk hr
      have HE1 := Aside0.mk hE
      have HB1 := Aside0.mk hB
      have HK1 : Aside0 (Kept wr U1 (fun k => k = e)) := ⟨HK0.out.then_ hK (fun k hk => .inl hk)⟩
      clear hr hE hK hB HEY0 HB0 HK0
      go_wp2_with fail
      refine (enum_calls w U1 e l j1 d1 8 HB1.out HE0.out HE1.out HBY.out (by decide)).mono ?_
      rintro e' U2 ⟨rfl, hE, hK, hB⟩
      dsimp only
      obtain ⟨r, hr⟩ : ∃ r, r = enumP l j1 d1 8 := ⟨_, rfl⟩
      rw [← hr] at hE ⊢
      obtain ⟨y1, j2, d2⟩ := r
      have HY2 := Aside0.mk hr
      have HE2 := Aside0.mk hE
      have HB2 := Aside0.mk hB
      have HK2 : Aside0 (Kept wr U2 (fun k => k = e)) := ⟨HK1.out.then_ hK (fun k hk => .inl hk)⟩
      clear hr hE hK hB HE1 HB1 HK1
      go_wp2_with fail
      refine (enum_calls w U2 e l j2 d2 8 HB2.out HE0.out HE2.out HBY.out (by decide)).mono ?_
      rintro e' U3 ⟨rfl, hE, hK, hB⟩
      dsimp only
      obtain ⟨r, hr⟩ : ∃ r, r = enumP l j2 d2 8 := ⟨_, rfl⟩
      rw [← hr] at hE ⊢
      obtain ⟨y2, j3, d3⟩ := r
      have HY3 := Aside0.mk hr
      have HE3 := Aside0.mk hE
      have HB3 := Aside0.mk hB
      have HK3 : Aside0 (Kept wr U3 (fun k => k = e)) := ⟨HK2.out.then_ hK (fun k hk => .inl hk)⟩
      clear hr hE hK hB HE2 HB2 HK2
      go_upto_region 18 with (fail)
      obtain ⟨gx, hgx⟩ : ∃ gx, gx = U3.heap.size := ⟨_, rfl⟩
      rw [← hgx]
      obtain ⟨U4, hU4⟩ : ∃ U, U = U3.alloc (.cells #[.int .i64 y0, .int .i64 y1, .int .i64 y2, .string ⟨#[]⟩, .slice none 0 0] 46) := ⟨_, rfl⟩
      rw [← hU4]
      have HX4 : Aside0 (U4.heap[gx]? = some (.cells #[.int .i64 y0, .int .i64 y1, .int .i64 y2, .string ⟨#[]⟩, .slice none 0 0] 46 (0, 0))) := ⟨by rw [hU4, hgx]; exact blk_new _ _⟩
      have HE4 : Aside0 (Ey w U4 e l j3 d3) := ⟨by rw [hU4]; exact HE3.out.kept (S := fun _ => False) ((Kept.refl _ _).alloc _) (fun h => h)⟩
      have HB4 : Aside0 (Below w.heap.size w U4) := ⟨by rw [hU4]; exact below_alloc HB3.out _⟩
      have HK4 : Aside0 (Kept wr U4 (fun k => k = e)) := ⟨by rw [hU4]; exact HK3.out.alloc _⟩
      have HGX : Aside0 (wr.heap.size ≤ gx) := ⟨by rw [hgx]; exact HK3.out.1⟩
      have HGE : Aside0 (gx ≠ e) := ⟨by have := HE3.out.lt; omega⟩
      have HGW : Aside0 (w.heap.size ≤ gx) := ⟨by have := HB3.out.size; omega⟩
      clear hgx hU4 HE3 HB3 HK3
      go_wp2_with fail
      refine (etext_calls w U4 e l j3 d3 HB4.out HE0.out HE4.out HBY.out).mono ?_
      rintro e' U5 ⟨rfl, hE, hK, hB⟩
      dsimp only
      obtain ⟨r, hr⟩ : ∃ r, r = etextP l j3 d3 := ⟨_, rfl⟩
      rw [← hr] at hE ⊢
      obtain ⟨s, j4, d4⟩ := r
      have HY4 := Aside0.mk hr
      have hX5 := blk_kept HX4.out hK HGE.out
      have f3 := blk_frozen hX5 3
      have m3 : U5.cell? ⟨gx, 3, none⟩ = some (.string ⟨#[]⟩) := blk_cell hX5 3
      obtain ⟨U6, hU6⟩ : ∃ U, U = U5.setCell ⟨gx, 3, none⟩ (.string s) := ⟨_, rfl⟩
      have HX6 : Aside0 (U6.heap[gx]? = some (.cells #[.int .i64 y0, .int .i64 y1, .int .i64 y2, .string s, .slice none 0 0] 46 (0, 0))) := ⟨by rw [hU6]; exact blk_set hX5 3 _⟩
      have HE6 : Aside0 (Ey w U6 e l j4 d4) := ⟨by rw [hU6]; exact hE.kept (S := fun k => k = gx) (Kept.setCell (S := fun k => k = gx) (p := ⟨gx, 3, none⟩) (Kept.refl _ _) (.inl rfl) _) (fun h => HGE.out h.symm)⟩
      have HB6 : Aside0 (Below w.heap.size w U6) := ⟨by rw [hU6]; exact hB.setCell (p := ⟨gx, 3, none⟩) HGW.out _⟩
      have HK6 : Aside0 (Kept wr U6 (fun k => k = e)) := ⟨by rw [hU6]; exact (HK4.out.then_ hK (fun k hk => .inl hk)).setCell (p := ⟨gx, 3, none⟩) (.inr HGX.out) _⟩
      have HU6 := Aside0.mk hU6
      clear hr hE hK hB hX5 hU6 HX4 HE4 HB4 HK4
      go_upto_region 19 with (fail)
      rw [← HU6.out]
      clear HU6 f3 m3
      go_wp2_with fail
      refine (eints_calls w U6 e l j4 d4 HB6.out HE0.out HE6.out HBY.out).mono ?_
      rintro e' U7 ⟨v, rfl, hV, hE, hK, hB⟩
      dsimp only
      obtain ⟨r, hr⟩ : ∃ r, r = eintsP l j4 d4 := ⟨_, rfl⟩
      have h255 : r.1.length ≤ 255 := by rw [hr]; exact (eints_fit l j4 d4 HBY.out).2
      rw [← hr] at hV hE
      obtain ⟨ms, j5, d5⟩ := r
      dsimp only at h255
      have HMS := Aside0.mk h255
      have HY5 := Aside0.mk hr
      obtain ⟨Av, cv, hv⟩ := Kd.R_slice hV
      obtain ⟨nv, hnv⟩ : ∃ nv, nv = ms.length := ⟨_, rfl⟩
      dsimp only at hv
      rw [← hnv] at hv
      subst hv
      have hX7 := blk_kept HX6.out hK HGE.out
      have f4 := blk_frozen hX7 4
      have m4 : U7.cell? ⟨gx, 4, none⟩ = some (.slice none 0 0) := blk_cell hX7 4
      obtain ⟨U8, hU8⟩ : ∃ U, U = U7.setCell ⟨gx, 4, none⟩ (.slice Av nv cv) := ⟨_, rfl⟩
      obtain ⟨E, hE_⟩ : ∃ E : S46, E = ⟨y0, y1, y2, s, ms⟩ := ⟨_, rfl⟩
      have hgl : gx < U6.heap.size := blk_lt HX6.out
      have HM8 : Aside0 (k46.M U8 w.heap.size (fun k => U6.heap.size ≤ k) E [.int .i64 y0, .int .i64 y1, .int .i64 y2, .string s, .slice Av nv cv]) := ⟨by
        rw [hU8, hE_]
        exact k46_mkM _ _ _ _ (Kd.R_far hV (p := ⟨gx, 4, none⟩) (fun k hk => by show k ≠ gx; omega) _)⟩
      have HX8 : Aside0 (U8.heap[gx]? = some (.cells #[.int .i64 y0, .int .i64 y1, .int .i64 y2, .string s, .slice Av nv cv] 46 (0, 0))) := ⟨by rw [hU8]; exact blk_set hX7 4 _⟩
      have hE8 : Ey w U8 e l j5 d5 := by rw [hU8]; exact hE.kept (S := fun k => k = gx) (Kept.setCell (S := fun k => k = gx) (p := ⟨gx, 4, none⟩) (Kept.refl _ _) (.inl rfl) _) (fun h => HGE.out h.symm)
      have hB8 : Below w.heap.size w U8 := by rw [hU8]; exact hB.setCell (p := ⟨gx, 4, none⟩) HGW.out _
      have hK8 : Kept wr U8 (fun k => k = e) := by rw [hU8]; exact (HK6.out.then_ hK (fun k hk => .inl hk)).setCell (p := ⟨gx, 4, none⟩) (.inr HGX.out) _
      have D8 : Aside0 (DS w U8 g e l ⟨3, f, t, u, x1, x2, x3, false, acc, 0, 0, [], ⟨#[]⟩⟩ (.slice A8 n8 c8) (.slice none 0 0) j5 d5) := ⟨D.out.call hE8 hK8 hB8⟩
      have HGG : Aside0 (g < wr.heap.size) := ⟨blk_lt D.out.mb⟩
      have HOK8 : Aside0 (∀ k, U6.heap.size ≤ k → g < k ∧ some k ≠ (Value.slice A8 n8 c8).ownBlock) := ⟨fun k hk => ⟨by have := HGG.out; have := HK6.out.1; omega, fun he => by have := Kd.R_lt D.out.h8 _ he.symm; have := HK6.out.1; omega⟩⟩
      have HSW8 : Aside0 (∀ k, U8.heap.size ≤ k → g < k) := ⟨fun k hk => by have := blk_lt D8.out.mb; omega⟩
      have HENT : Aside0 (eentP l ii false = (E, j5, d5)) := ⟨by rw [eentP, hE_]; simp only [e3P, ← HY1.out, ← HY2.out, ← HY3.out, ← HY4.out, ← HY5.out]⟩
      have HE_ := Aside0.mk hE_
      have HU8 := Aside0.mk hU8
      have mc8 : U8.cell? ⟨g, 8, none⟩ = some (.slice A8 n8 c8) := D8.out.cell 8
      clear hr hE hK hB hX7 hU8 hE8 hB8 hK8 HX6 HE6 HB6 hgl hE_ h255 hnv hV HY1 HY2 HY3 HY4 HY5
      go_upto_region 20 with (fail)
      rw [← HU8.out]
      clear HU8 f4 m4
      have hal : acc.length ≤ 256 := by have := HAL.out; omega
      go_wp2_with (first
        | refine wpList_load_row rfl 46 _ rfl gx rfl 46 #[.int .i64 y0, .int .i64 y1, .int .i64 y2, .string s, .slice Av nv cv] (0, 0) _ HX8.out Try.underlying46 rfl size_entry ?_
        | (at_builtin; refine Kd.R_append k46 (w0 := w) w.heap.size rfl (.tmp 77) (.tmp 79) 22 46 (.agg #[.int .i64 0, .int .i64 0, .int .i64 0, .string ⟨#[]⟩, .slice none 0 0]) 64 rfl Try.underlying22 info_entry rfl (by decide) (by decide) (.slice A8 n8 c8) acc E [.int .i64 y0, .int .i64 y1, .int .i64 y2, .string s, .slice Av nv cv] (fun k => g < k) (fun k => U6.heap.size ≤ k) rfl rfl HM8.out HOK8.out HSW8.out D8.out.h8 D8.out.bl D8.out.bl.size (by omega) ?_))
      intro v7 u7 hO7 hB7 hg7 hat7
      obtain ⟨A9, c9, hv7⟩ := Kd.R_slice hO7
      obtain ⟨n9, hn9⟩ : ∃ n9, n9 = (acc ++ [E]).length := ⟨_, rfl⟩
      rw [← hn9] at hv7
      subst hv7
      have hrow : ∀ j, j < U8.heap.size → j ≤ g → u7.heap[j]? = U8.heap[j]? := fun j hj hjg => hg7.block j hj (fun he => by
        have := (D8.out.h8).1 j he.symm
        omega)
      have hz7 := (hrow w.heap.size (blk_lt D8.out.z) (by have := D8.out.ze; have := D8.out.eg; omega)).trans D8.out.z
      have hm7 := (hrow g (blk_lt D8.out.mb) (Nat.le_refl _)).trans D8.out.mb
      have he7 : Ey w u7 e l j5 d5 := by
        obtain ⟨Ax, nx, cx, hx, hrest⟩ := D8.out.ey
        exact ⟨Ax, nx, cx, (hrow e (blk_lt hx) (Nat.le_of_lt D8.out.eg)).trans hx, hrest⟩
      obtain ⟨u8, hu8⟩ : ∃ u, u = u7.setCell ⟨g, 8, none⟩ (.slice A9 n9 c9) := ⟨_, rfl⟩
      have D9 : Aside0 (DS w u8 g e l ⟨3, f, t, u, x1, x2, x3, false, acc ++ [E], 0, 0, [], ⟨#[]⟩⟩ (.slice A9 n9 c9) (.slice none 0 0) j5 d5) := ⟨by
        refine ⟨?_, ?_, ?_, ?_, ?_, ?_, D8.out.ze, D8.out.eg⟩
        · rw [hu8]; exact blk_far hz7 (p := ⟨g, 8, none⟩) (by show w.heap.size ≠ g; have := D8.out.ze; have := D8.out.eg; omega) _
        · rw [hu8]; exact blk_set hm7 8 _
        · rw [hu8]; exact he7.kept (S := fun k => k = g) (Kept.setCell (S := fun k => k = g) (p := ⟨g, 8, none⟩) (Kept.refl _ _) (.inl rfl) _) (by have := D8.out.eg; omega)
        · rw [hu8]; exact hB7.setCell (p := ⟨g, 8, none⟩) (by show w.heap.size ≤ g; have := D8.out.ze; have := D8.out.eg; omega) _
        · rw [hu8]; exact Kd.R_far hO7 (p := ⟨g, 8, none⟩) (fun k hk => by show k ≠ g; omega) _
        · exact Kd.R_nil _ _ _ _ _⟩
      have m8 : u7.cell? ⟨g, 8, none⟩ = some (.slice A8 n8 c8) := blk_cell hm7 8
      have f8 := blk_frozen hm7 8
      have HU8 := Aside0.mk hu8
      have HF9 : Aside0 (FIN = eentL l (N - (k + 1)) (acc ++ [E]) j5 d5) := ⟨by
        have hlt := HLT.out
        rw [HF.out, show N - k = (N - (k + 1)) + 1 by omega, eentL, if_neg (by decide), HENT.out]⟩
      have HA9 : Aside0 ((acc ++ [E]).length ≤ k + 1) := ⟨by rw [List.length_append, List.length_singleton]; have := HAL.out; omega⟩
      have H9 : Aside0 (∀ x ∈ acc ++ [E], x.f4.length ≤ 255) := ⟨fun x hx => by
        rcases List.mem_append.1 hx with hx | hx
        · exact H255.out x hx
        · rw [List.mem_singleton.1 hx, HE_.out]; exact HMS.out⟩
      clear hn9 hO7 hB7 hg7 hat7 hrow hz7 hm7 he7 hu8 hal
      go_wp2
      rw [← HU8.out]
      go_roundg (N - (k + 1))
      case measure => have := HLT.out; have := HGK.out; omega
      case rel => exact ⟨k + 1, acc ++ [E], A9, n9, c9, j5, d5, by go_num, ⟨by have := HLT.out; omega⟩, ⟨Nat.le_refl _⟩, HF9, D9, HA9, H9⟩
    · have hq2 : FIN = (acc, ii, bb) := by
        rw [HF.out]
        cases hk : N - k with
        | zero => rfl
        | succ k' => rw [eentL, if_pos (Classical.byContradiction fun hb => hlt ⟨by omega, by cases bb <;> first | rfl | exact absurd rfl hb⟩)]
      have HQ2 : Aside0 (rawE l = (⟨3, f, t, u, x1, x2, x3, false, acc, 0, 0, [], ⟨#[]⟩⟩, ii, bb)) := ⟨by
        rw [HRAW.out, ebodyP_3]
        simp only [e3P, ← HV1.out, ← HV2.out, ← HV3.out, eentsP, ← HV4.out, Int.toNat_natCast]
        rw [← HFIN_.out, hq2]⟩
      clear hq2
      by_cases hk : k = N
      · subst hk
        have l1 : decide (k < k) = false := decide_eq_false (Nat.lt_irrefl _)
        have l2 : ¬ (k : Int) < (k : Int) := by omega
        clear hlt
        go_wp2
        refine HK1.out _ _ ?_
        exact refdec_tail w _ g e l _ A8 n8 c8 none 0 0 ii bb A n c q HC.out HN.out hc HBY.out D.out (fun x hx => Nat.le_trans (H255.out x hx) (by decide)) HQ2.out HQ.out _ _ _ _ _ _ _ _ _ _ _ _ _ _ _ _ _ _ _ _ _ _ _ _ _ _ _ _ _ _ _ _ _ _ _ _ _ _ _ _ _ _ _ _ _ _ _ _ _ _ _ _ _ _ _ _ _ _ _ _ _ _ _ _ _ _ _ _ _ _ _ _ _ _ _ _ _ _ _ _ _ _ _ _ _ _ _ _ _ _ _ _ _ _ _ _ _ _ _ _ _ _ _ _ _ _ _ _ _ _ _ _ _ _ _ _ _ _ _ _ _ _ _ _ _
      · have hkN : k < N := by omega
        obtain rfl : bb = true := Classical.byContradiction fun hb => hlt ⟨hkN, by cases bb <;> first | rfl | exact absurd rfl hb⟩
        have l1 : decide (k < N) = true := decide_eq_true hkN
        have l2 : (k : Int) < (N : Int) := by omega
        clear hlt hk hkN
        go_wp2
        refine HK1.out _ _ ?_
        exact refdec_tail w _ g e l _ A8 n8 c8 none 0 0 ii true A n c q HC.out HN.out hc HBY.out D.out (fun x hx => Nat.le_trans (H255.out x hx) (by decide)) HQ2.out HQ.out _ _ _ _ _ _ _ _ _ _ _ _ _ _ _ _ _ _ _ _ _ _ _ _ _ _ _ _ _ _ _ _ _ _ _ _ _ _ _ _ _ _ _ _ _ _ _ _ _ _ _ _ _ _ _ _ _ _ _ _ _ _ _ _ _ _ _ _ _ _ _ _ _ _ _ _ _ _ _ _ _ _ _ _ _ _ _ _ _ _ _ _ _ _ _ _ _ _ _ _ _ _ _ _ _ _ _ _ _ _ _ _ _ _ _ _ _ _ _ _ _ _ _ _ _
end Go.Proofs.Ytbemfgpdfacdpaa.Ms
namespace Go.Proofs.Ytbemfgpdfacdpaa.Ms
open Go.RowKit Go.Proofs.Ytbemfgpdfacdpaa.Pr Go.Proofs.YtbemfgpdfacdpaaW.PrintWords Go.Proofs.YtbemfgpdfacdpaaW.PrintLast Go.Proofs.YtbemfgpdfacdpaaW.PrintMore
set_option linter.unusedVariables false
set_option linter.unusedSimpArgs false
set_option maxHeartbeats 16000000 in
set_option maxRecDepth 100000 in
theorem refdec_calls (A : Option Addr) (n c : Nat) (l : List Int) (w : World) (hC : (Kd.int .u8).C w A l.length l) (hn : n = l.length) (hc : n ≤ c) (hby : Byt l) (hl : l.length ≤ 1000000) : Calls Try.prog 14 #[.slice A n c] w (DecQ w (refD l)) := by
  refine refdec_head A n c l w hC hn hc hby hl _ ?_
  intro g e W k f t u i b hD hraw ts h
  by_cases h1 : k = 1
  · subst h1; exact elimD A n c w g e (Q := fun ts => Code.wp Try.prog (decT 3) (bodyPost Try.prog Try.f14 (DecQ w (refD l))) ⟨ts, []⟩ W) h (refdec_k1 A n c l w hC hn hc hby hl _ rfl g e W f t u i b hD hraw)
  by_cases h2 : k = 2
  · subst h2; exact elimD A n c w g e (Q := fun ts => Code.wp Try.prog (decT 3) (bodyPost Try.prog Try.f14 (DecQ w (refD l))) ⟨ts, []⟩ W) h (refdec_k2 A n c l w hC hn hc hby hl _ rfl g e W f t u i b hD hraw)
  by_cases h3 : k = 3
  · subst h3; exact elimD A n c w g e (Q := fun ts => Code.wp Try.prog (decT 3) (bodyPost Try.prog Try.f14 (DecQ w (refD l))) ⟨ts, []⟩ W) h (refdec_k3 A n c l w hC hn hc hby hl _ rfl g e W f t u i b hD hraw)
  by_cases h4 : k = 4
  · subst h4; exact elimD A n c w g e (Q := fun ts => Code.wp Try.prog (decT 3) (bodyPost Try.prog Try.f14 (DecQ w (refD l))) ⟨ts, []⟩ W) h (refdec_k4 A n c l w hC hn hc hby hl _ rfl g e W f t u i b hD hraw)
  by_cases h5 : k = 5
  · subst h5; exact elimD A n c w g e (Q := fun ts => Code.wp Try.prog (decT 3) (bodyPost Try.prog Try.f14 (DecQ w (refD l))) ⟨ts, []⟩ W) h (refdec_k5 A n c l w hC hn hc hby hl _ rfl g e W f t u i b hD hraw)
  exact elimD A n c w g e (Q := fun ts => Code.wp Try.prog (decT 3) (bodyPost Try.prog Try.f14 (DecQ w (refD l))) ⟨ts, []⟩ W) h (refdec_k0 A n c l w hC hn hc hby hl _ rfl g e W k f t u i b hD hraw h1 h2 h3 h4 h5)
end Go.Proofs.Ytbemfgpdfacdpaa.Ms
namespace Go.Proofs.Ytbemfgpdfacdpaa.Ms
open Go.RowKit Go.Proofs.Ytbemfgpdfacdpaa.Pr Go.Proofs.YtbemfgpdfacdpaaW.PrintWords Go.Proofs.YtbemfgpdfacdpaaW.PrintLast Go.Proofs.YtbemfgpdfacdpaaW.PrintMore
set_option linter.unusedVariables false
set_option linter.unusedSimpArgs false
set_option maxHeartbeats 16000000 in
set_option maxRecDepth 100000 in
theorem decodes_calls (A : Option Addr) (n c : Nat) (l : List Int) (w : World) (hC : Kd.C (Kd.int .u8) w A l.length l) (hn : n = l.length) (hc : n ≤ c) (hb : ∀ x ∈ l, 0 ≤ x ∧ x ≤ 255) (hl : n ≤ 140737488351232) :
    Calls Try.prog 4 #[.slice A n c] w fun e w' => e = .returned (.bool true) ∧ Below w.heap.size w w' := by
  have HA := Aside0.mk (fun w => awake_calls w)
  have HC := Aside0.mk hC
  have HB := Aside0.mk hb
  have HN := Aside0.mk hn
  have HCN := Aside0.mk hc
  clear hC hb hn
  by_cases h1 : 20000 < n
  · have e1 : decide (20000 < (n : Int)) = true := decide_eq_true (by omega)
    go_enter Try.func4, Try.ntmps4
    go_wp2_with fail
    refine (HA.out _).mono ?_
    rintro e w2 ⟨rfl, hb⟩
    go_wp2
    go_ret
    exact ⟨rfl, hb⟩
  have e1 : decide (20000 < (n : Int)) = false := decide_eq_false (by omega)
  have HL : Aside0 (l.length ≤ 20000) := ⟨by rw [← HN.out]; omega⟩
  go_enter Try.func4, Try.ntmps4
  go_wp2_with fail
  refine (decode_calls A n c l w HC.out HN.out hc HB.out (by omega)).mono ?_
  obtain ⟨r, hr⟩ : ∃ r, r = decP l := ⟨_, rfl⟩
  rw [← hr]
  have HR : Aside0 (refD l = r) := ⟨by rw [hr]; exact refD_dec l HB.out (Nat.le_trans HL.out (by decide))⟩
  have hsm : (r.getD M0).es.length ≤ 20 ∧ (∀ e ∈ (r.getD M0).es, e.f4.length ≤ 20) ∧ (r.getD M0).sm.length ≤ 20 := by
    cases hq : r with
    | none => exact ⟨Nat.zero_le _, (fun e he => nomatch he), Nat.zero_le _⟩
    | some m => rw [hq] at hr; exact (dec_sound HB.out hr.symm).2.small
  rintro e u ⟨⟨B8, p8, d8, B11, p11, d11, rfl, hp1, hp2, hp3, hp4, hp5, hp6⟩, hBu⟩
  obtain ⟨e0, he0⟩ : ∃ e0 : Int, e0 = if r.isSome then 0 else 7 := ⟨_, rfl⟩
  rw [← he0]
  obtain ⟨m, hm⟩ : ∃ m, m = r.getD M0 := ⟨_, rfl⟩
  rw [← hm] at hp1 hp3 hp4 hp6 hsm ⊢
  have HM := Aside0.mk hm
  have HE0 := Aside0.mk he0
  have HSM := Aside0.mk hsm
  have HP1 := Aside0.mk hp1
  have HP2 := Aside0.mk hp2
  have HP3 := Aside0.mk hp3
  have HP4 := Aside0.mk hp4
  have HP5 := Aside0.mk hp5
  have HP6 := Aside0.mk hp6
  have HBU := Aside0.mk hBu
  clear hp1 hp2 hp3 hp4 hp5 hp6 hBu hr hsm hm he0
  dsimp only
  go_upto_region 4 with (refine wpList_store_row rfl 27 _ _ rfl u.heap.size (mcells m (.slice B8 p8 d8) (.slice B11 p11 d11)) rfl rfl 27 _ (blk_new u _) size_msg rfl (one_cells _ _ _ _ _ _ _) ?_)
  generalize hv : World.setRow (World.alloc u _) _ _ = v
  obtain ⟨gd, hgd⟩ : ∃ gd, gd = u.heap.size := ⟨_, rfl⟩
  rw [← hgd]
  have hUV : Below u.heap.size u v := by rw [← hv]; exact below_setRow (below_alloc (Below.refl _ _) _) (Nat.le_refl _) _
  have HDV : Aside0 (v.heap[gd]? = some (.cells (mcells m (.slice B8 p8 d8) (.slice B11 p11 d11)) 27 (0, 0))) := ⟨by rw [← hv, hgd]; exact setRow_heap _ _ _ _ _ _ (blk_new _ _)⟩
  have HBV := Aside0.mk (HBU.out.trans (hUV.mono HBU.out.size))
  have HP3V := Aside0.mk (Kd.C_below HP3.out hUV)
  have HP6V := Aside0.mk (Kd.C_below HP6.out hUV)
  clear hv hgd hUV HBU HP3 HP6
  go_wp2_with fail
  refine (refdec_calls A n c l v (Kd.C_below HC.out HBV.out) HN.out HCN.out HB.out (Nat.le_trans HL.out (by decide))).mono ?_
  rw [HR.out]
  rintro e v2 ⟨⟨D8, q8, f8, D11, q11, f11, rfl, hp1, hp2, hp3, hp4, hp5, hp6⟩, hBu⟩
  rw [← HE0.out]
  rw [← HM.out] at hp1 hp3 hp4 hp6 ⊢
  have HQ1 := Aside0.mk hp1
  have HQ2 := Aside0.mk hp2
  have HQ3 := Aside0.mk hp3
  have HQ4 := Aside0.mk hp4
  have HQ5 := Aside0.mk hp5
  have HQ6 := Aside0.mk hp6
  have HDV2 := Aside0.mk (blk_below HDV.out hBu)
  have HBV2 := Aside0.mk (HBV.out.trans (hBu.mono HBV.out.size))
  have HP3V2 := Aside0.mk (Kd.C_below HP3V.out hBu)
  have HP6V2 := Aside0.mk (Kd.C_below HP6V.out hBu)
  clear hp1 hp2 hp3 hp4 hp5 hp6 hBu HDV HBV HP3V HP6V
  dsimp only
  go_upto_region 5 with (refine wpList_store_row rfl 27 _ _ rfl v2.heap.size (mcells m (.slice D8 q8 f8) (.slice D11 q11 f11)) rfl rfl 27 _ (blk_new v2 _) size_msg rfl (one_cells _ _ _ _ _ _ _) ?_)
  generalize hv : World.setRow (World.alloc v2 _) _ _ = v3
  obtain ⟨gn, hgn⟩ : ∃ gn, gn = v2.heap.size := ⟨_, rfl⟩
  rw [← hgn]
  have hUV : Below v2.heap.size v2 v3 := by rw [← hv]; exact below_setRow (below_alloc (Below.refl _ _) _) (Nat.le_refl _) _
  have HNV : Aside0 (v3.heap[gn]? = some (.cells (mcells m (.slice D8 q8 f8) (.slice D11 q11 f11)) 27 (0, 0))) := ⟨by rw [← hv, hgn]; exact setRow_heap _ _ _ _ _ _ (blk_new _ _)⟩
  have HDV3 := Aside0.mk (blk_below HDV2.out hUV)
  have HBV3 := Aside0.mk (HBV2.out.trans (hUV.mono HBV2.out.size))
  have HP3V3 := Aside0.mk (Kd.C_below HP3V2.out hUV)
  have HP6V3 := Aside0.mk (Kd.C_below HP6V2.out hUV)
  have HQ3V3 := Aside0.mk (Kd.C_below HQ3.out hUV)
  have HQ6V3 := Aside0.mk (Kd.C_below HQ6.out hUV)
  clear hv hgn hUV HDV2 HBV2 HP3V2 HP6V2 HQ3 HQ6
  go_wp2_with (first
    | refine wpList_load_row rfl 27 _ rfl gd rfl 27 (mcells m (.slice B8 p8 d8) (.slice B11 p11 d11)) (0, 0) _ HDV3.out Try.underlying27 rfl size_msg ?_
    | refine wpList_load_row rfl 27 _ rfl gn rfl 27 (mcells m (.slice D8 q8 f8) (.slice D11 q11 f11)) (0, 0) _ HNV.out Try.underlying27 rfl size_msg ?_)
  have qs := parapetref6_SameMsg.calls 50 m.kd m.fr m.tt m.tm m.ix m.lt m.cm m.ys B8 d8 m.es m.si m.st B11 d11 m.sm m.sd m.kd m.fr m.tt m.tm m.ix m.lt m.cm m.ys D8 f8 m.es m.si m.st D11 f11 m.sm m.sd true v3
    (by have q := HP3V3.out; rw [HP1.out] at q; exact q) (by rw [← HP1.out]; exact HP2.out) (by have q := HP6V3.out; rw [HP4.out] at q; exact q) (by rw [← HP4.out]; exact HP5.out)
    (by have q := HQ3V3.out; rw [HQ1.out] at q; exact q) (by rw [← HQ1.out]; exact HQ2.out) (by have q := HQ6V3.out; rw [HQ4.out] at q; exact q) (by rw [← HQ4.out]; exact HQ5.out) (msg_same_self m HSM.out.1 HSM.out.2.1 HSM.out.2.2)
  have e8 : p8 = q8 := HP1.out.trans HQ1.out.symm
  have e11 : p11 = q11 := HP4.out.trans HQ4.out.symm
  subst e8 e11
  rw [← HP1.out, ← HP4.out] at qs
  refine (show Calls Try.prog 15 #[.agg (mcells m (.slice B8 p8 d8) (.slice B11 p11 d11)), .agg (mcells m (.slice D8 p8 f8) (.slice D11 p11 f11))] v3 _ from qs).mono ?_
  rintro e v4 ⟨rfl, hb⟩
  have HBV4 := Aside0.mk (HBV3.out.trans (hb.mono HBV3.out.size))
  clear hb qs
  go_wp2_with fail
  refine (HA.out _).mono ?_
  rintro e v5 ⟨rfl, hb⟩
  have HBV5 := Aside0.mk (HBV4.out.trans (hb.mono HBV4.out.size))
  clear hb
  go_wp2
  go_ret
  exact ⟨rfl, HBV5.out⟩
end Go.Proofs.Ytbemfgpdfacdpaa.Ms
namespace Go.Proofs.Ytbemfgpdfacdpaa.Sh
open Go.RowKit Go.Proofs.YtbemfgpdfacdpaaW.PrintWords Go.Proofs.YtbemfgpdfacdpaaW.PrintLast Go.Proofs.YtbemfgpdfacdpaaW.PrintMore
open Go.Proofs.Ytbemfgpdfacdpaa.QT (OwnAt)
open Go.ChangeShapes Go.WideShapes
set_option linter.unusedVariables false
set_option linter.unusedSimpArgs false
theorem wf_u8 {x : Int} (h : (Lit.int .u8 x).wf = true) : 0 ≤ x ∧ x ≤ 255 := by
  simp [Lit.wf, IntKind.min, IntKind.max, IntKind.signed, IntKind.bits] at h
  omega
theorem C_take_of {w : World} {a : Addr} {len cap : Nat} {zs : List Int} (hl : len ≤ cap) (hm : cap ≤ maxLen) (hz : zs.length = cap) (hc : ∀ i, i < zs.length → w.cell? (a.add i) = some (.int .u8 (zs.getD i 0))) : Kd.C (Kd.int .u8) w (some a) (zs.take len).length (zs.take len) := by
  have e : (zs.take len).length = len := by rw [List.length_take]; omega
  refine Kd.C_of_reads (d := (0 : Int)) (h1 := fun _ => rfl) ⟨rfl, by rw [e]; exact Nat.le_trans hl hm, fun h0 => ⟨_, rfl, fun j hj => ?_⟩⟩
  rw [e] at hj
  rw [hc j (by omega)]
  simp [List.getD_eq_getElem?_getD, List.getElem?_take, hj]
theorem open_bytes {H : Type} {enc : TypeId × Value → H} {W : World} {base : Nat} {held : Bool} {a : Option Addr} {len cap : Nat} {d : DataW H} {ps : List MemPlace} (h : DataW.Trod enc Try.prog W base (fun _ => true) held 30 (.slice a len cap) d ps) :
    ∃ z : List Int, Kd.C (Kd.int .u8) W a z.length z ∧ (len = z.length ∧ len ≤ cap) ∧ ∀ x ∈ z, 0 ≤ x ∧ x ≤ 255 := by
  obtain ⟨fuel, hf⟩ := h
  rcases open_ints Try.underlying30 Try.underlying5 (by kernel_rfl) hf with ⟨hcs, _⟩ | ⟨x, l, c, zs, hcs, _, hl, hm, hz, _, hcell, hwz⟩
  · simp [Value.cells] at hcs
    obtain ⟨rfl, rfl, rfl⟩ := hcs
    exact ⟨[], Kd.C_nil _ _, ⟨rfl, Nat.le_refl _⟩, fun _ h => by cases h⟩
  · simp [Value.cells] at hcs
    obtain ⟨rfl, rfl, rfl⟩ := hcs
    simp only [if_true] at hz
    refine ⟨zs.take len, C_take_of hl hm hz hcell, ⟨by rw [List.length_take]; omega, hl⟩, fun x hx => wf_u8 (hwz x (List.mem_of_mem_take hx))⟩
end Go.Proofs.Ytbemfgpdfacdpaa.Sh
