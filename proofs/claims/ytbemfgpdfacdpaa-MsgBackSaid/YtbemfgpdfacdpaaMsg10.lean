/- The walk of MsgOnce: bytes that are read as a message are those that it is written as. -/
import Derived.Test.YtbemfgpdfacdpaaMsg9
import Derived.Test.YtbemfgpdfacdpaaPr
namespace Go.Proofs.Ytbemfgpdfacdpaa.Ms
open Go.RowKit Go.Proofs.Ytbemfgpdfacdpaa.Pr Go.Proofs.YtbemfgpdfacdpaaW.PrintWords Go.Proofs.YtbemfgpdfacdpaaW.PrintLast Go.Proofs.YtbemfgpdfacdpaaW.PrintMore
set_option linter.unusedVariables false
set_option linter.unusedSimpArgs false
theorem dec_sound {l : List Int} {m : M13} (hb : Byt l) (h : decP l = some m) : l = rawW m ∧ goodM m := by
  rw [decP] at h
  split at h
  · cases h
  · rename_i hc
    simp only [not_or, Bool.not_eq_true, ne_eq, Decidable.not_not] at hc
    cases h
    rcases hr : rawP l with ⟨m, r, b⟩
    rw [hr] at hc
    obtain ⟨h1, h2, _⟩ := hc
    simp only at h1 h2
    subst h1 h2
    have := raw_sound hb hr
    rw [List.append_nil] at this
    exact this
theorem sameP_self (m : M13) : sameP m m = true := decide_eq_true ⟨rfl, rfl, rfl, rfl, rfl, rfl, rfl, rfl, rfl, rfl, rfl, rfl, rfl⟩
/-- What is read is written so. -/
theorem enc_of_dec {l : List Int} {m : M13} (hb : Byt l) (h : decP l = some m) : encP m = some l := by
  obtain ⟨h1, h2⟩ := dec_sound hb h
  rw [encP, if_neg (by rw [h2.bad]; decide), ← h1, h]
  simp only [sameP_self, if_true]
theorem goodM.sm9 {m : M13} (h : goodM m) : m.sm.length ≤ 9 := by
  obtain ⟨_, _, _, h4⟩ := h
  rcases h4 with ⟨_, x, y, hx, hy, hm⟩ | ⟨_, y, hm⟩ | ⟨_, x, y, z, es, hx, hy, hz, he, hg, hm⟩ | ⟨_, x, y, hx, hm⟩ | ⟨_, x, y, ms, s, hx, hy, h9, hg, hs, hm⟩
  all_goals rw [hm]
  all_goals first | exact h9 | exact Nat.zero_le _
theorem add_nil (ad : Addr) : ad.add 0 = ad := by
  cases ad
  unfold Addr.add
  split <;> simp_all
theorem addL (ad : Addr) (k : Nat) (h : k ≠ 0) : ad.add k = ⟨ad.block, ad.off + k, none⟩ := by
  unfold Addr.add
  split <;> simp_all
def MA : M13 := ⟨2, 1, 2, 3, 0, 0, 0, true, [], 0, 0, [], ⟨#[]⟩⟩
def BA : List Int := [2, 0, 0, 0, 0, 0, 0, 0, 1, 0, 0, 0, 0, 0, 0, 0, 2, 0, 0, 0, 0, 0, 0, 0, 3, 1]
theorem encA : encP MA = some BA := by
  have h : (encP MA == some BA) = true := by decide +kernel
  exact eq_of_beq h
set_option maxHeartbeats 4000000 in
set_option maxRecDepth 100000 in
theorem awake_calls (w : World) : Calls Try.prog 9 #[] w fun e w' => e = .returned (.bool true) ∧ Below w.heap.size w w' := by
  go_enter Try.func9, Try.ntmps9
  go_wp2_with fail
  refine (encode_calls MA none 0 0 none 0 0 w (Kd.C_nil _ _) rfl (Nat.le_refl _) (Kd.C_nil _ _) rfl (Nat.le_refl _) (by decide +kernel) (by decide)).mono ?_
  rw [encA]
  rintro e u ⟨⟨A, n, c, rfl, hn, hc, hC⟩, hB⟩
  have hn' : n = 26 := hn
  subst hn'
  have hC' : (Kd.int .u8).C u A BA.length BA := hC
  obtain ⟨ad, hA, hc0⟩ := Kd.at_int hC' (0 : Int) (by decide) (by decide)
  obtain ⟨ad8, hA8, hc8⟩ := Kd.at_int hC' (8 : Int) (by decide) (by decide)
  obtain ⟨ad16, hA16, hc16⟩ := Kd.at_int hC' (16 : Int) (by decide) (by decide)
  obtain ⟨ad24, hA24, hc24⟩ := Kd.at_int hC' (24 : Int) (by decide) (by decide)
  obtain ⟨ad25, hA25, hc25⟩ := Kd.at_int hC' (25 : Int) (by decide) (by decide)
  subst hA
  cases hA8; cases hA16; cases hA24; cases hA25
  have k0 : u.cell? ad = some (.int .u8 2) := by
    have q : u.cell? (ad.add 0) = some (.int .u8 2) := hc0
    rw [add_nil] at q
    exact q
  have k8 : u.cell? ⟨ad.block, ad.off + 8, none⟩ = some (.int .u8 1) := by rw [← addL ad 8 (by decide)]; exact hc8
  have k16 : u.cell? ⟨ad.block, ad.off + 16, none⟩ = some (.int .u8 2) := by rw [← addL ad 16 (by decide)]; exact hc16
  have k24 : u.cell? ⟨ad.block, ad.off + 24, none⟩ = some (.int .u8 3) := by rw [← addL ad 24 (by decide)]; exact hc24
  have k25 : u.cell? ⟨ad.block, ad.off + 25, none⟩ = some (.int .u8 1) := by rw [← addL ad 25 (by decide)]; exact hc25
  have HB := Aside0.mk hB
  clear hc0 hc8 hc16 hc24 hc25 hC hC' hn hB
  simp only [Option.isSome_some, ↓reduceIte]
  go_wp2
  go_ret
  exact ⟨rfl, HB.out⟩
theorem bytes_l (l : List Int) (hl : l.length ≤ 4611686018427387904) : ∀ (m i : Nat), i + m = l.length → parapetalike_Bytes.l0 (m + 1) l l i = some true
  | 0, i, h => by rw [parapetalike_Bytes.l0, if_neg (by omega)]
  | m + 1, i, h => by
    rw [parapetalike_Bytes.l0, if_pos (by omega), if_pos (by omega), if_pos (by omega), if_pos rfl, show wrap64 ((i : Int) + 1) = ((i + 1 : Nat) : Int) by unfold wrap64; omega]
    exact bytes_l l hl m (i + 1) (by omega)
theorem bytes_f (l : List Int) (hl : l.length ≤ 4611686018427387904) : parapetalike_Bytes.f (l.length + 1) l l = some true := by
  rw [parapetalike_Bytes.f, if_pos rfl]
  exact bytes_l l hl l.length 0 (by omega)
theorem bytes_same (A B : Option Addr) (c d n m : Nat) (l : List Int) (w : World) (hn : n = l.length) (hm : m = l.length) (h1 : Kd.C (Kd.int .u8) w A l.length l) (h2 : Kd.C (Kd.int .u8) w B l.length l) (hc : l.length ≤ c) (hd : l.length ≤ d) (hl : l.length ≤ 4611686018427387904) :
    Calls Try.prog 12 #[.slice A n c, .slice B m d] w fun e w' => e = .returned (.bool true) ∧ Drawn0 w w' := by
  rw [hn, hm]
  exact parapetalike_Bytes.calls _ A c l B d l true w h1 hc h2 hd (bytes_f l hl)
theorem zero_same (w : World) (A8 : Option Addr) (c8 : Nat) (A11 : Option Addr) (c11 : Nat) (h8 : k46.C w A8 0 []) (h11 : (Kd.int .i64).C w A11 0 []) :
    Calls Try.prog 15 #[.agg (mcells M0 (.slice A8 0 c8) (.slice A11 0 c11)), .agg (mcells M0 (.slice none 0 0) (.slice none 0 0))] w fun e w' => e = .returned (.bool true) ∧ Below w.heap.size w w' :=
  parapetref6_SameMsg.calls 1 0 0 0 0 0 0 0 false A8 c8 [] 0 0 A11 c11 [] ⟨#[]⟩ 0 0 0 0 0 0 0 false none 0 [] 0 0 none 0 [] ⟨#[]⟩ true w h8 (Nat.zero_le _) h11 (Nat.zero_le _) (Kd.C_nil _ _) (Nat.le_refl _) (Kd.C_nil _ _) (Nat.le_refl _) (by decide +kernel)
set_option maxHeartbeats 4000000 in
set_option maxRecDepth 100000 in
theorem once_calls (A : Option Addr) (n c : Nat) (l : List Int) (w : World) (hC : Kd.C (Kd.int .u8) w A l.length l) (hn : n = l.length) (hc : n ≤ c) (hb : ∀ x ∈ l, 0 ≤ x ∧ x ≤ 255) (hl : n ≤ 140737488351232) :
    Calls Try.prog 6 #[.slice A n c] w fun e w' => e = .returned (.bool true) ∧ Below w.heap.size w w' := by
  have HA := Aside0.mk (fun w => awake_calls w)
  have HC := Aside0.mk hC
  have HB := Aside0.mk hb
  have HN := Aside0.mk hn
  have HCN := Aside0.mk hc
  clear hC hb hn
  by_cases h1 : 20000 < n
  · have e1 : decide (20000 < (n : Int)) = true := decide_eq_true (by omega)
    go_enter Try.func6, Try.ntmps6
    go_wp2_with fail
    refine (HA.out _).mono ?_
    rintro e w2 ⟨rfl, hb⟩
    go_wp2
    go_ret
    exact ⟨rfl, hb⟩
  have e1 : decide (20000 < (n : Int)) = false := decide_eq_false (by omega)
  go_enter Try.func6, Try.ntmps6
  go_wp2_with fail
  refine (decode_calls A n c l w HC.out HN.out hc HB.out (by omega)).mono ?_
  obtain ⟨q, hq⟩ : ∃ q, q = decP l := ⟨_, rfl⟩
  rw [← hq]
  rintro e u ⟨⟨B8, p8, d8, B11, p11, d11, rfl, hp1, hp2, hp3, hp4, hp5, hp6⟩, hBu⟩
  have HQ := Aside0.mk hq
  clear hq
  cases q
  · simp only [Option.getD_none, Option.isSome_none, Bool.false_eq_true, ↓reduceIte]
    obtain rfl : p8 = 0 := hp1
    obtain rfl : p11 = 0 := hp4
    have HP3 := Aside0.mk hp3
    have HP6 := Aside0.mk hp6
    have HBU := Aside0.mk hBu
    clear hp2 hp3 hp5 hp6 hBu
    go_upto_region 4 with (refine wpList_store_row rfl 27 _ _ rfl u.heap.size (mcells M0 (.slice B8 0 d8) (.slice B11 0 d11)) rfl rfl 27 _ (blk_new u _) size_msg rfl (one_cells _ _ _ _ _ _ _) ?_)
    generalize hv : World.setRow (World.alloc u _) _ _ = v
    obtain ⟨gd, hgd⟩ : ∃ gd, gd = u.heap.size := ⟨_, rfl⟩
    rw [← hgd]
    have hUV : Below u.heap.size u v := by rw [← hv]; exact below_setRow (below_alloc (Below.refl _ _) _) (Nat.le_refl _) _
    have HDV : Aside0 (v.heap[gd]? = some (.cells (mcells M0 (.slice B8 0 d8) (.slice B11 0 d11)) 27 (0, 0))) := ⟨by rw [← hv, hgd]; exact setRow_heap _ _ _ _ _ _ (blk_new _ _)⟩
    have HBV := Aside0.mk (HBU.out.trans (hUV.mono HBU.out.size))
    have HP3V := Aside0.mk (Kd.C_below HP3.out hUV)
    have HP6V := Aside0.mk (Kd.C_below HP6.out hUV)
    clear hv hgd hUV HBU HP3 HP6
    go_wp2_with (refine wpList_load_row rfl 27 _ rfl gd rfl 27 (mcells M0 (.slice B8 0 d8) (.slice B11 0 d11)) (0, 0) _ HDV.out Try.underlying27 rfl size_msg ?_)
    refine (zero_same v B8 d8 B11 d11 HP3V.out HP6V.out).mono ?_
    rintro e v2 ⟨rfl, hb⟩
    have HB2 := Aside0.mk (HBV.out.trans (hb.mono HBV.out.size))
    clear hb
    go_wp2_with fail
    refine (HA.out _).mono ?_
    rintro e v3 ⟨rfl, hb⟩
    have HB3 := Aside0.mk (HB2.out.trans (hb.mono HB2.out.size))
    clear hb
    go_wp2
    go_ret
    exact ⟨rfl, HB3.out⟩
  · rename_i m
    simp only [Option.getD_some, Option.isSome_some, ↓reduceIte]
    simp only [Option.getD_some] at hp1 hp3 hp4 hp6
    have hs := dec_sound HB.out HQ.out.symm
    have he := enc_of_dec HB.out HQ.out.symm
    have HS := Aside0.mk hs
    have HE := Aside0.mk he
    have HP1 := Aside0.mk hp1
    have HP2 := Aside0.mk hp2
    have HP3 := Aside0.mk hp3
    have HP4 := Aside0.mk hp4
    have HP5 := Aside0.mk hp5
    have HP6 := Aside0.mk hp6
    have HBU := Aside0.mk hBu
    clear hp1 hp2 hp3 hp4 hp5 hp6 hBu hs he HQ
    go_upto_region 4 with (refine wpList_store_row rfl 27 _ _ rfl u.heap.size (mcells m (.slice B8 p8 d8) (.slice B11 p11 d11)) rfl rfl 27 _ (blk_new u _) size_msg rfl (one_cells _ _ _ _ _ _ _) ?_)
    generalize hv : World.setRow (World.alloc u _) _ _ = v
    obtain ⟨gd, hgd⟩ : ∃ gd, gd = u.heap.size := ⟨_, rfl⟩
    rw [← hgd]
    have hUV : Below u.heap.size u v := by rw [← hv]; exact below_setRow (below_alloc (Below.refl _ _) _) (Nat.le_refl _) _
    have HDV : Aside0 (v.heap[gd]? = some (.cells (mcells m (.slice B8 p8 d8) (.slice B11 p11 d11)) 27 (0, 0))) := ⟨by rw [← hv, hgd]; exact setRow_heap _ _ _ _ _ _ (blk_new _ _)⟩
    have HBV := Aside0.mk (HBU.out.trans (hUV.mono HBU.out.size))
    have HP3V := Aside0.mk (Kd.C_below HP3.out hUV)
    have HP6V := Aside0.mk (Kd.C_below HP6.out hUV)
    clear hv hgd hUV HBU HP3 HP6
    go_wp2_with (refine wpList_load_row rfl 27 _ rfl gd rfl 27 (mcells m (.slice B8 p8 d8) (.slice B11 p11 d11)) (0, 0) _ HDV.out Try.underlying27 rfl size_msg ?_)
    refine (encode_calls m B8 p8 d8 B11 p11 d11 v HP3V.out HP1.out HP2.out HP6V.out HP4.out HP5.out (by rw [← HS.out.1, ← HN.out]; omega) (by have := HS.out.2.sm9; omega)).mono ?_
    rw [HE.out]
    rintro e v2 ⟨⟨A2, n2, c2, rfl, hn2, hc2, hC2⟩, hb⟩
    simp only [Option.isSome_some, ↓reduceIte]
    have HB2 := Aside0.mk (HBV.out.trans (hb.mono HBV.out.size))
    have hn2' : n2 = l.length := hn2
    have hC2' : (Kd.int .u8).C v2 A2 l.length l := by have q : (Kd.int .u8).C v2 A2 n2 l := hC2; rw [hn2'] at q; exact q
    have HN2 := Aside0.mk hn2'
    have HC2 := Aside0.mk hC2'
    have HCC2 := Aside0.mk hc2
    clear hb hn2 hc2 hC2 hn2' hC2'
    go_wp2_with fail
    refine (bytes_same A A2 c c2 n n2 l v2 HN.out HN2.out (Kd.C_below HC.out HB2.out) HC2.out (by rw [← HN.out]; exact HCN.out) (by rw [← HN2.out]; exact HCC2.out) (by rw [← HN.out]; omega)).mono ?_
    rintro e v3 ⟨rfl, md, hv3⟩
    have HB3 : Aside0 (Below w.heap.size w v3) := ⟨by rw [hv3]; exact pw_below_drewN HB2.out md⟩
    clear hv3
    go_wp2_with fail
    refine (HA.out _).mono ?_
    rintro e v4 ⟨rfl, hb⟩
    have HB4 := Aside0.mk (HB3.out.trans (hb.mono HB3.out.size))
    clear hb
    go_wp2
    go_ret
    exact ⟨rfl, HB4.out⟩
end Go.Proofs.Ytbemfgpdfacdpaa.Ms
