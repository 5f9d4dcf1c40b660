/- 12 texts of the proof, put together, less what is not used; what a tool printed stands among them. -/
import Derived.StillTail
import Derived.Deep.QuietTactic
import Derived.BigQuiet
import Derived.Laws.CopyOwn
import Derived.Lib.ConvBytes
import Derived.Recover
import Derived.Test.YtngedmioeodmfaaDoorMTe4
set_option maxRecDepth 100000
namespace Go.Proofs
open Go.RowKit
theorem nTe5_ {p_ : Prop} (h_ : p_ := by
 simp only [Act.put, List.setIfInBounds_toArray, List.set_cons_zero, List.set_cons_succ, i64_w, i32_w]
 rfl) : p_ := h_
theorem sTe5_0 {p_ : Prop} (h_ : p_ := by
 go_enter Tryd.func71, Tryd.ntmps71
 go_wp2_with fail
 rw [← hw1, ← hgr]
 clear hw1 hgr
 refine H1.out.mono ?_
 cases r1 with
 | error f =>
  obtain rfl : R = .error f := by rw [HR.out, kidsP, ← HR1.out]
  rintro e w2 ⟨rfl, hb⟩
  dsimp only
  exact ⟨rfl, rfl, hb⟩
 | ok x =>
  obtain ⟨c, q⟩ := x
  rintro e w2 ⟨v, rfl, ⟨v3, rfl, hr⟩, hs, hk⟩
  dsimp only [cdcells]
  have HX2 := Aside0.mk (blk_kept HX1.out hk (by have := HGG.out; show gr ≠ g; omega))
  have HL2 : Aside0 (k49.R 49 (w2.alloc (.cells (cdcells c v3) 49)) w0.heap.size (fun k => gr < k) (.slice (some ⟨w2.heap.size, 0, none⟩) 1 1) [c]) := ⟨row_one w2 w0.heap.size c v3 _ _ hr (fun k hk2 => by have := HGR.out; omega) (by have := hk.1; have := HGR.out; omega) hs.bl.size⟩
  have HK2 := Aside0.mk (HK1.out.then_ hk (fun k hk => .inl hk))
  have HK12 := Aside0.mk hk
  have HS2 := Aside0.mk hs
  have hF : (match kidsL T b.e one wd (T.length + 1 - q) [c] q with
   | .error x => .error x
   | .ok (l, r) => if l.length = 1 then .ok (l.getD 0 z49, r) else .ok (cond0 kind l, r)) = R := by rw [HR.out, kidsP, ← HR1.out]; rfl
  obtain ⟨FN, hFN⟩ : ∃ F, F = kidsL T b.e one wd (T.length + 1 - q) [c] q := ⟨_, rfl⟩
  rw [← hFN] at hF
  have HF := Aside0.mk hF
  have HFN := Aside0.mk hFN
  clear hr hs hk hF hFN HK1 HS1 H1 HR HR1
  have HS3 : Aside0 (PS w0 (w2.alloc (.cells (cdcells c v3) 49)) g T b q deep) := ⟨HS2.out.below (below_alloc (Below.refl _ _) _)⟩
  have HK13 : Aside0 (Kept w1 (w2.alloc (.cells (cdcells c v3) 49)) (fun k => k = g)) := ⟨HK12.out.alloc _⟩
  clear HX2 HK2 HK12 HS2
  go_wp2_with fail
  rename_i K1 hK1
  have HK1 := Aside0.mk hK1
  clear hK1
  go_loopg [9] T.length (fun gk v9 wr => ∃ (f : Nat) (acc : List Cd) (q : Nat), Aside0 (T.length + 1 - q ≤ f) ∧ Aside0 (T.length - q ≤ gk) ∧ Aside0 (FN = kidsL T b.e one wd f acc q) ∧ Aside0 (acc.length ≤ q + 1) ∧ Aside0 (acc ≠ []) ∧ Aside0 (PS w0 wr g T b q deep) ∧ Aside0 (Kept w1 wr (fun k => k = g)) ∧ Aside0 (k49.R 49 wr w0.heap.size (fun k => gr < k) v9 acc))
  case atStart => exact ⟨T.length + 1 - q, [c], q, ⟨Nat.le_refl _⟩, ⟨by omega⟩, HFN, ⟨by simp⟩, ⟨by simp⟩, HS3, HK13, HL2⟩
  case round =>
   clear HFN HS3 HK13 HL2
   obtain ⟨f, acc, q, HFB, HGK, HFN, HAL, HNE, HS, HK, HL⟩ := hrel
   have HIS := is_calls w0 _ g T b q deep (HS.out.below (below_alloc (Below.refl _ _) (.cells #[.string wd] 9))) (some ⟨wr.heap.size, 0, none⟩) 1 1 [wd] (lit_strs wr [wd] (by simp)) rfl (Nat.le_refl _) (by simp)
   obtain ⟨i, hi⟩ : ∃ i, i = isP T b.e [wd] q := ⟨_, rfl⟩
   rw [← hi] at HIS
   have HIS := Aside0.mk HIS
   have HI := Aside0.mk hi
   clear hi
   go_wp2_with fail
   refine HIS.out.mono ?_
   rintro e w4 ⟨rfl, hb⟩
   dsimp only
   have HS4 := Aside0.mk ((HS.out.below (below_alloc (Below.refl _ _) (.cells #[.string wd] 9))).below hb)
   have HB4 : Aside0 (Below wr.heap.size wr w4) := ⟨(below_alloc (Below.refl _ _) _).trans (hb.mono (below_alloc (Below.refl _ _) _).size)⟩
   clear hb HIS
   cases i
   ·have hfin : FN = .ok (acc, q) := by
     rw [HFN.out]
     cases f with
     | zero => rfl
     | succ f => rw [kidsL, ← HI.out]; rfl
    have HRF : Aside0 (R = if acc.length = 1 then .ok (acc.getD 0 z49, q) else .ok (cond0 kind acc, q)) := ⟨by rw [← HF.out, hfin]⟩
    have HK4 := Aside0.mk (HK.out.below HB4.out)
    have HL4 := Aside0.mk (Kd.R_below HL.out HB4.out)
    have HX4 : Aside0 (w4.heap[gr]? = some (.cells #[.int .i64 0, .string ⟨#[]⟩, .string ⟨#[]⟩, .slice none 0 0] 49 (0, 0))) := ⟨blk_kept HX1.out HK4.out (by have := HGG.out; show gr ≠ g; omega)⟩
    have HKW : Aside0 (Kept W w4 (fun k => k = g)) := ⟨HK0.out.then_ HK4.out (fun k hk => .inl hk)⟩
    clear hfin HFN HL HK HF HI HX1
    by_cases hlen : acc.length = 1
    ·obtain ⟨c0, rfl⟩ := List.length_eq_one_iff.1 hlen
     obtain rfl : R = .ok (c0, q) := by rw [HRF.out]; rfl
     obtain ⟨gl, cap, v3', e9, hcap, l0, l1, l2, l3, hR3⟩ := row_one_open HL4.out
     subst e9
     have HR3 := Aside0.mk hR3
     clear hlen HRF HAL HNE hR3
     go_wp2_with fail
     refine HK1.out _ _ ?_
     go_wp2_with (refine wpList_store_row rfl 49 _ _ rfl gr (cdcells c0 v3') rfl rfl 49 _ HX4.out size_cd rfl (cd_one _ _ (R_cell1 HR3.out)) ?_)
     exact bodyPost_ret (ret_row rfl _ _ gr 49 (cdcells c0 v3') (0, 0) rfl (setRow_heap _ _ _ _ _ _ HX4.out) Tryd.underlying49 size_cd) rfl
      ⟨_, rfl, ⟨v3', rfl, Kd.R_mono (Kd.R_kept HR3.out (kept_setRow w4 gr _) (fun k hk => by omega)) (fun k hk => by have := HWG.out; omega)⟩, HS4.out.row (by have := HGG.out; omega) (by have := HWG.out; have := H.out.bl.size; omega) _, HKW.out.then_ (kept_setRow w4 gr _) (fun k hk => .inr (by have := HWG.out; omega))⟩
    ·obtain rfl : R = .ok (cond0 kind acc, q) := by rw [HRF.out, if_neg hlen]
     obtain ⟨A9, c9, e9⟩ := Kd.R_slice HL4.out
     obtain ⟨n9, hn9⟩ : ∃ n9, n9 = acc.length := ⟨_, rfl⟩
     rw [← hn9] at e9 hlen
     subst e9
     have l1 : ((n9 : Int) == 1) = false := by simp; omega
     have HN9 := Aside0.mk hn9
     clear hlen HRF hn9
     go_wp2_with fail
     refine HK1.out _ _ ?_
     go_wp2_with (refine wpList_store_row rfl 49 _ _ rfl gr (cdcells (cond0 kind acc) (.slice A9 n9 c9)) rfl rfl 49 _ HX4.out size_cd rfl (cd_one _ _ rfl) ?_)
     exact bodyPost_ret (ret_row rfl _ _ gr 49 (cdcells (cond0 kind acc) (.slice A9 n9 c9)) (0, 0) rfl (setRow_heap _ _ _ _ _ _ HX4.out) Tryd.underlying49 size_cd) rfl
      ⟨_, rfl, ⟨.slice A9 n9 c9, rfl, Kd.R_mono (Kd.R_kept HL4.out (kept_setRow w4 gr _) (fun k hk => by omega)) (fun k hk => by have := HWG.out; omega)⟩, HS4.out.row (by have := HGG.out; omega) (by have := HWG.out; have := H.out.bl.size; omega) _, HKW.out.then_ (kept_setRow w4 gr _) (fun k hk => .inr (by have := HWG.out; omega))⟩
   ·have hq : q < T.length := isP_lt HI.out.symm
    have HQ := Aside0.mk hq
    obtain ⟨f', rfl⟩ : ∃ f', f = f' + 1 := ⟨f - 1, by have := HFB.out; omega⟩
    have hql : (q : Int) ≤ 1000000 := by have := H.out.tl; omega
    have c1 : w4.cell? ⟨g, 1, none⟩ = some (.int .i64 q) := HS4.out.cell 1
    have f1 := blk_frozen HS4.out.blk 1
    obtain ⟨w5, hw5⟩ : ∃ w5, w5 = w4.setCell ⟨g, 1, none⟩ (.int .i64 ((q : Int) + 1)) := ⟨_, rfl⟩
    have HS5 : Aside0 (PS w0 w5 g T b (q + 1) deep) := ⟨by rw [hw5]; exact HS4.out.step (q + 1) hq⟩
    have HK5 : Aside0 (Kept w1 w5 (fun k => k = g)) := ⟨by rw [hw5]; exact Kept.setCell (S := fun k => k = g) (p := ⟨g, 1, none⟩) (HK.out.below HB4.out) (.inl rfl) _⟩
    have HKR5 : Aside0 (Kept wr w5 (fun k => k = g)) := ⟨by rw [hw5]; exact Kept.setCell (S := fun k => k = g) (p := ⟨g, 1, none⟩) (Kept.of_below HB4.out _) (.inl rfl) _⟩
    have HW5 := Aside0.mk hw5
    have h5 := HONE1.out (q + 1) w5 HK5.out HS5.out
    obtain ⟨r2, hr2⟩ : ∃ r2, r2 = one (q + 1) := ⟨_, rfl⟩
    rw [← hr2] at h5
    have H5 := Aside0.mk h5
    have HR2 := Aside0.mk hr2
    have HFN2 : Aside0 (FN = kidsK T b.e one wd f' acc r2) := ⟨by rw [HFN.out, kidsL_succ, ← HI.out, hr2]; rfl⟩
    clear hw5 h5 hr2 hq HFN HS4
    go_upto_region 4 with (fail)
    rw [← HW5.out]
    clear HW5 c1 f1
    go_wp2_with fail
    refine H5.out.mono ?_
    cases r2 with
    | error x =>
     obtain rfl : R = .error x := by rw [← HF.out, HFN2.out]; rfl
     rintro e w6 ⟨rfl, hb⟩
     dsimp only
     exact ⟨rfl, rfl, hb⟩
    | ok x =>
     obtain ⟨c2, q2⟩ := x
     rintro e w6 ⟨v, rfl, ⟨v3', rfl, hr⟩, hs, hk⟩
     dsimp only [cdcells]
     have hq2 := HM.out (q + 1) c2 q2 HR2.out.symm
     have HKR6 := Aside0.mk (HKR5.out.then_ hk (fun k hk => .inl hk))
     have HK6 := Aside0.mk (HK5.out.then_ hk (fun k hk => .inl hk))
     have HS6 := Aside0.mk hs
     have HL6 := Aside0.mk (Kd.R_kept HL.out HKR6.out (fun k hk => by have := HGG.out; show k ≠ g; omega))
     have HM6 := Aside0.mk (k49_mkM w6 w0.heap.size (fun k => w5.heap.size ≤ k) c2 hr)
     have hsz : wr.heap.size ≤ w5.heap.size := HKR5.out.1
     have HOK6 : Aside0 (∀ k, w5.heap.size ≤ k → gr < k ∧ some k ≠ (u9 : Value).ownBlock) := ⟨fun k hk => ⟨by have := HGR.out; have := HK5.out.1; omega, fun he => by have := Kd.R_lt HL.out _ he.symm; omega⟩⟩
     have HSW6 : Aside0 (∀ k, w6.heap.size ≤ k → gr < k) := ⟨fun k hk => by have := HGR.out; have := HK6.out.1; omega⟩
     have hal : acc.length ≤ 1000001 := by have := HAL.out; have := H.out.tl; have := HQ.out; omega
     have HQ2 := Aside0.mk hq2
     have HAL2 : Aside0 ((acc ++ [c2]).length ≤ q2 + 1) := ⟨by rw [List.length_append, List.length_singleton]; have := HAL.out; omega⟩
     clear hr hs hk hq2 HL HK hsz
     go_wp2_with (at_builtin; refine Kd.R_append k49 (w0 := w0) w0.heap.size rfl (.tmp 28) (.tmp 31) 47 49 (.agg #[.int .i64 0, .string ⟨#[]⟩, .string ⟨#[]⟩, .slice none 0 0]) 64 rfl Tryd.underlying47 info_cd rfl (by decide) (by decide) u9 acc c2 [.int .i64 c2.f0, .string c2.f1.f0, .string c2.f1.f1, v3'] (fun k => gr < k) (fun k => w5.heap.size ≤ k) rfl rfl HM6.out HOK6.out HSW6.out HL6.out HS6.out.bl HS6.out.bl.size (by omega) ?_)
     intro v7 w7 hO7 hB7 hg7 hat7
     have hrow : ∀ j, j < w6.heap.size → j ≤ gr → w7.heap[j]? = w6.heap[j]? := fun j hj hjg => hg7.block j hj (fun he => by
      have := HL6.out.1 j he.symm
      omega)
     have HS7 : Aside0 (PS w0 w7 g T b q2 deep) := ⟨⟨(hrow g (blk_lt HS6.out.blk) (Nat.le_of_lt HGG.out)).trans HS6.out.blk, hB7, HS6.out.gl, HS6.out.tC, HS6.out.tn, HS6.out.tc, HS6.out.tl, HS6.out.al⟩⟩
     have HK7 : Aside0 (Kept w1 w7 (fun k => k = g)) := ⟨Kept.of_grown hg7 HK6.out (fun k hk => .inr (by have := HL6.out.1 k hk; have := HGR2.out; omega))⟩
     have HO7 := Aside0.mk hO7
     clear hO7 hB7 hg7 hat7 hrow
     go_wp2
     go_roundg (T.length - q2)
     case measure => have := HGK.out; have := HQ.out; have := HQ2.out; omega
     case rel => exact ⟨f', acc ++ [c2], q2, ⟨by have := HFB.out; have := HQ2.out; omega⟩, ⟨Nat.le_refl _⟩, ⟨HFN2.out⟩, HAL2, ⟨by simp⟩, HS7, HK7, HO7⟩) : p_ := h_
theorem sTe5_1 {p_ : Prop} (h_ : p_ := by
 go_enter Tryd.func91, Tryd.ntmps91
 go_upto_region 1 with (fail)
 rw [← hw1, ← hgr]
 clear hw1 hgr hw2
 go_upto_region 2 with (fail)
 rw [← HW2.out]
 have d10 : w2.cell? ⟨g, 10, none⟩ = some (.int .i64 (deep + 1)) := HS2.out.cell 10
 obtain ⟨d1, hd1⟩ : ∃ d1, d1 = deep + 1 := ⟨_, rfl⟩
 rw [← hd1] at d10 HS2 HONE
 have HD1 := Aside0.mk hd1
 clear c10 f10 HW2
 by_cases hdd : deep < 30
 ·have l1 : decide (30 < d1) = false := decide_eq_false (by omega)
  have hRR := HRR.out
  rw [if_pos hdd] at hRR
  have c1 : w2.cell? ⟨g, 1, none⟩ = some (.int .i64 p) := HS2.out.cell 1
  have f1 := blk_frozen HS2.out.blk 1
  obtain ⟨w3, hw3⟩ : ∃ w3, w3 = w2.setCell ⟨g, 1, none⟩ (.int .i64 ((p : Int) + 1)) := ⟨_, rfl⟩
  have HS3 : Aside0 (PS w0 w3 g T b (p + 1) d1) := ⟨by rw [hw3]; exact HS2.out.step (p + 1) HP.out⟩
  have HK3 : Aside0 (Kept W w3 (fun k => k = g)) := ⟨by rw [hw3]; exact Kept.setCell (S := fun k => k = g) (p := ⟨g, 1, none⟩) HK2.out (.inl rfl) _⟩
  have HX3 : Aside0 (w3.heap[gr]? = some (.cells zcd 49 (0, 0))) := ⟨by rw [hw3]; exact blk_far HX2.out (p := ⟨g, 1, none⟩) (by have := HGG.out; show gr ≠ g; omega) _⟩
  have HGR3 : Aside0 (gr < w3.heap.size) := ⟨blk_lt HX3.out⟩
  have h1 := HONE.out hdd (p + 1) w3 HK3.out HS3.out
  have HW3 := Aside0.mk hw3
  obtain ⟨r, hr⟩ : ∃ r, r = one (p + 1) := ⟨_, rfl⟩
  rw [← hr] at h1 hRR
  subst hRR
  have H1 := Aside0.mk h1
  clear h1 hw3 hdd hr HRR hd1
  go_upto_region 5 with (fail)
  rw [← HW3.out]
  clear c1 f1 HW3 d10 l1
  go_wp2_with fail
  refine H1.out.mono ?_
  cases R with
  | error x =>
   rintro e w4 ⟨rfl, hb⟩
   dsimp only
   exact ⟨rfl, rfl, hb⟩
  | ok x =>
   obtain ⟨c, q⟩ := x
   rintro e w4 ⟨v, rfl, ⟨v3, rfl, hr⟩, hs, hk⟩
   dsimp only [cdcells]
   obtain ⟨A3, c3, e3⟩ := Kd.R_slice hr
   obtain ⟨n3, hn3⟩ : ∃ n3, n3 = c.f2.length := ⟨_, rfl⟩
   rw [← hn3] at e3
   subst e3
   have HX4 := Aside0.mk (blk_kept HX3.out hk (by have := HGG.out; show gr ≠ g; omega))
   have HK4 := Aside0.mk (HK3.out.then_ hk (fun k hk => .inl hk))
   have HR4 := Aside0.mk (Kd.R_mono (ok' := fun k => gr < k) hr (fun k hk2 => by have := HGR3.out; omega))
   have HS4 := Aside0.mk hs
   clear hr hs hk hn3
   go_upto_region 6 with (fail)
   obtain ⟨w5, hw5⟩ : ∃ w5, w5 = w4.alloc (.cells (cdcells c (.slice A3 n3 c3)) 49) := ⟨_, rfl⟩
   obtain ⟨gc, hgc⟩ : ∃ gc, gc = w4.heap.size := ⟨_, rfl⟩
   have HS5 : Aside0 (PS w0 w5 g T b q d1) := ⟨by rw [hw5]; exact HS4.out.below (below_alloc (Below.refl _ _) _)⟩
   have HK5 : Aside0 (Kept W w5 (fun k => k = g)) := ⟨by rw [hw5]; exact HK4.out.alloc _⟩
   have HX5 : Aside0 (w5.heap[gr]? = some (.cells zcd 49 (0, 0))) := ⟨by rw [hw5]; exact blk_alloc HX4.out _⟩
   have HC5 : Aside0 (w5.heap[gc]? = some (.cells (cdcells c (.slice A3 n3 c3)) 49 (0, 0))) := ⟨by rw [hw5, hgc]; exact blk_new _ _⟩
   have HR5 := Aside0.mk (show k49.R 49 w5 w0.heap.size (fun k => gr < k) (.slice A3 n3 c3) c.f2 by rw [hw5]; exact Kd.R_alloc HR4.out _)
   have HGC : Aside0 (gc ≠ g) := ⟨by rw [hgc]; have := blk_lt HS4.out.blk; omega⟩
   change Code.wp _ _ _ _ (w4.alloc (.cells (cdcells c (.slice A3 n3 c3)) 49))
   rw [← hw5, ← hgc]
   clear hw5 hgc HS4 HK4 HX4 HR4
   have c10 : w5.cell? ⟨g, 10, none⟩ = some (.int .i64 (deep + 1)) := by rw [← HD1.out]; exact HS5.out.cell 10
   have f10 := blk_frozen HS5.out.blk 10
   obtain ⟨w6, hw6⟩ : ∃ w6, w6 = w5.setCell ⟨g, 10, none⟩ (.int .i64 deep) := ⟨_, rfl⟩
   have HS6 : Aside0 (PS w0 w6 g T b q deep) := ⟨by rw [hw6]; exact HS5.out.dip deep⟩
   have HK6 : Aside0 (Kept W w6 (fun k => k = g)) := ⟨by rw [hw6]; exact Kept.setCell (S := fun k => k = g) (p := ⟨g, 10, none⟩) HK5.out (.inl rfl) _⟩
   have HX6 : Aside0 (w6.heap[gr]? = some (.cells zcd 49 (0, 0))) := ⟨by rw [hw6]; exact blk_far HX5.out (p := ⟨g, 10, none⟩) (by have := HGG.out; show gr ≠ g; omega) _⟩
   have HC6 : Aside0 (w6.heap[gc]? = some (.cells (cdcells c (.slice A3 n3 c3)) 49 (0, 0))) := ⟨by rw [hw6]; exact blk_far HC5.out (p := ⟨g, 10, none⟩) HGC.out _⟩
   have HR6 := Aside0.mk (show k49.R 49 w6 w0.heap.size (fun k => gr < k) (.slice A3 n3 c3) c.f2 by rw [hw6]; exact Kd.R_far HR5.out (p := ⟨g, 10, none⟩) (fun k hk => by have := HGG.out; show k ≠ g; omega) _)
   have HW6 := Aside0.mk hw6
   clear hw6
   go_upto_region 7 with (fail)
   rw [← HW6.out]
   clear c10 f10 HW6
   go_wp2_with (first
    | refine wpList_load_row rfl 49 _ rfl gc rfl 49 (cdcells c (.slice A3 n3 c3)) (0, 0) _ HC6.out Tryd.underlying49 rfl size_cd ?_
    | refine wpList_store_row rfl 49 _ _ rfl gr (cdcells c (.slice A3 n3 c3)) rfl rfl 49 _ HX6.out size_cd rfl (cd_one _ _ rfl) ?_)
   exact bodyPost_ret (ret_row rfl _ _ gr 49 (cdcells c (.slice A3 n3 c3)) (0, 0) rfl (setRow_heap _ _ _ _ _ _ HX6.out) Tryd.underlying49 size_cd) rfl (fin_cond HGG.out HWG.out HW0.out HR6.out HS6.out HK6.out)
 ·have l1 : decide (30 < d1) = true := decide_eq_true (by omega)
  obtain rfl : R = .error (2, (nxt T b.e p).f1) := by rw [HRR.out, if_neg hdd]
  clear HRR
  have hf := fail_calls w0 w2 g T b p d1 2 HS2.out
  have HF := Aside0.mk hf
  clear hdd hf hd1
  go_wp2_with fail
  refine HF.out.mono ?_
  rintro e w3 ⟨rfl, hb⟩
  dsimp only
  exact ⟨rfl, rfl, hb⟩) : p_ := h_
end Go.Proofs
namespace Go.Proofs.YtngedmioeodmfaaDoor.QT
open Go
section
variable {P : Program} {ops : Array Oper} {md : Region.Mode} {C : World → Prop}
def anyQ (P : Program) (md : Region.Mode) (ops : Array Oper) (C : World → Prop) (n : Nat) (L : Array Bool → Act → Prop) : Nat → Array Bool → Act → Prop
 | 0, listed, a => L listed a
 | f + 1, listed, a => Region.ready md ops listed ≠ [] ∧ ∀ i ∈ Region.ready md ops listed, i < n ∧ qOp P ops C i (anyQ P md ops C n L f (listed.setIfInBounds i true)) a
theorem any_of_head {n g : Nat} {L : Array Bool → Act → Prop} {Q' : Exit → Act → World → Prop} (hL : ∀ listed a w, C w → L listed a → wpAny P md ops Q' g listed a w) :
  ∀ (f : Nat) (listed : Array Bool) (a : Act) (w : World), C w → anyQ P md ops C n L f listed a → wpAny P md ops Q' (f + g) listed a w
 | 0, listed, a, w, hw, h => by rw [Nat.zero_add]; exact hL _ _ _ hw h
 | f + 1, listed, a, w, hw, h => by
  rw [show f + 1 + g = (f + g) + 1 by omega]
  exact ⟨fun h0 => absurd h0 h.1, fun i hi => wpOp_of_qOp hw (fun a' w' hw' h' => any_of_head hL f _ a' w' hw' h') (h.2 i hi).2⟩
theorem first_ {n i : Nat} {oi : Oper} {v : Value} {L : Array Bool → Act → Prop} (hi : ops[i]? = some oi) (hsel : ∀ (j : Nat) (o : Oper) cs b, ops[j]? = some o → o.op ≠ .select cs b)
  (hs : Region.sinkB md ops n = true) (hc : Region.chainB md ops n = true) (hn : n < ops.size) (hin : i < n)
  (hdone : ∀ listed a, L listed a → ∀ j ∈ Region.ready md ops listed, n ≤ j) :
  ∀ (f : Nat) (listed : Array Bool) (a : Act), HeadInv md ops n listed →
   (∀ j oj, ops[j]? = some oj → j ≠ i → listed.getD j true = false → (∀ e ∈ oj.after, Region.binds md e = true → e.on ≠ i) → oi.apart ops oj = true) →
   i ∈ Region.ready md ops listed → YieldsIn P ops C oi v a →
   anyQ P md ops C n L f (listed.setIfInBounds i true) (a.put oi.dst v) → anyQ P md ops C n L (f + 1) listed a := by
 intro f
 induction f with
 | zero =>
  intro listed a inv _ hr hy H
  have hun := (mem_ready.1 hr).1
  refine ⟨fun h => (by rw [h] at hr; cases hr), fun j hj => ?_⟩
  have hjn : j < n := by
   rcases Nat.lt_or_ge j n with h | h
   ·exact h
   ·exact absurd hj (tail_waits hs hc hn inv _ i rfl hin hun j h)
  refine ⟨hjn, ?_⟩
  by_cases hji : j = i
  ·subst hji; exact hy.qOp hi H
  ·have := hdone _ _ H j (ready_mono hj hji)
   omega
 | succ f ih =>
  intro listed a inv hfree hr hy H
  have hun := (mem_ready.1 hr).1
  refine ⟨fun h => (by rw [h] at hr; cases hr), fun j hj => ?_⟩
  have hjn : j < n := by
   rcases Nat.lt_or_ge j n with h | h
   ·exact h
   ·exact absurd hj (tail_waits hs hc hn inv _ i rfl hin hun j h)
  refine ⟨hjn, ?_⟩
  by_cases hji : j = i
  ·subst hji; exact hy.qOp hi H
  ·have h1 := (H.2 j (ready_mono hj hji)).2
   obtain ⟨hjun, oj, hoj, hall⟩ := mem_ready.1 hj
   have hnot : ∀ e ∈ oj.after, Region.binds md e = true → e.on ≠ i := fun e he hb heq => by
    have h1 := hall e he hb
    rw [heq, getD_both hun] at h1
    cases h1
   have h2 := qOp_put hoj (hfree j oj hoj hji hjun hnot) (fun cs b => hsel i oi cs b hi) (fun cs b => hsel j oj cs b hoj) hy h1
   have hfree' : ∀ k ok, ops[k]? = some ok → k ≠ i → (listed.setIfInBounds j true).getD k true = false →
     (∀ e ∈ ok.after, Region.binds md e = true → e.on ≠ i) → oi.apart ops ok = true := fun k ok hk hki hun hno => by
    refine hfree k ok hk hki ?_ hno
    by_cases hjk : j = k
    ·subst hjk; exact hjun
    ·rw [getD_set_ne true hjk] at hun; exact hun
   refine qOp_mono (fun a' h3 => ih (listed.setIfInBounds j true) a' (inv.set hj hjn) hfree' (ready_mono hr (Ne.symm hji)) h3.1 ?_) h2
   rw [Array.setIfInBounds_comm _ _ hji]
   exact h3.2
theorem lex_ {n g : Nat} {Lq : Act → Prop} (hsel : Region.noSelect ops = true) (hs : Region.sinkB md ops n = true) (hc : Region.chainB md ops n = true) (hn : n < ops.size) :
  ∀ (l : List Oper) (k : Nat) (listed : Array Bool) (a : Act), (∀ j, j < l.length → l[j]? = ops[k + j]?) → k + l.length = n → HeadInv md ops n listed →
  Region.lexHead md ops g l.length k listed = true → wpQuiet P ops C Lq l a →
  anyQ P md ops C n (fun listed' a' => Region.seqB md ops g n listed' = true ∧ Lq a') l.length listed a
 | [], k, listed, a, _, hk, _, hB, h => by
  have : k = n := by simpa using hk
  subst this
  exact ⟨by simpa [Region.lexHead] using hB, h⟩
 | o :: l, k, listed, a, hl, hk, inv, hB, h => by
  have h0 : ops[k]? = some o := by simpa using (hl 0 (by simp)).symm
  simp only [List.length_cons, Region.lexHead, Bool.and_eq_true] at hB
  obtain ⟨⟨hr, hf⟩, hB'⟩ := hB
  have hkn : k < n := by simp only [List.length_cons] at hk; omega
  have hr' : k ∈ Region.ready md ops listed := by simpa using hr
  have hst : qOp P ops C k (wpQuiet P ops C Lq l) a := by unfold qOp; simp only [h0]; exact h
  obtain ⟨v, hy, hK⟩ := yieldsIn_of_qOp h0 hst
  exact first_ h0 (Region.noSelect_spec hsel) hs hc hn hkn (fun listed' a' hL => seqB_ready hL.1) l.length listed a inv (Region.free_spec h0 hf) hr' hy
   (lex_ hsel hs hc hn l (k + 1) _ _ (fun j hj => by have := hl (j + 1) (by simp; omega); simpa [Nat.add_assoc, Nat.add_comm 1 j] using this) (by simp only [List.length_cons] at hk; omega) (inv.set hr' hkn) hB' hK)
theorem region {id : Nat} {Q : Exit → Act → World → Prop} {a : Act} {w : World} {l : List Oper} (n : Nat) (hm : P.follows .mixedOrders = true) (hB : Region.lexTailB .any l.toArray n = true)
  (h : wpQuiet P l.toArray (fun w' => ∃ m, w' = w.drewN m) (fun a' => ∀ m, wpList P l.toArray Q (l.drop n) a' (w.drewN m)) (l.take n) a) : (Code.region id l.toArray true).wp P Q a w := by
 simp only [Region.lexTailB, Bool.and_eq_true, decide_eq_true_eq] at hB
 obtain ⟨⟨⟨⟨hsel, hn⟩, hs⟩, hc⟩, hlex⟩ := hB
 have hn' : n < l.length := by simpa using hn
 have htl : (l.take n).length = n := by simp; omega
 have hdl : (l.drop n).length = l.toArray.size - n := by simp
 have inv0 : HeadInv .any l.toArray n (Array.replicate l.toArray.size false) :=
  ⟨by simp, fun j oj _ hl => (by rw [getD_replicate_false] at hl; cases hl), fun t _ ht => getD_in (by simpa using ht) (getD_replicate_false _ _)⟩
 have H := lex_ (md := .any) (g := l.toArray.size - n) hsel hs hc hn (l.take n) 0 _ a (fun j hj => by
  have hj' : j < n := by rw [htl] at hj; exact hj
  simp [hj']) (by simpa using htl) inv0 (by rw [htl]; exact hlex) h
 refine wp_region_any hm ?_
 have := any_of_head (Q' := Q) (g := l.toArray.size - n) (fun listed a' w' hw' hL => by
  obtain ⟨m, rfl⟩ := hw'
  have := wpAny_of_seq (md := .any) (Q' := Q) (l.drop n) n listed a' (w.drewN m) (fun j => by simp [List.getElem?_drop]) (by rw [hdl]; exact hL.1) (hL.2 m)
  rwa [hdl] at this) _ _ _ _ (⟨1, rfl⟩ : ∃ m, ({ w with drawn := w.drawn + 1 } : World) = w.drewN m) H
 rw [htl, show n + (l.toArray.size - n) = l.toArray.size by omega] at this
 exact this
end
end Go.Proofs.YtngedmioeodmfaaDoor.QT
namespace Go.Proofs.YtngedmioeodmfaaDoor.QT
open Go Go.RowKit Go.Proofs.YtngedmioeodmfaaDoorW.PrintWords Go.Proofs.YtngedmioeodmfaaDoorW.PrintLast
theorem quiet0 {P : Program} {f : FuncId} {args : Array Value} {w : World} {n : Nat} {v : Value}
  (h : Calls P f args (w.drewN n) fun e w' => e = .returned v ∧ Drawn0 (w.drewN n) w') : Calls P f args (w.drewN n) fun e w'' => e = .returned v ∧ ∃ m, w'' = w.drewN m :=
 Calls.quiet_of (h.mono fun _ _ ⟨he, ⟨m, hm⟩⟩ => ⟨he, m, hm⟩)
theorem storeRow_ {P : Program} {ops : Array Oper} {Q : Exit → Act → World → Prop} {oi : Oper} {a : Act} {w : World} {K : Act → World → Prop} (hw : Region.wanted oi (yielded ops a.tmps) = true) (hN : oi.dst = none) (ty : TypeId) (x y : Operand) (ho : oi.op = .store ty x y)
  (g : Nat) (cells : Array Value) (hx : a.eval x = .pointer (some ⟨g, 0, none⟩)) (hy : a.eval y = .agg cells)
  (t : TypeId) (old : Array Value) (hg : w.heap[g]? = some (.cells old t (0, 0))) (hi : (P.info? ty).map (·.size) = some cells.size)
  (hold : old.size = cells.size) (h1 : cells.all (·.oneCell') = true) (h : K (a.put none undef) (w.setRow g cells)) : if Region.wanted oi (yielded ops a.tmps) = true then Oper.wp P oi a w K Q else K (a.put none undef) w := by
 rw [if_pos hw]
 exact wp_store_row ty x y ho g cells hx hy t old hg hi hold h1 (by rw [hN]; exact h)
end Go.Proofs.YtngedmioeodmfaaDoor.QT
namespace Go.Proofs.YtngedmioeodmfaaDoor.Ps
open Go.RowKit Go.Proofs.YtngedmioeodmfaaDoor.Pr Go.Proofs.YtngedmioeodmfaaDoorW.PrintWords Go.Proofs.YtngedmioeodmfaaDoorW.PrintLast Go.Proofs.YtngedmioeodmfaaDoorW.PrintMore
structure Pb where
 A : Option Addr
 n : Nat
 c : Nat
 e : Int
 v3 : Value
 v4 : Value
 v5 : Value
 v6 : Value
 v7 : Value
 v8 : Value
 v9 : Value
def pcells (b : Pb) (at_ : Nat) (deep : Int) : Array Value := #[.slice b.A b.n b.c, .int .i64 at_, .int .i64 b.e, b.v3, b.v4, b.v5, b.v6, b.v7, b.v8, b.v9, .int .i64 deep]
structure PS (w0 W : World) (g : Nat) (T : List Tk) (b : Pb) (at_ : Nat) (deep : Int) : Prop where
 blk : W.heap[g]? = some (.cells (pcells b at_ deep) 63 (0, 0))
 bl : Below w0.heap.size w0 W
 gl : w0.heap.size ≤ g
 tC : k40.C w0 b.A b.n T
 tn : b.n = T.length
 tc : b.n ≤ b.c
 tl : T.length ≤ 1000000
 al : at_ ≤ T.length
theorem PS.cell {w0 W : World} {g : Nat} {T : List Tk} {b : Pb} {at_ : Nat} {deep : Int} (h : PS w0 W g T b at_ deep) (j : Nat) : W.cell? ⟨g, j, none⟩ = (pcells b at_ deep)[j]? := blk_cell h.blk j
theorem PS.below {w0 W W2 : World} {g : Nat} {T : List Tk} {b : Pb} {at_ : Nat} {deep : Int} (h : PS w0 W g T b at_ deep) (hb : Below W.heap.size W W2) : PS w0 W2 g T b at_ deep :=
 ⟨blk_below h.blk hb, h.bl.trans (hb.mono h.bl.size), h.gl, h.tC, h.tn, h.tc, h.tl, h.al⟩
theorem size_tok : (Tryd.prog.info? 40).map (·.size) = some 3 := by kernel_rfl
def tkcells (t : Tk) : Array Value := #[.int .i64 t.f0, .int .i64 t.f1, .string t.f2]
theorem ret_row {fn : Func} {p : Tmp} {ty : TypeId} (h : fn.results = #[.cell p ty]) (tmps : Array Value) (w : World) (g : Nat) (t : TypeId) (cs : Array Value) (fr : Nat × Nat) {fs}
  (hp : tmps.getD p undef = .pointer (some ⟨g, 0, none⟩)) (hg : w.heap[g]? = some (.cells cs t fr)) (hu : Tryd.prog.underlying ty = some (.struct fs)) (hi : (Tryd.prog.info? ty).map (·.size) = some cs.size) :
  (results fn tmps).run Tryd.prog w = .ok (.agg cs) w := by
 have hp' : tmps[p]?.getD undef = .pointer (some ⟨g, 0, none⟩) := by simpa using hp
 simp [results, h, hp', asAddr, run_loadVar_row w g t ty cs fr _ hg hu rfl hi]
theorem rd_nxt (T : List Tk) (e : Int) (p : Nat) (h : p < T.length) : rd_T40 T (p : Int) = nxt T e p := by
 rw [nxt, dif_pos h, rd_T40, Int.toNat_natCast, List.getD_eq_getElem?_getD, List.getElem?_eq_getElem h, Option.getD_some]
def tokW (W : World) (n1 n2 : Nat) (t : Tk) : World := ((((((W.alloc (.cells #[.int .i64 0, .int .i64 0, .string ⟨#[]⟩] 40)).drewN n1).drewN n2).setCell ⟨W.heap.size, 0, none⟩ (.int .i64 t.f0)).setCell ⟨W.heap.size, 1, none⟩ (.int .i64 t.f1)).setCell ⟨W.heap.size, 2, none⟩ (.string t.f2))
theorem tok3 (W : World) (n1 n2 : Nat) (t : Tk) : (tokW W n1 n2 t).heap[W.heap.size]? = some (.cells (tkcells t) 40 (0, 0)) := by
 have h0 : (((W.alloc (.cells #[.int .i64 0, .int .i64 0, .string ⟨#[]⟩] 40)).drewN n1).drewN n2).heap[W.heap.size]? = some (.cells #[.int .i64 0, .int .i64 0, .string ⟨#[]⟩] 40 (0, 0)) := blk_new W _
 exact blk_set (blk_set (blk_set h0 0 _) 1 _) 2 _
theorem tok3_below (W : World) (n1 n2 : Nat) (t : Tk) : Below W.heap.size W (tokW W n1 n2 t) :=
 (((pw_below_drewN (pw_below_drewN (below_alloc (Below.refl _ _) _) n1) n2).setCell (p := ⟨W.heap.size, 0, none⟩) (Nat.le_refl _) _).setCell (p := ⟨W.heap.size, 1, none⟩) (Nat.le_refl _) _).setCell (p := ⟨W.heap.size, 2, none⟩) (Nat.le_refl _) _
set_option maxHeartbeats 4000000 in
set_option maxRecDepth 100000 in
theorem next_calls (w0 W : World) (g : Nat) (T : List Tk) (b : Pb) (at_ : Nat) (deep : Int) (h : PS w0 W g T b at_ deep) :
  Calls Tryd.prog 47 #[.pointer (some ⟨g, 0, none⟩)] W fun e w' => e = .returned (.agg (tkcells (nxt T b.e at_))) ∧ Below W.heap.size W w' := by
 have H := Aside0.mk h
 have c0 : W.cell? ⟨g, 0, none⟩ = some (.slice b.A b.n b.c) := h.cell 0
 have c1 : W.cell? ⟨g, 1, none⟩ = some (.int .i64 at_) := h.cell 1
 have c2 : W.cell? ⟨g, 2, none⟩ = some (.int .i64 b.e) := h.cell 2
 have hg : g < W.heap.size := blk_lt h.blk
 clear h
 obtain ⟨A, n, c, e, v3, v4, v5, v6, v7, v8, v9⟩ := b
 dsimp only at c0 c2 ⊢
 obtain ⟨gr, hgr⟩ : ∃ gr, gr = W.heap.size := ⟨_, rfl⟩
 have hN : n = T.length := H.out.tn
 have HN := Aside0.mk hN
 by_cases hlt : at_ < n
 ·have l1 : decide (n ≤ at_) = false := decide_eq_false (by omega)
  have l2 : ¬ (n : Int) ≤ (at_ : Int) := by omega
  obtain ⟨ad, hA1, q0, q1, q2⟩ := at_T40 H.out.tC (at_ : Int) (by omega) (by show (at_ : Int) < (n : Int); omega)
  have hA2 : A = some ad := hA1
  subst hA2
  rw [rd_nxt T e at_ (by rw [← hN]; exact hlt)] at q0 q1 q2
  obtain ⟨t, ht⟩ : ∃ t, t = nxt T e at_ := ⟨_, rfl⟩
  rw [← ht] at q0 q1 q2 ⊢
  simp only [Int.toNat_natCast] at q0 q1 q2
  replace q0 := (H.out.bl.cell (World.block_lt_of_cell? w0 _ q0)).trans q0
  replace q1 := (H.out.bl.cell (World.block_lt_of_cell? w0 _ q1)).trans q1
  replace q2 := (H.out.bl.cell (World.block_lt_of_cell? w0 _ q2)).trans q2
  have hbl := World.block_lt_of_cell? W _ q0
  have HT := Aside0.mk ht
  have HLT := Aside0.mk hlt
  clear ht hlt hN
  go_enter Tryd.func47, Tryd.ntmps47
  go_upto_region 1 with (fail)
  go_quiet (fail)
  go_upto_region 3 with (fail)
  refine QT.region 10 (by kernel_rfl) (by kernel_rfl) ?_
  simp only [List.take_succ_cons, List.take_zero, List.drop_succ_cons, List.drop_zero]
  repeat (go_big_quiet_step ((fail)))
  refine wpQuiet_nil ?_
  intro nq2
  go_wp2
  exact bodyPost_ret (ret_row rfl _ _ W.heap.size 40 (tkcells t) (0, 0) rfl (tok3 W _ 0 t) Tryd.underlying40 size_tok) rfl ⟨rfl, tok3_below W _ 0 t⟩
 ·have l1 : decide (n ≤ at_) = true := decide_eq_true (by omega)
  have l2 : (n : Int) ≤ (at_ : Int) := by omega
  have hnx : nxt T e at_ = ⟨0, e, ⟨#[]⟩⟩ := by rw [nxt, dif_neg (by omega)]
  rw [hnx]
  clear hnx hlt hN
  go_enter Tryd.func47, Tryd.ntmps47
  go_upto_region 1 with (fail)
  go_quiet (fail)
  go_wp2
  exact bodyPost_ret (ret_row rfl _ _ W.heap.size 40 (tkcells ⟨0, e, ⟨#[]⟩⟩) (0, 0) rfl (tok3 W _ 0 ⟨0, e, ⟨#[]⟩⟩) Tryd.underlying40 size_tok) rfl ⟨rfl, tok3_below W _ 0 ⟨0, e, ⟨#[]⟩⟩⟩
theorem index_l (s : ByteArray) (ws : List ByteArray) (hl : ws.length ≤ 1000000) : ∀ (m i k : Nat), i + m = ws.length → m < k → ∃ r, slices_Index_string_string.l0 k ws s ws.length i = some r ∧ decide (r ≥ 0) = memB s (ws.drop i)
 | 0, i, k + 1, h, _ => by
  rw [slices_Index_string_string.l0, if_neg (by omega), List.drop_eq_nil_of_le (by omega)]
  exact ⟨-1, rfl, by simp [memB]⟩
 | m + 1, i, k + 1, h, hk => by
  have hi : i < ws.length := by omega
  have e1 : rdOf ByteArray.empty ws (i : Int) = ws[i] := by simp [rdOf, hi]
  have e2 : wrap64 ((i : Int) + 1) = ((i + 1 : Nat) : Int) := by unfold wrap64; omega
  rw [slices_Index_string_string.l0, if_pos (by omega), if_pos (by omega), if_pos (by omega), e1, e2, List.drop_eq_getElem_cons hi]
  by_cases hs : s.toList = ws[i].toList
  ·have hs2 : s = ws[i] := bytes_toList.1 hs
   rw [if_pos hs]
   refine ⟨_, rfl, ?_⟩
   rw [decide_eq_true (show (i : Int) ≥ 0 by omega), memB_cons, decide_eq_true hs2, Bool.true_or]
  ·have hs2 : s ≠ ws[i] := fun he => hs (by rw [he])
   rw [if_neg hs]
   obtain ⟨r, h1, h2⟩ := index_l s ws hl m (i + 1) k (by omega) (by omega)
   refine ⟨r, h1, ?_⟩
   rw [h2, memB_cons, decide_eq_false hs2, Bool.false_or]
theorem any_f (s : ByteArray) (ws : List ByteArray) (hl : ws.length ≤ 1000000) : ascii_Any.f (ws.length + 1) s ws = some (memB s ws) := by
 obtain ⟨r, h1, h2⟩ := index_l s ws hl ws.length 0 (ws.length + 1) (by omega) (by omega)
 rw [List.drop_zero] at h2
 rw [ascii_Any.f, slices_Contains_string_string.f, slices_Index_string_string.f]
 have h1' : slices_Index_string_string.l0 (ws.length + 1) ws s ws.length 0 = some r := h1
 rw [h1', Option.bind_some, Option.bind_some, h2]
set_option maxHeartbeats 4000000 in
set_option maxRecDepth 100000 in
theorem is_calls (w0 W : World) (g : Nat) (T : List Tk) (b : Pb) (at_ : Nat) (deep : Int) (h : PS w0 W g T b at_ deep) (A1 : Option Addr) (n1 c1 : Nat) (ws : List ByteArray) (hC : Kd.string.C W A1 ws.length ws) (hn : n1 = ws.length) (hc : n1 ≤ c1) (hl : ws.length ≤ 1000000) :
  Calls Tryd.prog 45 #[.pointer (some ⟨g, 0, none⟩), .slice A1 n1 c1] W fun e w' => e = .returned (.bool (isP T b.e ws at_)) ∧ Below W.heap.size W w' := by
 have H := Aside0.mk h
 have HC := Aside0.mk hC
 have HN := Aside0.mk hn
 have HL := Aside0.mk hl
 clear h hC hn hl
 have HI : Aside0 (isP T b.e ws at_ = (decide ((nxt T b.e at_).f0 = 1) && memB (nxt T b.e at_).f2 ws)) := ⟨rfl⟩
 obtain ⟨r, hr⟩ : ∃ r, r = isP T b.e ws at_ := ⟨_, rfl⟩
 have hn := next_calls w0 W g T b at_ deep H.out
 rw [← hr] at HI ⊢
 obtain ⟨t, ht⟩ : ∃ t, t = nxt T b.e at_ := ⟨_, rfl⟩
 rw [← ht] at hn HI
 clear hr ht
 have HNX := Aside0.mk hn
 clear hn
 go_enter Tryd.func45, Tryd.ntmps45
 go_wp2_with fail
 refine HNX.out.mono ?_
 rintro e w1 ⟨rfl, hb⟩
 dsimp only [tkcells]
 have HB1 := Aside0.mk hb
 have HC1 := Aside0.mk (Kd.C_below HC.out hb)
 clear hb
 obtain ⟨k0, p0, s0⟩ := t
 dsimp only at HI ⊢
 by_cases hk : k0 = 1
 ·have l1 : (k0 == (1 : Int)) = true := by simp [hk]
  obtain rfl : r = memB s0 ws := by rw [HI.out]; simp [hk]
  clear hk HI
  go_upto_region 2 with (fail)
  obtain ⟨w2, hw2⟩ : ∃ w2, w2 = w1.alloc (.cells #[.int .i64 k0, .int .i64 p0, .string s0] 40) := ⟨_, rfl⟩
  rw [← hw2]
  have HB2 : Aside0 (Below W.heap.size W w2) := ⟨by rw [hw2]; exact below_alloc HB1.out _⟩
  have HC2 := Aside0.mk (show Kd.string.C w2 A1 ws.length ws by rw [hw2]; exact Kd.C_alloc HC1.out _)
  obtain ⟨gt, hgt⟩ : ∃ gt, gt = w1.heap.size := ⟨_, rfl⟩
  rw [← hgt]
  have hbk : w2.heap[gt]? = some (.cells #[.int .i64 k0, .int .i64 p0, .string s0] 40 (0, 0)) := by rw [hw2, hgt]; exact blk_new _ _
  have t0 : w2.cell? ⟨gt, 0, none⟩ = some (.int .i64 k0) := blk_cell hbk 0
  have t2 : w2.cell? ⟨gt, 2, none⟩ = some (.string s0) := blk_cell hbk 2
  clear hw2 hgt hbk
  go_wp2_with fail
  have qa := ascii_Any.calls _ s0 A1 c1 ws _ w2 HC2.out (by rw [← HN.out]; exact hc) (any_f s0 ws HL.out)
  rw [← HN.out] at qa
  refine qa.mono ?_
  rintro e w3 ⟨rfl, md, hw3⟩
  have HB3 : Aside0 (Below W.heap.size W w3) := ⟨by rw [hw3]; exact pw_below_drewN HB2.out md⟩
  clear hw3 qa
  go_wp2
  go_ret
  exact ⟨rfl, HB3.out⟩
 ·have l1 : (k0 == (1 : Int)) = false := by simp [hk]
  obtain rfl : r = false := by rw [HI.out]; simp [hk]
  clear hk HI
  go_upto_region 2 with (fail)
  obtain ⟨w2, hw2⟩ : ∃ w2, w2 = w1.alloc (.cells #[.int .i64 k0, .int .i64 p0, .string s0] 40) := ⟨_, rfl⟩
  rw [← hw2]
  have HB2 : Aside0 (Below W.heap.size W w2) := ⟨by rw [hw2]; exact below_alloc HB1.out _⟩
  obtain ⟨gt, hgt⟩ : ∃ gt, gt = w1.heap.size := ⟨_, rfl⟩
  rw [← hgt]
  have hbk : w2.heap[gt]? = some (.cells #[.int .i64 k0, .int .i64 p0, .string s0] 40 (0, 0)) := by rw [hw2, hgt]; exact blk_new _ _
  have t0 : w2.cell? ⟨gt, 0, none⟩ = some (.int .i64 k0) := blk_cell hbk 0
  clear hw2 hgt hbk
  go_wp2
  go_ret
  exact ⟨rfl, HB2.out⟩
def ent (f : Int × Int) : List PanicEntry := [{ v := .iface 30 (.agg #[.int .i64 f.1, .int .i64 f.2]), recovered := false }]
def Failed (w0 : World) (f : Int × Int) (e : Ending) (w' : World) : Prop := e = .panicked (ent f) ∧ Below w0.heap.size w0 w'
def ResQ {α : Type} (w0 W : World) (g : Nat) (T : List Tk) (b : Pb) (deep : Int) (V : World → α → Value → Prop) (r : Res α) (e : Ending) (w' : World) : Prop :=
 match r with
 | .ok (x, p) => ∃ v, e = .returned v ∧ V w' x v ∧ PS w0 w' g T b p deep ∧ Kept W w' (fun k => k = g)
 | .error f => Failed w0 f e w'
abbrev StrV : World → ByteArray → Value → Prop := fun _ s v => v = .string s
set_option maxHeartbeats 4000000 in
set_option maxRecDepth 100000 in
theorem fail_calls (w0 W : World) (g : Nat) (T : List Tk) (b : Pb) (p : Nat) (deep : Int) (code : Int) (h : PS w0 W g T b p deep) :
  Calls Tryd.prog 46 #[.pointer (some ⟨g, 0, none⟩), .int .i64 code] W (Failed w0 (code, (nxt T b.e p).f1)) := by
 have H := Aside0.mk h
 have hn := next_calls w0 W g T b p deep h
 obtain ⟨t, ht⟩ : ∃ t, t = nxt T b.e p := ⟨_, rfl⟩
 rw [← ht] at hn ⊢
 have HNX := Aside0.mk hn
 have HBL := Aside0.mk h.bl
 clear hn ht h
 go_enter Tryd.func46, Tryd.ntmps46
 go_wp2_with fail
 refine HNX.out.mono ?_
 rintro e w1 ⟨rfl, hb⟩
 dsimp only [tkcells]
 have HB1 := Aside0.mk (HBL.out.trans (hb.mono HBL.out.size))
 clear hb
 go_wp2
 rename_i K1 hK1
 refine hK1 _ _ ?_
 simp only [List.getElem_toArray, List.getElem_cons_succ, List.getElem_cons_zero]
 go_wp2
 exact ⟨rfl, rfl, HB1.out⟩
set_option maxHeartbeats 4000000 in
set_option maxRecDepth 100000 in
theorem take_calls (w0 W : World) (g : Nat) (T : List Tk) (b : Pb) (p : Nat) (deep : Int) (kind : Int) (h : PS w0 W g T b p deep) (hk : kind ≠ 0) :
  Calls Tryd.prog 22 #[.pointer (some ⟨g, 0, none⟩), .int .i64 kind] W (ResQ w0 W g T b deep StrV (takeP T b.e kind p)) := by
 have H := Aside0.mk h
 have hn := next_calls w0 W g T b p deep h
 have HF := Aside0.mk (fun W2 (h2 : PS w0 W2 g T b p deep) => fail_calls w0 W2 g T b p deep 8 h2)
 have HP : Aside0 ((nxt T b.e p).f0 ≠ 0 → p < T.length) := ⟨fun h => by
  apply Classical.byContradiction; intro hp; exact h (by rw [nxt, dif_neg hp])⟩
 have HR : Aside0 (takeP T b.e kind p = if (nxt T b.e p).f0 = kind then .ok ((nxt T b.e p).f2, p + 1) else .error (8, (nxt T b.e p).f1)) := ⟨rfl⟩
 obtain ⟨r, hr⟩ : ∃ r, r = takeP T b.e kind p := ⟨_, rfl⟩
 rw [← hr] at HR ⊢
 obtain ⟨t, ht⟩ : ∃ t, t = nxt T b.e p := ⟨_, rfl⟩
 rw [← ht] at hn HR HF HP
 have HNX := Aside0.mk hn
 have HKN := Aside0.mk hk
 clear hn ht h hr hk
 go_enter Tryd.func22, Tryd.ntmps22
 go_wp2_with fail
 refine HNX.out.mono ?_
 rintro e w1 ⟨rfl, hb⟩
 obtain ⟨k0, p0, s0⟩ := t
 dsimp only [tkcells] at HR HP ⊢
 have HS1 := Aside0.mk (H.out.below hb)
 have HB1 := Aside0.mk hb
 clear hb
 go_upto_region 2 with (fail)
 obtain ⟨w2, hw2⟩ : ∃ w2, w2 = w1.alloc (.cells #[.int .i64 k0, .int .i64 p0, .string s0] 40) := ⟨_, rfl⟩
 rw [← hw2]
 have HS2 : Aside0 (PS w0 w2 g T b p deep) := ⟨by rw [hw2]; exact HS1.out.below (below_alloc (Below.refl _ _) _)⟩
 have HB2 : Aside0 (Below W.heap.size W w2) := ⟨by rw [hw2]; exact below_alloc HB1.out _⟩
 obtain ⟨gt, hgt⟩ : ∃ gt, gt = w1.heap.size := ⟨_, rfl⟩
 rw [← hgt]
 have hbk : w2.heap[gt]? = some (.cells #[.int .i64 k0, .int .i64 p0, .string s0] 40 (0, 0)) := by rw [hw2, hgt]; exact blk_new _ _
 have HGT : Aside0 (gt ≠ g) := ⟨by rw [hgt]; have := blk_lt HS1.out.blk; omega⟩
 have HBK := Aside0.mk hbk
 have t0 : w2.cell? ⟨gt, 0, none⟩ = some (.int .i64 k0) := blk_cell hbk 0
 clear hw2 hgt hbk
 by_cases hk : k0 = kind
 ·have l1 : (k0 != kind) = false := by simp [hk]
  obtain rfl : r = .ok (s0, p + 1) := by rw [HR.out, if_pos hk]
  have hp : p < T.length := HP.out (by rw [hk]; exact HKN.out)
  have HPL := Aside0.mk hp
  have hpl : (p : Int) ≤ 1000000 := by have := H.out.tl; omega
  have c1 : w2.cell? ⟨g, 1, none⟩ = some (.int .i64 p) := HS2.out.cell 1
  have f1 := blk_frozen HS2.out.blk 1
  have t2 : (w2.setCell ⟨g, 1, none⟩ (.int .i64 ((p : Int) + 1))).cell? ⟨gt, 2, none⟩ = some (.string s0) := blk_cell (blk_far HBK.out (p := ⟨g, 1, none⟩) HGT.out _) 2
  clear hk HR hp
  go_wp2
  go_ret
  refine ⟨_, rfl, rfl, ?_, ?_⟩
  ·exact ⟨blk_set HS2.out.blk 1 _, HS2.out.bl.setCell (p := ⟨g, 1, none⟩) HS2.out.gl _, HS2.out.gl, HS2.out.tC, HS2.out.tn, HS2.out.tc, HS2.out.tl, HPL.out⟩
  ·exact Kept.setCell (S := fun k => k = g) (p := ⟨g, 1, none⟩) (Kept.of_below HB2.out _) (.inl rfl) _
 ·have l1 : (k0 != kind) = true := by simp [hk]
  obtain rfl : r = .error (8, p0) := by rw [HR.out, if_neg hk]
  clear hk HR
  go_wp2_with fail
  refine (HF.out w2 HS2.out).mono ?_
  rintro e w3 ⟨rfl, hb⟩
  dsimp only
  exact ⟨rfl, rfl, hb⟩
set_option maxHeartbeats 4000000 in
set_option maxRecDepth 100000 in
theorem word_calls (w0 W : World) (g : Nat) (T : List Tk) (b : Pb) (p : Nat) (deep : Int) (h : PS w0 W g T b p deep) (A1 : Option Addr) (n1 c1 : Nat) (ws : List ByteArray) (hC : Kd.string.C W A1 ws.length ws) (hn : n1 = ws.length) (hc : n1 ≤ c1) (hl : ws.length ≤ 1000000) :
  Calls Tryd.prog 49 #[.pointer (some ⟨g, 0, none⟩), .slice A1 n1 c1] W (ResQ w0 W g T b deep StrV (wordP T b.e ws p)) := by
 have H := Aside0.mk h
 have HI := Aside0.mk (is_calls w0 W g T b p deep h A1 n1 c1 ws hC hn hc hl)
 have HF := Aside0.mk (fun W2 (h2 : PS w0 W2 g T b p deep) => fail_calls w0 W2 g T b p deep 8 h2)
 have HT := Aside0.mk (fun W2 (h2 : PS w0 W2 g T b p deep) => take_calls w0 W2 g T b p deep 1 h2 (by decide))
 have HR : Aside0 (wordP T b.e ws p = if isP T b.e ws p then takeP T b.e 1 p else .error (8, (nxt T b.e p).f1)) := ⟨rfl⟩
 obtain ⟨r, hr⟩ : ∃ r, r = wordP T b.e ws p := ⟨_, rfl⟩
 rw [← hr] at HR ⊢
 obtain ⟨i, hi⟩ : ∃ i, i = isP T b.e ws p := ⟨_, rfl⟩
 rw [← hi] at HI HR
 clear h hr hi hC hn hl
 go_enter Tryd.func49, Tryd.ntmps49
 go_wp2_with fail
 refine HI.out.mono ?_
 rintro e w1 ⟨rfl, hb⟩
 dsimp only
 have HS1 := Aside0.mk (H.out.below hb)
 have HB1 := Aside0.mk hb
 clear hb
 cases i
 ·obtain rfl : r = .error (8, (nxt T b.e p).f1) := by rw [HR.out]; rfl
  clear HR
  go_wp2_with fail
  refine (HF.out w1 HS1.out).mono ?_
  rintro e w2 ⟨rfl, hb⟩
  dsimp only
  exact ⟨rfl, rfl, hb⟩
 ·have hr : takeP T b.e 1 p = r := by rw [HR.out]; rfl
  rw [hr] at HT
  clear HR hr
  go_wp2_with fail
  refine (HT.out w1 HS1.out).mono ?_
  cases r with
  | error f =>
   rintro e w2 ⟨rfl, hb⟩
   dsimp only
   exact ⟨rfl, rfl, hb⟩
  | ok x =>
   obtain ⟨s, q⟩ := x
   rintro e w2 ⟨v, rfl, rfl, hs, hk⟩
   dsimp only
   have HS2 := Aside0.mk hs
   have HK2 := Aside0.mk ((Kept.of_below HB1.out (fun k => k = g)).then_ hk (fun k hk => .inl hk))
   clear hs hk
   go_wp2
   go_ret
   exact ⟨_, rfl, rfl, HS2.out, HK2.out⟩
theorem lit_strs (W : World) (ws : List ByteArray) (hm : ws.length ≤ 1000000) : Kd.string.C (W.alloc (.cells (encs Value.string ws).toArray 9)) (some ⟨W.heap.size, 0, none⟩) ws.length ws := by
 have h := own_lit_of (enc := Value.string) W 0 9 ws (Nat.zero_le _) (by omega)
 have h2 : Kd.string.R 9 (W.alloc (.cells (encs Value.string ws).toArray 9)) 0 (fun _ => True) (.slice (some ⟨W.heap.size, 0, none⟩) ws.length ws.length) ws := Kd.R_of_own h (fun _ _ => trivial)
 exact (Kd.R_reads' h2).2.2
def cdcells (c : Cd) (v3 : Value) : Array Value := #[.int .i64 c.f0, .string c.f1.f0, .string c.f1.f1, v3]
def CondV (w0 W : World) : World → Cd → Value → Prop := fun w' c v => ∃ v3, v = .agg (cdcells c v3) ∧ k49.R 49 w' w0.heap.size (fun k => W.heap.size ≤ k) v3 c.f2
def OneC (w0 W0 : World) (g : Nat) (T : List Tk) (b : Pb) (deep : Int) (F : FuncId) (args : Array Value) (one : Nat → Res Cd) : Prop :=
 ∀ p W, Kept W0 W (fun k => k = g) → PS w0 W g T b p deep → Calls Tryd.prog F args W (ResQ w0 W g T b deep (CondV w0 W) (one p))
theorem OneC.later {w0 W0 W1 : World} {g : Nat} {T : List Tk} {b : Pb} {deep : Int} {F : FuncId} {args : Array Value} {one : Nat → Res Cd} (h : OneC w0 W0 g T b deep F args one) (hk : Kept W0 W1 (fun k => k = g)) : OneC w0 W1 g T b deep F args one :=
 fun p W hk2 hs => h p W (hk.then_ hk2 (fun k hk => .inl hk)) hs
theorem row_one (W : World) (base : Nat) (c : Cd) (v3 : Value) (ok okp : Nat → Prop) (hM : k49.R 49 W base okp v3 c.f2) (hok : ∀ k, okp k → ok k) (hfresh : ok W.heap.size) (hbase : base ≤ W.heap.size) :
  k49.R 49 (W.alloc (.cells (cdcells c v3) 49)) base ok (.slice (some ⟨W.heap.size, 0, none⟩) 1 1) [c] := by
 have hm := k49_mkM W base okp c hM
 have hrep : Reps (k49.M W base okp) 4 [c] [.int .i64 c.f0, .string c.f1.f0, .string c.f1.f1, v3] := Reps.front hm rfl (Reps.none _ _) rfl
 refine ⟨fun k hk => ?_, [.int .i64 c.f0, .string c.f1.f0, .string c.f1.f1, v3], ?_, ?_⟩
 ·have : W.heap.size = k := by simpa [Value.ownBlock] using hk
  subst this
  exact hfresh
 ·exact World.ownsRow_lit (base := base) (e := 49) (size := 4) W (cdcells c v3) 1 hbase (by decide) rfl
 ·refine hrep.imp_ (fun p c hp => k49.M_mono (fun k hk => ⟨hok k hk.1, fun he => ?_⟩) (Kd.M_below (k49.M_bound hp) (below_alloc (Below.refl _ _) _)))
  have h3 : k = W.heap.size := by simpa [Value.ownBlock] using he
  have := hk.2.2.1
  omega
def kidsK (T : List Tk) (e : Int) (one : Nat → Res Cd) (w : ByteArray) (f : Nat) (acc : List Cd) : Res Cd → Res (List Cd)
 | .error x => .error x
 | .ok (c, q) => kidsL T e one w f (acc ++ [c]) q
theorem kidsL_succ (T : List Tk) (e : Int) (one : Nat → Res Cd) (w : ByteArray) (f : Nat) (acc : List Cd) (p : Nat) : kidsL T e one w (f + 1) acc p = if isP T e [w] p then kidsK T e one w f acc (one (p + 1)) else .ok (acc, p) := by
 rw [kidsL]
 split
 ·cases one (p + 1) with
  | error x => rfl
  | ok x => rfl
 ·rfl
theorem kidsL_bound {T : List Tk} {e : Int} {one : Nat → Res Cd} {w : ByteArray} (hmono : ∀ p c q, one p = .ok (c, q) → p ≤ q) : ∀ (f : Nat) (acc : List Cd) (p : Nat) (l : List Cd) (q : Nat), kidsL T e one w f acc p = .ok (l, q) → p ≤ q
 | 0, acc, p, l, q, h => by cases h; exact Nat.le_refl _
 | f + 1, acc, p, l, q, h => by
  rw [kidsL] at h
  split at h
  ·split at h
   ·cases h
   ·rename_i c q' h1
    have := kidsL_bound hmono f _ _ _ _ h
    have := hmono _ _ _ h1
    omega
  ·cases h; exact Nat.le_refl _
theorem kidsP_mono {T : List Tk} {e : Int} {one : Nat → Res Cd} {w : ByteArray} {kind : Int} (hmono : ∀ p c q, one p = .ok (c, q) → p ≤ q) : ∀ p c q, kidsP T e kind w one p = .ok (c, q) → p ≤ q := fun p c q h => by
 rw [kidsP] at h
 split at h
 ·cases h
 ·rename_i c1 q1 h1
  have := hmono _ _ _ h1
  split at h
  ·cases h
  ·rename_i l r h2
   have := kidsL_bound hmono _ _ _ _ _ h2
   split at h <;> (cases h; omega)
theorem isP_lt {T : List Tk} {e : Int} {ws : List ByteArray} {p : Nat} (h : isP T e ws p = true) : p < T.length := by
 apply Classical.byContradiction
 intro hp
 simp [isP, nxt, hp] at h
theorem info_cd : (Tryd.prog.info? 49).map (fun i => (i.zero, i.size, i.bytes)) = some (some (.agg #[.int .i64 0, .string ⟨#[]⟩, .string ⟨#[]⟩, .slice none 0 0]), 4, 64) := by kernel_rfl
theorem size_cd : (Tryd.prog.info? 49).map (·.size) = some 4 := by kernel_rfl
theorem row_one_open {w : World} {base : Nat} {ok : Nat → Prop} {v : Value} {c : Cd} (h : k49.R 49 w base ok v [c]) : ∃ gl cap v3, v = .slice (some ⟨gl, 0, none⟩) 1 cap ∧ 1 ≤ cap ∧ w.cell? ⟨gl, 0, none⟩ = some (.int .i64 c.f0) ∧ w.cell? ⟨gl, 1, none⟩ = some (.string c.f1.f0) ∧ w.cell? ⟨gl, 2, none⟩ = some (.string c.f1.f1) ∧ w.cell? ⟨gl, 3, none⟩ = some v3 ∧ k49.R 49 w base ok v3 c.f2 := by
 obtain ⟨gl, cap, rfl, _, _, _⟩ := Kd.R_form h (by simp)
 obtain ⟨A', c', he, hcc, _⟩ := Kd.R_reads h
 cases he
 obtain ⟨h0, inner, hown, hr⟩ := h
 have hlen : inner.length = 4 := hr.1
 have hM := hr.2 0 c rfl
 have hin : (inner.drop (0 * 4)).take 4 = inner := by rw [Nat.zero_mul, List.drop_zero, List.take_of_length_le (by omega)]
 have hM' : k49.M w base (fun k => ok k ∧ some k ≠ (Value.slice (some ⟨gl, 0, none⟩) 1 cap).ownBlock) c inner := by
  have h2 : k49.M w base (fun k => ok k ∧ some k ≠ (Value.slice (some ⟨gl, 0, none⟩) 1 cap).ownBlock) c ((inner.drop (0 * 4)).take 4) := hM
  rwa [hin] at h2
 obtain ⟨v3, e3, hR⟩ := k49_openM hM'
 subst e3
 exact ⟨gl, cap, v3, rfl, hcc, by simpa [add_plain] using hown.cells (g := gl) rfl 0 _ rfl, by simpa [add_plain] using hown.cells (g := gl) rfl 1 _ rfl, by simpa [add_plain] using hown.cells (g := gl) rfl 2 _ rfl, by simpa [add_plain] using hown.cells (g := gl) rfl 3 _ rfl, Kd.R_mono hR (fun k hk => hk.1)⟩
theorem kept_setRow (W : World) (g : Nat) (cs : Array Value) : Kept W (W.setRow g cs) (fun k => k = g) := ⟨by simp, fun i _ hn => setRow_other W g i cs hn⟩
theorem cd_one (c : Cd) (v3 : Value) (h : v3.oneCell' = true) : (cdcells c v3).all (·.oneCell') = true := by
 simp only [cdcells, List.all_toArray, List.all_cons, h, List.all_nil, Bool.and_true]; rfl
theorem R_cell1 {α : Type} {d : Kd α} {e base : Nat} {ok : Nat → Prop} {w : World} {v : Value} {xs : List α} (h : d.R e w base ok v xs) : v.oneCell' = true := by
 obtain ⟨A, c, rfl⟩ := Kd.R_slice h; rfl
theorem PS.row {w0 W : World} {g : Nat} {T : List Tk} {b : Pb} {p : Nat} {deep : Int} (h : PS w0 W g T b p deep) {gr : Nat} (hg : gr ≠ g) (h0 : w0.heap.size ≤ gr) (cs : Array Value) : PS w0 (W.setRow gr cs) g T b p deep :=
 ⟨(setRow_other W gr g cs (fun he => hg he.symm)).trans h.blk, below_setRow h.bl h0 _, h.gl, h.tC, h.tn, h.tc, h.tl, h.al⟩
theorem PS.step {w0 W : World} {g : Nat} {T : List Tk} {b : Pb} {p : Nat} {deep : Int} (h : PS w0 W g T b p deep) (q : Nat) (hq : q ≤ T.length) : PS w0 (W.setCell ⟨g, 1, none⟩ (.int .i64 q)) g T b q deep :=
 ⟨blk_set h.blk 1 _, h.bl.setCell (p := ⟨g, 1, none⟩) h.gl _, h.gl, h.tC, h.tn, h.tc, h.tl, hq⟩
set_option maxHeartbeats 8000000 in
set_option maxRecDepth 100000 in
theorem kids_not (w0 W : World) (g : Nat) (T : List Tk) (b : Pb) (p : Nat) (deep : Int) (h : PS w0 W g T b p deep) (one : Nat → Res Cd) (hone : OneC w0 W g T b deep 83 #[.pointer (some ⟨g, 0, none⟩)] one) (hmono : ∀ p c q, one p = .ok (c, q) → p ≤ q) (kind : Int) (wd : ByteArray) :
  Calls Tryd.prog 71 #[.pointer (some ⟨g, 0, none⟩), .int .i64 kind, .string wd, .func (Fn.func 83) #[.pointer (some ⟨g, 0, none⟩)] #[]] W (ResQ w0 W g T b deep (CondV w0 W) (kidsP T b.e kind wd one p)) := by
 have H := Aside0.mk h
 have HONE := Aside0.mk hone
 have HM := Aside0.mk hmono
 obtain ⟨R, hR⟩ : ∃ R, R = kidsP T b.e kind wd one p := ⟨_, rfl⟩
 rw [← hR]
 have HR := Aside0.mk hR
 obtain ⟨r1, hr1⟩ : ∃ r1, r1 = one p := ⟨_, rfl⟩
 have h1 := hone p W (Kept.refl _ _) h
 rw [← hr1] at h1
 have HR1 := Aside0.mk hr1
 clear hR h hone hmono h1 hr1
 obtain ⟨w1, hw1⟩ : ∃ w1, w1 = W.alloc (.cells #[.int .i64 0, .string ⟨#[]⟩, .string ⟨#[]⟩, .slice none 0 0] 49) := ⟨_, rfl⟩
 obtain ⟨gr, hgr⟩ : ∃ gr, gr = W.heap.size := ⟨_, rfl⟩
 have HS1 : Aside0 (PS w0 w1 g T b p deep) := ⟨by rw [hw1]; exact H.out.below (below_alloc (Below.refl _ _) _)⟩
 have HK1 : Aside0 (Kept W w1 (fun k => k = g)) := ⟨by rw [hw1]; exact Kept.alloc (Kept.refl _ _) _⟩
 have HX1 : Aside0 (w1.heap[gr]? = some (.cells #[.int .i64 0, .string ⟨#[]⟩, .string ⟨#[]⟩, .slice none 0 0] 49 (0, 0))) := ⟨by rw [hw1, hgr]; exact blk_new _ _⟩
 have HGR2 : Aside0 (w1.heap.size ≤ gr + 1) := ⟨by rw [hw1, hgr]; simp⟩
 have HGR : Aside0 (gr < w1.heap.size) := ⟨blk_lt HX1.out⟩
 have HGG : Aside0 (g < gr) := ⟨by rw [hgr]; exact blk_lt H.out.blk⟩
 have HWG : Aside0 (W.heap.size ≤ gr) := ⟨by omega⟩
 have HK0 := HK1
 have HONE1 := Aside0.mk (HONE.out.later HK1.out)
 have h1 := HONE1.out p w1 (Kept.refl _ _) HS1.out
 rw [← HR1.out] at h1
 have H1 := Aside0.mk h1
 clear h1
 exact sTe5_0
set_option maxHeartbeats 8000000 in
set_option maxRecDepth 100000 in
theorem kids_and (w0 W : World) (g : Nat) (T : List Tk) (b : Pb) (p : Nat) (deep : Int) (h : PS w0 W g T b p deep) (one : Nat → Res Cd) (hone : OneC w0 W g T b deep 72 #[.pointer (some ⟨g, 0, none⟩)] one) (hmono : ∀ p c q, one p = .ok (c, q) → p ≤ q) (kind : Int) (wd : ByteArray) :
  Calls Tryd.prog 71 #[.pointer (some ⟨g, 0, none⟩), .int .i64 kind, .string wd, .func (Fn.func 72) #[.pointer (some ⟨g, 0, none⟩)] #[]] W (ResQ w0 W g T b deep (CondV w0 W) (kidsP T b.e kind wd one p)) := by
 have H := Aside0.mk h
 have HONE := Aside0.mk hone
 have HM := Aside0.mk hmono
 obtain ⟨R, hR⟩ : ∃ R, R = kidsP T b.e kind wd one p := ⟨_, rfl⟩
 rw [← hR]
 have HR := Aside0.mk hR
 obtain ⟨r1, hr1⟩ : ∃ r1, r1 = one p := ⟨_, rfl⟩
 have h1 := hone p W (Kept.refl _ _) h
 rw [← hr1] at h1
 have HR1 := Aside0.mk hr1
 clear hR h hone hmono h1 hr1
 obtain ⟨w1, hw1⟩ : ∃ w1, w1 = W.alloc (.cells #[.int .i64 0, .string ⟨#[]⟩, .string ⟨#[]⟩, .slice none 0 0] 49) := ⟨_, rfl⟩
 obtain ⟨gr, hgr⟩ : ∃ gr, gr = W.heap.size := ⟨_, rfl⟩
 have HS1 : Aside0 (PS w0 w1 g T b p deep) := ⟨by rw [hw1]; exact H.out.below (below_alloc (Below.refl _ _) _)⟩
 have HK1 : Aside0 (Kept W w1 (fun k => k = g)) := ⟨by rw [hw1]; exact Kept.alloc (Kept.refl _ _) _⟩
 have HX1 : Aside0 (w1.heap[gr]? = some (.cells #[.int .i64 0, .string ⟨#[]⟩, .string ⟨#[]⟩, .slice none 0 0] 49 (0, 0))) := ⟨by rw [hw1, hgr]; exact blk_new _ _⟩
 have HGR2 : Aside0 (w1.heap.size ≤ gr + 1) := ⟨by rw [hw1, hgr]; simp⟩
 have HGR : Aside0 (gr < w1.heap.size) := ⟨blk_lt HX1.out⟩
 have HGG : Aside0 (g < gr) := ⟨by rw [hgr]; exact blk_lt H.out.blk⟩
 have HWG : Aside0 (W.heap.size ≤ gr) := ⟨by omega⟩
 have HK0 := HK1
 have HONE1 := Aside0.mk (HONE.out.later HK1.out)
 have h1 := HONE1.out p w1 (Kept.refl _ _) HS1.out
 rw [← HR1.out] at h1
 have H1 := Aside0.mk h1
 clear h1
 exact sTe5_0
theorem hmf (fn : Fn) (first cap : Array Value) (w : World) : (Instr.makeFunc fn first cap).run Tryd.prog w = .ok (.func fn first cap) w := rfl
abbrev zcd : Array Value := #[.int .i64 0, .string ⟨#[]⟩, .string ⟨#[]⟩, .slice none 0 0]
theorem fin_cond {w0 W w2 : World} {g gr q : Nat} {T : List Tk} {b : Pb} {deep : Int} {c : Cd} {v3 : Value} (hg : g < gr) (hW : W.heap.size ≤ gr) (h0 : w0.heap.size ≤ gr) (hR : k49.R 49 w2 w0.heap.size (fun k => gr < k) v3 c.f2) (hs : PS w0 w2 g T b q deep) (hk : Kept W w2 (fun k => k = g)) :
  ResQ w0 W g T b deep (CondV w0 W) (.ok (c, q)) (.returned (.agg (cdcells c v3))) (w2.setRow gr (cdcells c v3)) :=
 ⟨_, rfl, ⟨v3, rfl, Kd.R_mono (Kd.R_kept hR (kept_setRow w2 gr _) (fun k hk => by omega)) (fun k hk => by omega)⟩, hs.row (by omega) h0 _, hk.then_ (kept_setRow w2 gr _) (fun k hk => .inr (by omega))⟩
set_option maxHeartbeats 8000000 in
set_option maxRecDepth 100000 in
theorem and_calls (w0 W : World) (g : Nat) (T : List Tk) (b : Pb) (p : Nat) (deep : Int) (h : PS w0 W g T b p deep) (one : Nat → Res Cd) (hone : OneC w0 W g T b deep 83 #[.pointer (some ⟨g, 0, none⟩)] one) (hmono : ∀ p c q, one p = .ok (c, q) → p ≤ q) :
  Calls Tryd.prog 72 #[.pointer (some ⟨g, 0, none⟩)] W (ResQ w0 W g T b deep (CondV w0 W) (kidsP T b.e 5 wAnd one p)) := by
 have H := Aside0.mk h
 obtain ⟨w1, hw1⟩ : ∃ w1, w1 = W.alloc (.cells zcd 49) := ⟨_, rfl⟩
 obtain ⟨gr, hgr⟩ : ∃ gr, gr = W.heap.size := ⟨_, rfl⟩
 have HS1 : Aside0 (PS w0 w1 g T b p deep) := ⟨by rw [hw1]; exact H.out.below (below_alloc (Below.refl _ _) _)⟩
 have HK1 : Aside0 (Kept W w1 (fun k => k = g)) := ⟨by rw [hw1]; exact Kept.alloc (Kept.refl _ _) _⟩
 have HX1 : Aside0 (w1.heap[gr]? = some (.cells zcd 49 (0, 0))) := ⟨by rw [hw1, hgr]; exact blk_new _ _⟩
 have HGR : Aside0 (gr < w1.heap.size) := ⟨blk_lt HX1.out⟩
 have HGG : Aside0 (g < gr) := ⟨by rw [hgr]; exact blk_lt H.out.blk⟩
 have HWG : Aside0 (W.heap.size ≤ gr) := ⟨by omega⟩
 have HW0 : Aside0 (w0.heap.size ≤ gr) := ⟨by have := H.out.bl.size; omega⟩
 have hk := kids_not w0 w1 g T b p deep HS1.out one (hone.later HK1.out) hmono 5 wAnd
 obtain ⟨r, hr⟩ : ∃ r, r = kidsP T b.e 5 wAnd one p := ⟨_, rfl⟩
 rw [← hr] at hk ⊢
 have HKI := Aside0.mk hk
 have hmf := hmf
 clear h hone hmono hk hr
 go_enter Tryd.func72, Tryd.ntmps72
 go_wp2_with fail
 rw [← hw1, ← hgr]
 clear hw1 hgr hmf
 refine HKI.out.mono ?_
 cases r with
 | error x =>
  rintro e w2 ⟨rfl, hb⟩
  dsimp only
  exact ⟨rfl, rfl, hb⟩
 | ok x =>
  obtain ⟨c, q⟩ := x
  rintro e w2 ⟨v, rfl, ⟨v3, rfl, hr⟩, hs, hk⟩
  dsimp only
  have HX2 := Aside0.mk (blk_kept HX1.out hk (by have := HGG.out; show gr ≠ g; omega))
  have HK2 := Aside0.mk (HK1.out.then_ hk (fun k hk => .inl hk))
  have HR2 := Aside0.mk (Kd.R_mono (ok' := fun k => gr < k) hr (fun k hk2 => by have := HGR.out; omega))
  have HS2 := Aside0.mk hs
  clear hr hs hk
  go_wp2_with (refine wpList_store_row rfl 49 _ _ rfl gr (cdcells c v3) rfl rfl 49 _ HX2.out size_cd rfl (cd_one _ _ (R_cell1 HR2.out)) ?_)
  exact bodyPost_ret (ret_row rfl _ _ gr 49 (cdcells c v3) (0, 0) rfl (setRow_heap _ _ _ _ _ _ HX2.out) Tryd.underlying49 size_cd) rfl (fin_cond HGG.out HWG.out HW0.out HR2.out HS2.out HK2.out)
set_option maxHeartbeats 8000000 in
set_option maxRecDepth 100000 in
theorem or_calls (w0 W : World) (g : Nat) (T : List Tk) (b : Pb) (p : Nat) (deep : Int) (h : PS w0 W g T b p deep) (one : Nat → Res Cd) (hone : OneC w0 W g T b deep 72 #[.pointer (some ⟨g, 0, none⟩)] one) (hmono : ∀ p c q, one p = .ok (c, q) → p ≤ q) :
  Calls Tryd.prog 50 #[.pointer (some ⟨g, 0, none⟩)] W (ResQ w0 W g T b deep (CondV w0 W) (kidsP T b.e 6 wOr one p)) := by
 have H := Aside0.mk h
 obtain ⟨w1, hw1⟩ : ∃ w1, w1 = W.alloc (.cells zcd 49) := ⟨_, rfl⟩
 obtain ⟨gr, hgr⟩ : ∃ gr, gr = W.heap.size := ⟨_, rfl⟩
 have HS1 : Aside0 (PS w0 w1 g T b p deep) := ⟨by rw [hw1]; exact H.out.below (below_alloc (Below.refl _ _) _)⟩
 have HK1 : Aside0 (Kept W w1 (fun k => k = g)) := ⟨by rw [hw1]; exact Kept.alloc (Kept.refl _ _) _⟩
 have HX1 : Aside0 (w1.heap[gr]? = some (.cells zcd 49 (0, 0))) := ⟨by rw [hw1, hgr]; exact blk_new _ _⟩
 have HGR : Aside0 (gr < w1.heap.size) := ⟨blk_lt HX1.out⟩
 have HGG : Aside0 (g < gr) := ⟨by rw [hgr]; exact blk_lt H.out.blk⟩
 have HWG : Aside0 (W.heap.size ≤ gr) := ⟨by omega⟩
 have HW0 : Aside0 (w0.heap.size ≤ gr) := ⟨by have := H.out.bl.size; omega⟩
 have hk := kids_and w0 w1 g T b p deep HS1.out one (hone.later HK1.out) hmono 6 wOr
 obtain ⟨r, hr⟩ : ∃ r, r = kidsP T b.e 6 wOr one p := ⟨_, rfl⟩
 rw [← hr] at hk ⊢
 have HKI := Aside0.mk hk
 have hmf := hmf
 clear h hone hmono hk hr
 go_enter Tryd.func50, Tryd.ntmps50
 go_wp2_with fail
 rw [← hw1, ← hgr]
 clear hw1 hgr hmf
 refine HKI.out.mono ?_
 cases r with
 | error x =>
  rintro e w2 ⟨rfl, hb⟩
  dsimp only
  exact ⟨rfl, rfl, hb⟩
 | ok x =>
  obtain ⟨c, q⟩ := x
  rintro e w2 ⟨v, rfl, ⟨v3, rfl, hr⟩, hs, hk⟩
  dsimp only
  have HX2 := Aside0.mk (blk_kept HX1.out hk (by have := HGG.out; show gr ≠ g; omega))
  have HK2 := Aside0.mk (HK1.out.then_ hk (fun k hk => .inl hk))
  have HR2 := Aside0.mk (Kd.R_mono (ok' := fun k => gr < k) hr (fun k hk2 => by have := HGR.out; omega))
  have HS2 := Aside0.mk hs
  clear hr hs hk
  go_wp2_with (refine wpList_store_row rfl 49 _ _ rfl gr (cdcells c v3) rfl rfl 49 _ HX2.out size_cd rfl (cd_one _ _ (R_cell1 HR2.out)) ?_)
  exact bodyPost_ret (ret_row rfl _ _ gr 49 (cdcells c v3) (0, 0) rfl (setRow_heap _ _ _ _ _ _ HX2.out) Tryd.underlying49 size_cd) rfl (fin_cond HGG.out HWG.out HW0.out HR2.out HS2.out HK2.out)
theorem PS.dip {w0 W : World} {g : Nat} {T : List Tk} {b : Pb} {p : Nat} {deep : Int} (h : PS w0 W g T b p deep) (d : Int) : PS w0 (W.setCell ⟨g, 10, none⟩ (.int .i64 d)) g T b p d :=
 ⟨blk_set h.blk 10 _, h.bl.setCell (p := ⟨g, 10, none⟩) h.gl _, h.gl, h.tC, h.tn, h.tc, h.tl, h.al⟩
set_option maxHeartbeats 8000000 in
set_option maxRecDepth 100000 in
theorem deeper_not (w0 W : World) (g : Nat) (T : List Tk) (b : Pb) (p : Nat) (deep : Int) (h : PS w0 W g T b p deep) (hd0 : 0 ≤ deep) (hd : deep ≤ 30) (hp : p < T.length) (one : Nat → Res Cd) (hone : deep < 30 → OneC w0 W g T b (deep + 1) 83 #[.pointer (some ⟨g, 0, none⟩)] one) :
  Calls Tryd.prog 91 #[.pointer (some ⟨g, 0, none⟩), .func (Fn.func 83) #[.pointer (some ⟨g, 0, none⟩)] #[]] W (ResQ w0 W g T b deep (CondV w0 W) (if deep < 30 then one (p + 1) else .error (2, (nxt T b.e p).f1))) := by
 have H := Aside0.mk h
 obtain ⟨w1, hw1⟩ : ∃ w1, w1 = W.alloc (.cells zcd 49) := ⟨_, rfl⟩
 obtain ⟨gr, hgr⟩ : ∃ gr, gr = W.heap.size := ⟨_, rfl⟩
 have HS1 : Aside0 (PS w0 w1 g T b p deep) := ⟨by rw [hw1]; exact H.out.below (below_alloc (Below.refl _ _) _)⟩
 have HK1 : Aside0 (Kept W w1 (fun k => k = g)) := ⟨by rw [hw1]; exact Kept.alloc (Kept.refl _ _) _⟩
 have HX1 : Aside0 (w1.heap[gr]? = some (.cells zcd 49 (0, 0))) := ⟨by rw [hw1, hgr]; exact blk_new _ _⟩
 have HGR : Aside0 (gr < w1.heap.size) := ⟨blk_lt HX1.out⟩
 have HGG : Aside0 (g < gr) := ⟨by rw [hgr]; exact blk_lt H.out.blk⟩
 have HWG : Aside0 (W.heap.size ≤ gr) := ⟨by omega⟩
 have HW0 : Aside0 (w0.heap.size ≤ gr) := ⟨by have := H.out.bl.size; omega⟩
 have HONE := Aside0.mk hone
 have HP := Aside0.mk hp
 obtain ⟨R, hR⟩ : ∃ R : Res Cd, R = (if deep < 30 then one (p + 1) else .error (2, (nxt T b.e p).f1)) := ⟨_, rfl⟩
 rw [← hR]
 have HRR := Aside0.mk hR
 clear hR
 have hpl : (p : Int) ≤ 1000000 := by have := H.out.tl; omega
 clear h hone hp
 have c10 : w1.cell? ⟨g, 10, none⟩ = some (.int .i64 deep) := HS1.out.cell 10
 have f10 := blk_frozen HS1.out.blk 10
 obtain ⟨w2, hw2⟩ : ∃ w2, w2 = w1.setCell ⟨g, 10, none⟩ (.int .i64 (deep + 1)) := ⟨_, rfl⟩
 have HS2 : Aside0 (PS w0 w2 g T b p (deep + 1)) := ⟨by rw [hw2]; exact HS1.out.dip (deep + 1)⟩
 have HK2 : Aside0 (Kept W w2 (fun k => k = g)) := ⟨by rw [hw2]; exact Kept.setCell (S := fun k => k = g) (p := ⟨g, 10, none⟩) HK1.out (.inl rfl) _⟩
 have HX2 : Aside0 (w2.heap[gr]? = some (.cells zcd 49 (0, 0))) := ⟨by rw [hw2]; exact blk_far HX1.out (p := ⟨g, 10, none⟩) (by have := HGG.out; show gr ≠ g; omega) _⟩
 have HW2 := Aside0.mk hw2
 have HGR2 : Aside0 (gr < w2.heap.size) := ⟨blk_lt HX2.out⟩
 exact sTe5_1
set_option maxHeartbeats 8000000 in
set_option maxRecDepth 100000 in
theorem deeper_close (w0 W : World) (g : Nat) (bx : Nat) (T : List Tk) (b : Pb) (p : Nat) (deep : Int) (h : PS w0 W g T b p deep) (hd0 : 0 ≤ deep) (hd : deep ≤ 30) (hp : p < T.length) (one : Nat → Res Cd) (hone : deep < 30 → OneC w0 W g T b (deep + 1) 92 #[.pointer (some ⟨bx, 0, none⟩)] one) :
  Calls Tryd.prog 91 #[.pointer (some ⟨g, 0, none⟩), .func (Fn.func 92) #[] #[.pointer (some ⟨bx, 0, none⟩)]] W (ResQ w0 W g T b deep (CondV w0 W) (if deep < 30 then one (p + 1) else .error (2, (nxt T b.e p).f1))) := by
 have H := Aside0.mk h
 obtain ⟨w1, hw1⟩ : ∃ w1, w1 = W.alloc (.cells zcd 49) := ⟨_, rfl⟩
 obtain ⟨gr, hgr⟩ : ∃ gr, gr = W.heap.size := ⟨_, rfl⟩
 have HS1 : Aside0 (PS w0 w1 g T b p deep) := ⟨by rw [hw1]; exact H.out.below (below_alloc (Below.refl _ _) _)⟩
 have HK1 : Aside0 (Kept W w1 (fun k => k = g)) := ⟨by rw [hw1]; exact Kept.alloc (Kept.refl _ _) _⟩
 have HX1 : Aside0 (w1.heap[gr]? = some (.cells zcd 49 (0, 0))) := ⟨by rw [hw1, hgr]; exact blk_new _ _⟩
 have HGR : Aside0 (gr < w1.heap.size) := ⟨blk_lt HX1.out⟩
 have HGG : Aside0 (g < gr) := ⟨by rw [hgr]; exact blk_lt H.out.blk⟩
 have HWG : Aside0 (W.heap.size ≤ gr) := ⟨by omega⟩
 have HW0 : Aside0 (w0.heap.size ≤ gr) := ⟨by have := H.out.bl.size; omega⟩
 have HONE := Aside0.mk hone
 have HP := Aside0.mk hp
 obtain ⟨R, hR⟩ : ∃ R : Res Cd, R = (if deep < 30 then one (p + 1) else .error (2, (nxt T b.e p).f1)) := ⟨_, rfl⟩
 rw [← hR]
 have HRR := Aside0.mk hR
 clear hR
 have hpl : (p : Int) ≤ 1000000 := by have := H.out.tl; omega
 clear h hone hp
 have c10 : w1.cell? ⟨g, 10, none⟩ = some (.int .i64 deep) := HS1.out.cell 10
 have f10 := blk_frozen HS1.out.blk 10
 obtain ⟨w2, hw2⟩ : ∃ w2, w2 = w1.setCell ⟨g, 10, none⟩ (.int .i64 (deep + 1)) := ⟨_, rfl⟩
 have HS2 : Aside0 (PS w0 w2 g T b p (deep + 1)) := ⟨by rw [hw2]; exact HS1.out.dip (deep + 1)⟩
 have HK2 : Aside0 (Kept W w2 (fun k => k = g)) := ⟨by rw [hw2]; exact Kept.setCell (S := fun k => k = g) (p := ⟨g, 10, none⟩) HK1.out (.inl rfl) _⟩
 have HX2 : Aside0 (w2.heap[gr]? = some (.cells zcd 49 (0, 0))) := ⟨by rw [hw2]; exact blk_far HX1.out (p := ⟨g, 10, none⟩) (by have := HGG.out; show gr ≠ g; omega) _⟩
 have HW2 := Aside0.mk hw2
 have HGR2 : Aside0 (gr < w2.heap.size) := ⟨blk_lt HX2.out⟩
 exact sTe5_1
def low (x : Int) : Int := if 65 ≤ x ∧ x ≤ 90 then x + 32 else x
theorem low_str (s : ByteArray) : strOfNums ((bytesOf s).map low) = lowB s := by
 have h : ∀ c : UInt8, UInt8.ofNat (low (c.toNat : Int)).toNat = if 65 ≤ c ∧ c ≤ 90 then c + 32 else c := by
  intro c
  have hc : c.toNat < 256 := c.toNat_lt
  unfold low
  have e1 : (65 ≤ c ∧ c ≤ 90) ↔ (65 ≤ (c.toNat : Int) ∧ (c.toNat : Int) ≤ 90) := by
   rw [UInt8.le_iff_toNat_le, UInt8.le_iff_toNat_le]
   show (65 ≤ c.toNat ∧ c.toNat ≤ 90) ↔ _
   omega
  by_cases h : 65 ≤ (c.toNat : Int) ∧ (c.toNat : Int) ≤ 90
  ·rw [if_pos h, if_pos (e1.2 h)]
   apply UInt8.toNat_inj.1
   rw [UInt8.toNat_ofNat', UInt8.toNat_add]
   show ((c.toNat : Int) + 32).toNat % 256 = (c.toNat + 32) % 256
   omega
  ·rw [if_neg h, if_neg (fun hh => h (e1.1 hh))]
   apply UInt8.toNat_inj.1
   rw [UInt8.toNat_ofNat']
   omega
 apply ByteArray.ext
 apply Array.ext'
 rw [strOfNums_data]
 simp only [lowB, bytesOf, List.map_map, Array.toList_map]
 exact List.map_congr_left (fun c _ => h c)
def Row (w : World) (gb : Nat) (xs : List Int) : Prop := ∃ (zs : Array Value) (m : Nat), w.heap[gb]? = some (.cells ((xs.map (Value.int .u8)).toArray ++ zs) 5 (m, m + 1)) ∧ xs.length ≤ m ∧ xs.length ≤ 1000000
theorem Row.cell {w : World} {gb : Nat} {xs : List Int} (h : Row w gb xs) (i : Nat) (hi : i < xs.length) : w.cell? ⟨gb, i, none⟩ = some (.int .u8 xs[i]) := by
 obtain ⟨zs, m, hb, _⟩ := h
 rw [cell_of_row w gb i _ _ _ hb, Array.getElem?_append_left (by simpa using hi)]
 simp [hi]
theorem Row.frozen {w : World} {gb : Nat} {xs : List Int} (h : Row w gb xs) (i : Nat) (hi : i < xs.length) : w.frozen? ⟨gb, i, none⟩ = false := by
 obtain ⟨zs, m, hb, hm⟩ := h
 simp [World.frozen?, hb]
 intro h2; omega
theorem Row.set {w : World} {gb : Nat} {xs : List Int} (h : Row w gb xs) (i : Nat) (hi : i < xs.length) (y : Int) : Row (w.setCell ⟨gb, i, none⟩ (.int .u8 y)) gb (xs.set i y) := by
 obtain ⟨zs, m, hb, hm⟩ := h
 refine ⟨zs, m, ?_, by simpa using hm⟩
 have h1 : (w.setCell ⟨gb, i, none⟩ (.int .u8 y)).heap[gb]? = some (.cells (((xs.map (Value.int .u8)).toArray ++ zs).setIfInBounds i (.int .u8 y)) 5 (m, m + 1)) := by
  simp [World.setCell, Array.getElem?_modify, hb]
 rw [h1]
 congr 2
 apply Array.ext'
 simp only [Array.toList_setIfInBounds, Array.toList_append, List.map_set]
 rw [List.set_append_left _ _ (by simpa using hi)]
theorem Row.C {w : World} {gb : Nat} {xs : List Int} (h : Row w gb xs) : (Kd.int .u8).C w (some ⟨gb, 0, none⟩) xs.length xs :=
 Kd.C_of_reads (enc := Value.int .u8) (d := (0 : Int)) (h1 := fun _ => rfl) ⟨rfl, by
  obtain ⟨zs, m, hb, hm, hl⟩ := h
  omega, fun hp => ⟨_, rfl, fun j hj => by
  rw [add_plain, h.cell j hj]
  simp [List.getD_eq_getElem?_getD, List.getElem?_eq_getElem hj]⟩⟩
set_option maxHeartbeats 4000000 in
set_option maxRecDepth 100000 in
theorem lower_calls (s : ByteArray) (w : World) (hs : s.size ≤ 1000000) :
  Calls Tryd.prog 95 #[.string s] w fun e w' => e = .returned (.string (lowB s)) ∧ Below w.heap.size w w' := by
 have hcv := Lib.run_convert_string_bytes (P := Tryd.prog) w 9 100 5 s Tryd.underlying9 Tryd.underlying100 Tryd.underlying5
 obtain ⟨xs, hxs⟩ : ∃ xs, xs = bytesOf s := ⟨_, rfl⟩
 obtain ⟨gb, hgb⟩ : ∃ gb, gb = w.heap.size := ⟨_, rfl⟩
 obtain ⟨w1, hw1⟩ : ∃ w1, w1 = Lib.bytesWorld w 5 s := ⟨_, rfl⟩
 obtain ⟨c, hcc⟩ : ∃ c, c = grownCap w s.size 0 5 := ⟨_, rfl⟩
 have hge : s.size ≤ c := by rw [hcc]; exact grownCap_ge w s.size 0 5
 rw [← hgb, ← hw1, ← hcc] at hcv
 have HR1 : Aside0 (Row w1 gb xs) := ⟨by
  rw [hw1, hgb]
  refine ⟨Array.replicate (grownCap w s.size 0 5 - s.size) (.int .u8 0), (Lib.bytesCells w 5 s).size, ?_, ?_, by rw [hxs, bytesOf_length]; exact hs⟩
  ·rw [Lib.bytesWorld_at_new]
   congr 2
   unfold Lib.bytesCells
   congr 1
   apply Array.ext'
   rw [hxs]
   simp [bytesOf]
  ·rw [hxs, bytesOf_length]
   simp [Lib.bytesCells]⟩
 have HB1 : Aside0 (Below w.heap.size w w1) := ⟨by rw [hw1]; exact ⟨rfl, rfl, rfl, by rw [Lib.bytesWorld_size]; omega, fun k hk => Lib.bytesWorld_at_old _ _ _ _ hk⟩⟩
 have HXL : Aside0 (xs.length = s.size) := ⟨by rw [hxs, bytesOf_length]⟩
 have HLS : Aside0 (strOfNums (xs.map low) = lowB s) := ⟨by rw [hxs]; exact low_str s⟩
 have HBY : Aside0 (∀ x ∈ xs, 0 ≤ x ∧ x ≤ 255) := ⟨by
  rw [hxs]; intro x hx
  obtain ⟨c, _, rfl⟩ := List.mem_map.1 hx
  have := c.toNat_lt
  omega⟩
 obtain ⟨n, hn⟩ : ∃ n, n = s.size := ⟨_, rfl⟩
 rw [← hn] at hcv HXL hge hs
 obtain ⟨L, hL⟩ : ∃ L, L = lowB s := ⟨_, rfl⟩
 rw [← hL] at HLS ⊢
 have HGW : Aside0 (w.heap.size ≤ gb) := ⟨by omega⟩
 clear hxs hgb hw1 hcc hn hL
 go_enter Tryd.func95, Tryd.ntmps95
 go_wp2_with fail
 clear hcv
 go_loopg [10] n (fun gk v10 wr => ∃ i : Nat, v10 = .int .i64 i ∧ Aside0 (i ≤ n) ∧ Aside0 (n - i ≤ gk) ∧ Aside0 (Row wr gb ((xs.take i).map low ++ xs.drop i)) ∧ Aside0 (Below w.heap.size w wr))
 case atStart => exact ⟨0, rfl, ⟨Nat.zero_le _⟩, ⟨by omega⟩, ⟨by simpa using HR1.out⟩, HB1⟩
 case round =>
  clear HR1 HB1
  obtain ⟨i, rfl, HI, HGK, HR, HB⟩ := hrel
  have hi := HI.out
  by_cases hlt : i < n
  ·have l1 : decide (i < n) = true := decide_eq_true hlt
   have l2 : (i : Int) < (n : Int) := by omega
   have hix : i < xs.length := by rw [HXL.out]; exact hlt
   obtain ⟨x, hx⟩ : ∃ x, x = xs[i] := ⟨_, rfl⟩
   obtain ⟨ys, hys⟩ : ∃ ys, ys = (xs.take i).map low ++ xs.drop i := ⟨_, rfl⟩
   have hil : i < ys.length := by rw [hys, List.length_append, List.length_map, List.length_take, List.length_drop]; omega
   have hdr : xs.drop i = x :: xs.drop (i + 1) := by rw [List.drop_eq_getElem_cons hix, hx]
   have hml : ((xs.take i).map low).length = i := by rw [List.length_map, List.length_take]; omega
   have hyi : ys[i] = x := by
    simp only [hys]
    rw [List.getElem_append_right (by omega)]
    simp only [hdr, hml, Nat.sub_self, List.getElem_cons_zero]
   have hset : ys.set i (low x) = (xs.take (i + 1)).map low ++ xs.drop (i + 1) := by
    rw [hys, hdr, List.set_append_right _ _ (by omega), hml, Nat.sub_self, List.set_cons_zero, List.take_succ_eq_append_getElem hix, List.map_append, ← hx, List.append_assoc]
    rfl
   have hself : ys.set i x = ys := by rw [← hyi]; exact List.set_getElem_self hil
   rw [← hys] at HR
   have m0 : wr.cell? ⟨gb, i, none⟩ = some (.int .u8 x) := by rw [← hyi]; exact HR.out.cell i hil
   have f0 := HR.out.frozen i hil
   have hxb := HBY.out x (by rw [hx]; exact List.getElem_mem _)
   obtain ⟨hx0, hx255⟩ := hxb
   have HSET := Aside0.mk hset
   have HLT := Aside0.mk hlt
   have HIL := Aside0.mk hil
   have HSELF := Aside0.mk hself
   clear hset hyi hys hix hx hlt hil hself hdr hml
   by_cases hc : 65 ≤ x ∧ x ≤ 90
   ·have l3 : decide (65 ≤ x) = true := decide_eq_true hc.1
    have l4 : decide (x ≤ 90) = true := decide_eq_true hc.2
    have hlow : low x = x + 32 := by rw [low, if_pos hc]
    obtain ⟨hc1, hc2⟩ := hc
    have HLOW := Aside0.mk hlow
    clear hlow
    go_wp2_with fail
    go_roundg (n - (i + 1))
    case measure => have := HLT.out; have := HGK.out; omega
    case rel =>
     exact ⟨i + 1, by go_num, ⟨by have := HLT.out; omega⟩, ⟨Nat.le_refl _⟩, ⟨by rw [← HSET.out, HLOW.out, show x + 97 - 65 = x + 32 by omega]; exact HR.out.set i HIL.out _⟩, ⟨HB.out.setCell (p := ⟨gb, i, none⟩) HGW.out _⟩⟩
   ·have hlow : low x = x := by rw [low, if_neg hc]
    have HRW : Aside0 (Row wr gb ((xs.take (i + 1)).map low ++ xs.drop (i + 1))) := ⟨by rw [← HSET.out, hlow, HSELF.out]; exact HR.out⟩
    clear hlow
    by_cases h1 : 65 ≤ x
    ·have l3 : decide (65 ≤ x) = true := decide_eq_true h1
     have l4 : decide (x ≤ 90) = false := decide_eq_false (by omega)
     clear hc h1
     go_wp2_with fail
     go_roundg (n - (i + 1))
     case measure => have := HLT.out; have := HGK.out; omega
     case rel => exact ⟨i + 1, by go_num, ⟨by have := HLT.out; omega⟩, ⟨Nat.le_refl _⟩, HRW, HB⟩
    ·have l3 : decide (65 ≤ x) = false := decide_eq_false h1
     clear hc h1
     go_wp2_with fail
     go_roundg (n - (i + 1))
     case measure => have := HLT.out; have := HGK.out; omega
     case rel => exact ⟨i + 1, by go_num, ⟨by have := HLT.out; omega⟩, ⟨Nat.le_refl _⟩, HRW, HB⟩
  ·have l1 : decide (i < n) = false := decide_eq_false hlt
   have l2 : ¬ (i : Int) < (n : Int) := by omega
   have hR : Row wr gb (xs.map low) := by
    have h := HR.out
    rw [List.take_of_length_le (by rw [HXL.out]; omega), List.drop_eq_nil_of_le (by rw [HXL.out]; omega), List.append_nil] at h
    exact h
   have hC := hR.C
   rw [List.length_map, HXL.out] at hC
   have hcv2 := Kd.C_string (dst := 9) (c := c) Tryd.underlying100 Tryd.underlying5 Tryd.underlying9 hC
   rw [HLS.out] at hcv2
   clear hC hR HR
   go_wp2
   go_ret
   exact ⟨rfl, HB.out⟩
theorem size_at : (Tryd.prog.info? 46).map (·.size) = some 2 := by kernel_rfl
theorem PS.far {w0 W : World} {g : Nat} {T : List Tk} {b : Pb} {p : Nat} {deep : Int} (h : PS w0 W g T b p deep) {ga : Nat} (hg : g ≠ ga) (h0 : w0.heap.size ≤ ga) (j : Nat) (u : Value) : PS w0 (W.setCell ⟨ga, j, none⟩ u) g T b p deep :=
 ⟨blk_far h.blk (p := ⟨ga, j, none⟩) hg _, h.bl.setCell (p := ⟨ga, j, none⟩) h0 _, h.gl, h.tC, h.tn, h.tc, h.tl, h.al⟩
theorem takeP_size {T : List Tk} {e : Int} {k : Int} {p q : Nat} {t : ByteArray} (hT : ∀ x ∈ T, x.f2.size ≤ 1000000) (h : takeP T e k p = .ok (t, q)) : t.size ≤ 1000000 := by
 rw [takeP] at h
 split at h
 ·cases h
  rw [nxt]
  split
  ·exact hT _ (List.getElem_mem _)
  ·exact Nat.zero_le _
 ·cases h
theorem atomWords_mem {T : List Tk} {e : Int} {p : Nat} {w : ByteArray} {q : Nat} (h : wordP T e atomWords p = .ok (w, q)) : w ∈ atomWords := by
 rw [wordP] at h
 split at h
 ·rename_i hi
  rw [takeP] at h
  split at h
  ·cases h
   simp only [isP, Bool.and_eq_true, memB, List.any_eq_true, decide_eq_true_eq] at hi
   obtain ⟨_, x, hx, e2⟩ := hi
   rw [e2]; exact hx
  ·cases h
 ·cases h
set_option maxHeartbeats 8000000 in
set_option maxRecDepth 100000 in
theorem atom_calls (w0 W : World) (g : Nat) (T : List Tk) (b : Pb) (p : Nat) (deep : Int) (h : PS w0 W g T b p deep) (hsz : ∀ t ∈ T, t.f2.size ≤ 1000000) :
  Calls Tryd.prog 93 #[.pointer (some ⟨g, 0, none⟩)] W (ResQ w0 W g T b deep (CondV w0 W) (atomP T b.e p)) := by
 have H := Aside0.mk h
 have HSZ := Aside0.mk hsz
 obtain ⟨R, hR⟩ : ∃ R, R = atomP T b.e p := ⟨_, rfl⟩
 rw [← hR]
 have HR := Aside0.mk hR
 obtain ⟨w1, hw1⟩ : ∃ w1, w1 = W.alloc (.cells zcd 49) := ⟨_, rfl⟩
 obtain ⟨gr, hgr⟩ : ∃ gr, gr = W.heap.size := ⟨_, rfl⟩
 have HS1 : Aside0 (PS w0 w1 g T b p deep) := ⟨by rw [hw1]; exact H.out.below (below_alloc (Below.refl _ _) _)⟩
 have HK1 : Aside0 (Kept W w1 (fun k => k = g)) := ⟨by rw [hw1]; exact Kept.alloc (Kept.refl _ _) _⟩
 have HX1 : Aside0 (w1.heap[gr]? = some (.cells zcd 49 (0, 0))) := ⟨by rw [hw1, hgr]; exact blk_new _ _⟩
 have HGR : Aside0 (gr < w1.heap.size) := ⟨blk_lt HX1.out⟩
 have HGG : Aside0 (g < gr) := ⟨by rw [hgr]; exact blk_lt H.out.blk⟩
 have HWG : Aside0 (W.heap.size ≤ gr) := ⟨by omega⟩
 have HW0 : Aside0 (w0.heap.size ≤ gr) := ⟨by have := H.out.bl.size; omega⟩
 clear h hR hsz
 have hwd := word_calls w0 (w1.alloc (.cells (encs Value.string atomWords).toArray 9)) g T b p deep (HS1.out.below (below_alloc (Below.refl _ _) _)) (some ⟨w1.heap.size, 0, none⟩) 12 12 atomWords (lit_strs w1 atomWords (by decide)) rfl (Nat.le_refl _) (by decide)
 obtain ⟨r1, hr1⟩ : ∃ r1, r1 = wordP T b.e atomWords p := ⟨_, rfl⟩
 have hsz1 : w1.heap.size = gr + 1 := by rw [hw1, hgr]; simp
 rw [← hr1, hsz1] at hwd
 have HWD : Aside0 (Calls Tryd.prog 49 #[.pointer (some ⟨g, 0, none⟩), .slice (some ⟨gr + 1, 0, none⟩) 12 12] (w1.alloc (.cells #[.string ⟨#[116, 114, 117, 101]⟩, .string ⟨#[102, 97, 108, 115, 101]⟩, .string wSame, .string wTrusted, .string wCreds, .string wCors, .string wMethod, .string wDest, .string wScheme, .string wHeader, .string wHost, .string wPath] 9)) (ResQ w0 (w1.alloc (.cells (encs Value.string atomWords).toArray 9)) g T b deep StrV r1)) := ⟨hwd⟩
 have HR1 := Aside0.mk hr1
 clear hwd hr1 hsz1
 go_enter Tryd.func93, Tryd.ntmps93
 go_wp2_with fail
 rw [← hw1, ← hgr]
 clear hw1 hgr
 refine HWD.out.mono ?_
 cases r1 with
 | error x =>
  obtain rfl : R = .error x := by rw [HR.out, atomP, ← HR1.out]
  rintro e w2 ⟨rfl, hb⟩
  dsimp only
  exact ⟨rfl, rfl, hb⟩
 | ok x =>
  obtain ⟨wd, q⟩ := x
  have hmem := atomWords_mem HR1.out.symm
  have HRK : Aside0 (R = atomK T b.e wd q) := ⟨by rw [HR.out, atomP, ← HR1.out]⟩
  rintro e w2 ⟨v, rfl, rfl, hs, hk⟩
  dsimp only
  have HS2 := Aside0.mk hs
  have HK2 : Aside0 (Kept W w2 (fun k => k = g)) := ⟨(HK1.out.alloc _).then_ hk (fun k hk => .inl hk)⟩
  have HX2 : Aside0 (w2.heap[gr]? = some (.cells zcd 49 (0, 0))) := ⟨blk_kept (blk_alloc HX1.out _) hk (by have := HGG.out; show gr ≠ g; omega)⟩
  clear hs hk HR HR1 HX1 HK1 HS1
  go_upto_region 4 with (fail)
  rename_i K1 hK1 K2 hK2
  obtain ⟨w3, hw3⟩ : ∃ w3, w3 = w2.alloc (.cells #[.string wd, .string ⟨#[]⟩] 46) := ⟨_, rfl⟩
  obtain ⟨ga, hga⟩ : ∃ ga, ga = w2.heap.size := ⟨_, rfl⟩
  have HS3 : Aside0 (PS w0 w3 g T b q deep) := ⟨by rw [hw3]; exact HS2.out.below (below_alloc (Below.refl _ _) _)⟩
  have HK3 : Aside0 (Kept W w3 (fun k => k = g)) := ⟨by rw [hw3]; exact HK2.out.alloc _⟩
  have HX3 : Aside0 (w3.heap[gr]? = some (.cells zcd 49 (0, 0))) := ⟨by rw [hw3]; exact blk_alloc HX2.out _⟩
  have HA3 : Aside0 (w3.heap[ga]? = some (.cells #[.string wd, .string ⟨#[]⟩] 46 (0, 0))) := ⟨by rw [hw3, hga]; exact blk_new _ _⟩
  have HGA : Aside0 (gr < ga) := ⟨by rw [hga]; exact blk_lt HX2.out⟩
  rw [← hw3, ← hga]
  clear hw3 hga HS2 HK2 HX2
  simp only [atomWords, List.mem_cons, List.mem_nil_iff, or_false] at hmem
  rcases hmem with rfl | rfl | rfl | rfl | rfl | rfl | rfl | rfl | rfl | rfl | rfl | rfl
  ·have hk : R = .ok (cond0 1 [], q) := by rw [HRK.out]; rfl
   have t0 : (wTrue.toList == [116, 114, 117, 101]) = true := by decide +kernel
   have t1 : (wTrue.toList == [102, 97, 108, 115, 101]) = false := by decide +kernel
   have t2 : (wTrue.toList == [109, 101, 116, 104, 111, 100]) = false := by decide +kernel
   have t3 : (wTrue.toList == [100, 101, 115, 116]) = false := by decide +kernel
   have t4 : (wTrue.toList == [115, 99, 104, 101, 109, 101]) = false := by decide +kernel
   have t5 : (wTrue.toList == [104, 101, 97, 100, 101, 114]) = false := by decide +kernel
   have t6 : (wTrue.toList == [104, 111, 115, 116]) = false := by decide +kernel
   have t7 : (wTrue.toList == [112, 97, 116, 104]) = false := by decide +kernel
   clear HRK
   subst hk
   go_wp2_with (refine wpList_store_row rfl 49 _ _ rfl gr (cdcells (cond0 1 []) (.slice none 0 0)) rfl rfl 49 _ HX3.out size_cd rfl (cd_one _ _ rfl) ?_)
   exact bodyPost_ret (ret_row rfl _ _ gr 49 (cdcells (cond0 1 []) (.slice none 0 0)) (0, 0) rfl (setRow_heap _ _ _ _ _ _ HX3.out) Tryd.underlying49 size_cd) rfl (fin_cond HGG.out HWG.out HW0.out (Kd.R_nil _ _ _ _ _) HS3.out HK3.out)
  ·have hk : R = .ok (cond0 2 [], q) := by rw [HRK.out]; rfl
   have t0 : (wFalse.toList == [116, 114, 117, 101]) = false := by decide +kernel
   have t1 : (wFalse.toList == [102, 97, 108, 115, 101]) = true := by decide +kernel
   have t2 : (wFalse.toList == [109, 101, 116, 104, 111, 100]) = false := by decide +kernel
   have t3 : (wFalse.toList == [100, 101, 115, 116]) = false := by decide +kernel
   have t4 : (wFalse.toList == [115, 99, 104, 101, 109, 101]) = false := by decide +kernel
   have t5 : (wFalse.toList == [104, 101, 97, 100, 101, 114]) = false := by decide +kernel
   have t6 : (wFalse.toList == [104, 111, 115, 116]) = false := by decide +kernel
   have t7 : (wFalse.toList == [112, 97, 116, 104]) = false := by decide +kernel
   clear HRK
   subst hk
   go_wp2_with (refine wpList_store_row rfl 49 _ _ rfl gr (cdcells (cond0 2 []) (.slice none 0 0)) rfl rfl 49 _ HX3.out size_cd rfl (cd_one _ _ rfl) ?_)
   exact bodyPost_ret (ret_row rfl _ _ gr 49 (cdcells (cond0 2 []) (.slice none 0 0)) (0, 0) rfl (setRow_heap _ _ _ _ _ _ HX3.out) Tryd.underlying49 size_cd) rfl (fin_cond HGG.out HWG.out HW0.out (Kd.R_nil _ _ _ _ _) HS3.out HK3.out)
  ·have hk : R = .ok (⟨3, ⟨wSame, ⟨#[]⟩⟩, []⟩, q) := by rw [HRK.out]; rfl
   have t0 : (wSame.toList == [116, 114, 117, 101]) = false := by decide +kernel
   have t1 : (wSame.toList == [102, 97, 108, 115, 101]) = false := by decide +kernel
   have t2 : (wSame.toList == [109, 101, 116, 104, 111, 100]) = false := by decide +kernel
   have t3 : (wSame.toList == [100, 101, 115, 116]) = false := by decide +kernel
   have t4 : (wSame.toList == [115, 99, 104, 101, 109, 101]) = false := by decide +kernel
   have t5 : (wSame.toList == [104, 101, 97, 100, 101, 114]) = false := by decide +kernel
   have t6 : (wSame.toList == [104, 111, 115, 116]) = false := by decide +kernel
   have t7 : (wSame.toList == [112, 97, 116, 104]) = false := by decide +kernel
   clear HRK
   subst hk
   go_wp2_with (first | refine wpList_load_row rfl 46 _ rfl ga rfl 46 #[.string wSame, .string ⟨#[]⟩] (0, 0) _ HA3.out Tryd.underlying46 rfl size_at ?_ | refine wpList_store_row rfl 49 _ _ rfl gr (cdcells ⟨3, ⟨wSame, ⟨#[]⟩⟩, []⟩ (.slice none 0 0)) rfl rfl 49 _ HX3.out size_cd rfl (cd_one _ _ rfl) ?_)
   exact bodyPost_ret (ret_row rfl _ _ gr 49 (cdcells ⟨3, ⟨wSame, ⟨#[]⟩⟩, []⟩ (.slice none 0 0)) (0, 0) rfl (setRow_heap _ _ _ _ _ _ HX3.out) Tryd.underlying49 size_cd) rfl (fin_cond HGG.out HWG.out HW0.out (Kd.R_nil _ _ _ _ _) HS3.out HK3.out)
  ·have hk : R = .ok (⟨3, ⟨wTrusted, ⟨#[]⟩⟩, []⟩, q) := by rw [HRK.out]; rfl
   have t0 : (wTrusted.toList == [116, 114, 117, 101]) = false := by decide +kernel
   have t1 : (wTrusted.toList == [102, 97, 108, 115, 101]) = false := by decide +kernel
   have t2 : (wTrusted.toList == [109, 101, 116, 104, 111, 100]) = false := by decide +kernel
   have t3 : (wTrusted.toList == [100, 101, 115, 116]) = false := by decide +kernel
   have t4 : (wTrusted.toList == [115, 99, 104, 101, 109, 101]) = false := by decide +kernel
   have t5 : (wTrusted.toList == [104, 101, 97, 100, 101, 114]) = false := by decide +kernel
   have t6 : (wTrusted.toList == [104, 111, 115, 116]) = false := by decide +kernel
   have t7 : (wTrusted.toList == [112, 97, 116, 104]) = false := by decide +kernel
   clear HRK
   subst hk
   go_wp2_with (first | refine wpList_load_row rfl 46 _ rfl ga rfl 46 #[.string wTrusted, .string ⟨#[]⟩] (0, 0) _ HA3.out Tryd.underlying46 rfl size_at ?_ | refine wpList_store_row rfl 49 _ _ rfl gr (cdcells ⟨3, ⟨wTrusted, ⟨#[]⟩⟩, []⟩ (.slice none 0 0)) rfl rfl 49 _ HX3.out size_cd rfl (cd_one _ _ rfl) ?_)
   exact bodyPost_ret (ret_row rfl _ _ gr 49 (cdcells ⟨3, ⟨wTrusted, ⟨#[]⟩⟩, []⟩ (.slice none 0 0)) (0, 0) rfl (setRow_heap _ _ _ _ _ _ HX3.out) Tryd.underlying49 size_cd) rfl (fin_cond HGG.out HWG.out HW0.out (Kd.R_nil _ _ _ _ _) HS3.out HK3.out)
  ·have hk : R = .ok (⟨3, ⟨wCreds, ⟨#[]⟩⟩, []⟩, q) := by rw [HRK.out]; rfl
   have t0 : (wCreds.toList == [116, 114, 117, 101]) = false := by decide +kernel
   have t1 : (wCreds.toList == [102, 97, 108, 115, 101]) = false := by decide +kernel
   have t2 : (wCreds.toList == [109, 101, 116, 104, 111, 100]) = false := by decide +kernel
   have t3 : (wCreds.toList == [100, 101, 115, 116]) = false := by decide +kernel
   have t4 : (wCreds.toList == [115, 99, 104, 101, 109, 101]) = false := by decide +kernel
   have t5 : (wCreds.toList == [104, 101, 97, 100, 101, 114]) = false := by decide +kernel
   have t6 : (wCreds.toList == [104, 111, 115, 116]) = false := by decide +kernel
   have t7 : (wCreds.toList == [112, 97, 116, 104]) = false := by decide +kernel
   clear HRK
   subst hk
   go_wp2_with (first | refine wpList_load_row rfl 46 _ rfl ga rfl 46 #[.string wCreds, .string ⟨#[]⟩] (0, 0) _ HA3.out Tryd.underlying46 rfl size_at ?_ | refine wpList_store_row rfl 49 _ _ rfl gr (cdcells ⟨3, ⟨wCreds, ⟨#[]⟩⟩, []⟩ (.slice none 0 0)) rfl rfl 49 _ HX3.out size_cd rfl (cd_one _ _ rfl) ?_)
   exact bodyPost_ret (ret_row rfl _ _ gr 49 (cdcells ⟨3, ⟨wCreds, ⟨#[]⟩⟩, []⟩ (.slice none 0 0)) (0, 0) rfl (setRow_heap _ _ _ _ _ _ HX3.out) Tryd.underlying49 size_cd) rfl (fin_cond HGG.out HWG.out HW0.out (Kd.R_nil _ _ _ _ _) HS3.out HK3.out)
  ·have hk : R = .ok (⟨3, ⟨wCors, ⟨#[]⟩⟩, []⟩, q) := by rw [HRK.out]; rfl
   have t0 : (wCors.toList == [116, 114, 117, 101]) = false := by decide +kernel
   have t1 : (wCors.toList == [102, 97, 108, 115, 101]) = false := by decide +kernel
   have t2 : (wCors.toList == [109, 101, 116, 104, 111, 100]) = false := by decide +kernel
   have t3 : (wCors.toList == [100, 101, 115, 116]) = false := by decide +kernel
   have t4 : (wCors.toList == [115, 99, 104, 101, 109, 101]) = false := by decide +kernel
   have t5 : (wCors.toList == [104, 101, 97, 100, 101, 114]) = false := by decide +kernel
   have t6 : (wCors.toList == [104, 111, 115, 116]) = false := by decide +kernel
   have t7 : (wCors.toList == [112, 97, 116, 104]) = false := by decide +kernel
   clear HRK
   subst hk
   go_wp2_with (first | refine wpList_load_row rfl 46 _ rfl ga rfl 46 #[.string wCors, .string ⟨#[]⟩] (0, 0) _ HA3.out Tryd.underlying46 rfl size_at ?_ | refine wpList_store_row rfl 49 _ _ rfl gr (cdcells ⟨3, ⟨wCors, ⟨#[]⟩⟩, []⟩ (.slice none 0 0)) rfl rfl 49 _ HX3.out size_cd rfl (cd_one _ _ rfl) ?_)
   exact bodyPost_ret (ret_row rfl _ _ gr 49 (cdcells ⟨3, ⟨wCors, ⟨#[]⟩⟩, []⟩ (.slice none 0 0)) (0, 0) rfl (setRow_heap _ _ _ _ _ _ HX3.out) Tryd.underlying49 size_cd) rfl (fin_cond HGG.out HWG.out HW0.out (Kd.R_nil _ _ _ _ _) HS3.out HK3.out)
  ·have hk : R = atomT wMethod id (takeP T b.e 1 q) := by rw [HRK.out]; rfl
   have t0 : (wMethod.toList == [116, 114, 117, 101]) = false := by decide +kernel
   have t1 : (wMethod.toList == [102, 97, 108, 115, 101]) = false := by decide +kernel
   have t2 : (wMethod.toList == [109, 101, 116, 104, 111, 100]) = true := by decide +kernel
   have t3 : (wMethod.toList == [100, 101, 115, 116]) = false := by decide +kernel
   have t4 : (wMethod.toList == [115, 99, 104, 101, 109, 101]) = false := by decide +kernel
   have t5 : (wMethod.toList == [104, 101, 97, 100, 101, 114]) = false := by decide +kernel
   have t6 : (wMethod.toList == [104, 111, 115, 116]) = false := by decide +kernel
   have t7 : (wMethod.toList == [112, 97, 116, 104]) = false := by decide +kernel
   clear HRK
   have htk := take_calls w0 w3 g T b q deep 1 HS3.out (by decide)
   obtain ⟨r2, hr2⟩ : ∃ r2, r2 = takeP T b.e 1 q := ⟨_, rfl⟩
   rw [← hr2] at htk hk
   have HTK := Aside0.mk htk
   have HR2 := Aside0.mk hr2
   clear htk hr2
   go_wp2_with fail
   refine HTK.out.mono ?_
   cases r2 with
   | error x =>
    obtain rfl : R = .error x := hk
    rintro e w4 ⟨rfl, hb⟩
    dsimp only
    exact ⟨rfl, rfl, hb⟩
   | ok x =>
    obtain ⟨t, q2⟩ := x
    obtain rfl : R = .ok (⟨3, ⟨wMethod, t⟩, []⟩, q2) := hk
    rintro e w4 ⟨v, rfl, rfl, hs, hk⟩
    dsimp only
    have HS4 := Aside0.mk hs
    have HK4 := Aside0.mk (HK3.out.then_ hk (fun k hk => .inl hk))
    have HX4 := Aside0.mk (blk_kept HX3.out hk (by have := HGG.out; show gr ≠ g; omega))
    have HA4 := Aside0.mk (blk_kept HA3.out hk (by have := HGA.out; have := HGG.out; show ga ≠ g; omega))
    clear hs hk HTK
    have a1 : w4.cell? ⟨ga, 1, none⟩ = some (.string ⟨#[]⟩) := blk_cell HA4.out 1
    have f1 := blk_frozen HA4.out 1
    obtain ⟨w6, hw6⟩ : ∃ w6, w6 = w4.setCell ⟨ga, 1, none⟩ (.string t) := ⟨_, rfl⟩
    have HS6 : Aside0 (PS w0 w6 g T b q2 deep) := ⟨by rw [hw6]; exact HS4.out.far (by have := HGA.out; have := HGG.out; omega) (by have := HGA.out; have := HW0.out; omega) 1 _⟩
    have HK6 : Aside0 (Kept W w6 (fun k => k = g)) := ⟨by rw [hw6]; exact Kept.setCell (S := fun k => k = g) (p := ⟨ga, 1, none⟩) HK4.out (.inr (by have := HGA.out; have := HWG.out; show W.heap.size ≤ ga; omega)) _⟩
    have HX6 : Aside0 (w6.heap[gr]? = some (.cells zcd 49 (0, 0))) := ⟨by rw [hw6]; exact blk_far HX4.out (p := ⟨ga, 1, none⟩) (by have := HGA.out; show gr ≠ ga; omega) _⟩
    have HA6 : Aside0 (w6.heap[ga]? = some (.cells #[.string wMethod, .string t] 46 (0, 0))) := ⟨by rw [hw6]; exact blk_set HA4.out 1 _⟩
    have HW6 := Aside0.mk hw6
    clear hw6
    go_upto_region 17 with (fail)
    rw [← HW6.out]
    clear a1 f1 HW6
    go_wp2_with (first | refine wpList_load_row rfl 46 _ rfl ga rfl 46 #[.string wMethod, .string t] (0, 0) _ HA6.out Tryd.underlying46 rfl size_at ?_ | refine wpList_store_row rfl 49 _ _ rfl gr (cdcells ⟨3, ⟨wMethod, t⟩, []⟩ (.slice none 0 0)) rfl rfl 49 _ HX6.out size_cd rfl (cd_one _ _ rfl) ?_)
    exact bodyPost_ret (ret_row rfl _ _ gr 49 (cdcells ⟨3, ⟨wMethod, t⟩, []⟩ (.slice none 0 0)) (0, 0) rfl (setRow_heap _ _ _ _ _ _ HX6.out) Tryd.underlying49 size_cd) rfl (fin_cond HGG.out HWG.out HW0.out (Kd.R_nil _ _ _ _ _) HS6.out HK6.out)
  ·have hk : R = atomT wDest lowB (takeP T b.e 1 q) := by rw [HRK.out]; rfl
   have t0 : (wDest.toList == [116, 114, 117, 101]) = false := by decide +kernel
   have t1 : (wDest.toList == [102, 97, 108, 115, 101]) = false := by decide +kernel
   have t2 : (wDest.toList == [109, 101, 116, 104, 111, 100]) = false := by decide +kernel
   have t3 : (wDest.toList == [100, 101, 115, 116]) = true := by decide +kernel
   have t4 : (wDest.toList == [115, 99, 104, 101, 109, 101]) = false := by decide +kernel
   have t5 : (wDest.toList == [104, 101, 97, 100, 101, 114]) = false := by decide +kernel
   have t6 : (wDest.toList == [104, 111, 115, 116]) = false := by decide +kernel
   have t7 : (wDest.toList == [112, 97, 116, 104]) = false := by decide +kernel
   clear HRK
   have htk := take_calls w0 w3 g T b q deep 1 HS3.out (by decide)
   obtain ⟨r2, hr2⟩ : ∃ r2, r2 = takeP T b.e 1 q := ⟨_, rfl⟩
   rw [← hr2] at htk hk
   have HTK := Aside0.mk htk
   have HR2 := Aside0.mk hr2
   clear htk hr2
   go_wp2_with fail
   refine HTK.out.mono ?_
   cases r2 with
   | error x =>
    obtain rfl : R = .error x := hk
    rintro e w4 ⟨rfl, hb⟩
    dsimp only
    exact ⟨rfl, rfl, hb⟩
   | ok x =>
    obtain ⟨t, q2⟩ := x
    obtain ⟨tl, htl⟩ : ∃ tl, tl = lowB t := ⟨_, rfl⟩
    have hk : R = .ok (⟨3, ⟨wDest, tl⟩, []⟩, q2) := by rw [htl]; exact hk
    obtain rfl : R = .ok (⟨3, ⟨wDest, tl⟩, []⟩, q2) := hk
    rintro e w4 ⟨v, rfl, rfl, hs, hk⟩
    dsimp only
    have HS4 := Aside0.mk hs
    have HK4 := Aside0.mk (HK3.out.then_ hk (fun k hk => .inl hk))
    have HX4 := Aside0.mk (blk_kept HX3.out hk (by have := HGG.out; show gr ≠ g; omega))
    have HA4 := Aside0.mk (blk_kept HA3.out hk (by have := HGA.out; have := HGG.out; show ga ≠ g; omega))
    clear hs hk HTK
    have hlw := lower_calls t w4 (takeP_size HSZ.out HR2.out.symm)
    rw [← htl] at hlw
    clear htl
    have HLW := Aside0.mk hlw
    clear hlw
    go_wp2_with fail
    refine HLW.out.mono ?_
    rintro e w5 ⟨rfl, hb⟩
    dsimp only
    replace HS4 := Aside0.mk (HS4.out.below hb)
    replace HK4 := Aside0.mk (HK4.out.below hb)
    replace HX4 := Aside0.mk (blk_below HX4.out hb)
    replace HA4 := Aside0.mk (blk_below HA4.out hb)
    clear hb HLW
    have a1 : w5.cell? ⟨ga, 1, none⟩ = some (.string ⟨#[]⟩) := blk_cell HA4.out 1
    have f1 := blk_frozen HA4.out 1
    obtain ⟨w6, hw6⟩ : ∃ w6, w6 = w5.setCell ⟨ga, 1, none⟩ (.string tl) := ⟨_, rfl⟩
    have HS6 : Aside0 (PS w0 w6 g T b q2 deep) := ⟨by rw [hw6]; exact HS4.out.far (by have := HGA.out; have := HGG.out; omega) (by have := HGA.out; have := HW0.out; omega) 1 _⟩
    have HK6 : Aside0 (Kept W w6 (fun k => k = g)) := ⟨by rw [hw6]; exact Kept.setCell (S := fun k => k = g) (p := ⟨ga, 1, none⟩) HK4.out (.inr (by have := HGA.out; have := HWG.out; show W.heap.size ≤ ga; omega)) _⟩
    have HX6 : Aside0 (w6.heap[gr]? = some (.cells zcd 49 (0, 0))) := ⟨by rw [hw6]; exact blk_far HX4.out (p := ⟨ga, 1, none⟩) (by have := HGA.out; show gr ≠ ga; omega) _⟩
    have HA6 : Aside0 (w6.heap[ga]? = some (.cells #[.string wDest, .string tl] 46 (0, 0))) := ⟨by rw [hw6]; exact blk_set HA4.out 1 _⟩
    have HW6 := Aside0.mk hw6
    clear hw6
    go_upto_region 17 with (fail)
    rw [← HW6.out]
    clear a1 f1 HW6
    go_wp2_with (first | refine wpList_load_row rfl 46 _ rfl ga rfl 46 #[.string wDest, .string tl] (0, 0) _ HA6.out Tryd.underlying46 rfl size_at ?_ | refine wpList_store_row rfl 49 _ _ rfl gr (cdcells ⟨3, ⟨wDest, tl⟩, []⟩ (.slice none 0 0)) rfl rfl 49 _ HX6.out size_cd rfl (cd_one _ _ rfl) ?_)
    exact bodyPost_ret (ret_row rfl _ _ gr 49 (cdcells ⟨3, ⟨wDest, tl⟩, []⟩ (.slice none 0 0)) (0, 0) rfl (setRow_heap _ _ _ _ _ _ HX6.out) Tryd.underlying49 size_cd) rfl (fin_cond HGG.out HWG.out HW0.out (Kd.R_nil _ _ _ _ _) HS6.out HK6.out)
  ·have hk : R = atomT wScheme lowB (takeP T b.e 1 q) := by rw [HRK.out]; rfl
   have t0 : (wScheme.toList == [116, 114, 117, 101]) = false := by decide +kernel
   have t1 : (wScheme.toList == [102, 97, 108, 115, 101]) = false := by decide +kernel
   have t2 : (wScheme.toList == [109, 101, 116, 104, 111, 100]) = false := by decide +kernel
   have t3 : (wScheme.toList == [100, 101, 115, 116]) = false := by decide +kernel
   have t4 : (wScheme.toList == [115, 99, 104, 101, 109, 101]) = true := by decide +kernel
   have t5 : (wScheme.toList == [104, 101, 97, 100, 101, 114]) = false := by decide +kernel
   have t6 : (wScheme.toList == [104, 111, 115, 116]) = false := by decide +kernel
   have t7 : (wScheme.toList == [112, 97, 116, 104]) = false := by decide +kernel
   clear HRK
   have htk := take_calls w0 w3 g T b q deep 1 HS3.out (by decide)
   obtain ⟨r2, hr2⟩ : ∃ r2, r2 = takeP T b.e 1 q := ⟨_, rfl⟩
   rw [← hr2] at htk hk
   have HTK := Aside0.mk htk
   have HR2 := Aside0.mk hr2
   clear htk hr2
   go_wp2_with fail
   refine HTK.out.mono ?_
   cases r2 with
   | error x =>
    obtain rfl : R = .error x := hk
    rintro e w4 ⟨rfl, hb⟩
    dsimp only
    exact ⟨rfl, rfl, hb⟩
   | ok x =>
    obtain ⟨t, q2⟩ := x
    obtain ⟨tl, htl⟩ : ∃ tl, tl = lowB t := ⟨_, rfl⟩
    have hk : R = .ok (⟨3, ⟨wScheme, tl⟩, []⟩, q2) := by rw [htl]; exact hk
    obtain rfl : R = .ok (⟨3, ⟨wScheme, tl⟩, []⟩, q2) := hk
    rintro e w4 ⟨v, rfl, rfl, hs, hk⟩
    dsimp only
    have HS4 := Aside0.mk hs
    have HK4 := Aside0.mk (HK3.out.then_ hk (fun k hk => .inl hk))
    have HX4 := Aside0.mk (blk_kept HX3.out hk (by have := HGG.out; show gr ≠ g; omega))
    have HA4 := Aside0.mk (blk_kept HA3.out hk (by have := HGA.out; have := HGG.out; show ga ≠ g; omega))
    clear hs hk HTK
    have hlw := lower_calls t w4 (takeP_size HSZ.out HR2.out.symm)
    rw [← htl] at hlw
    clear htl
    have HLW := Aside0.mk hlw
    clear hlw
    go_wp2_with fail
    refine HLW.out.mono ?_
    rintro e w5 ⟨rfl, hb⟩
    dsimp only
    replace HS4 := Aside0.mk (HS4.out.below hb)
    replace HK4 := Aside0.mk (HK4.out.below hb)
    replace HX4 := Aside0.mk (blk_below HX4.out hb)
    replace HA4 := Aside0.mk (blk_below HA4.out hb)
    clear hb HLW
    have a1 : w5.cell? ⟨ga, 1, none⟩ = some (.string ⟨#[]⟩) := blk_cell HA4.out 1
    have f1 := blk_frozen HA4.out 1
    obtain ⟨w6, hw6⟩ : ∃ w6, w6 = w5.setCell ⟨ga, 1, none⟩ (.string tl) := ⟨_, rfl⟩
    have HS6 : Aside0 (PS w0 w6 g T b q2 deep) := ⟨by rw [hw6]; exact HS4.out.far (by have := HGA.out; have := HGG.out; omega) (by have := HGA.out; have := HW0.out; omega) 1 _⟩
    have HK6 : Aside0 (Kept W w6 (fun k => k = g)) := ⟨by rw [hw6]; exact Kept.setCell (S := fun k => k = g) (p := ⟨ga, 1, none⟩) HK4.out (.inr (by have := HGA.out; have := HWG.out; show W.heap.size ≤ ga; omega)) _⟩
    have HX6 : Aside0 (w6.heap[gr]? = some (.cells zcd 49 (0, 0))) := ⟨by rw [hw6]; exact blk_far HX4.out (p := ⟨ga, 1, none⟩) (by have := HGA.out; show gr ≠ ga; omega) _⟩
    have HA6 : Aside0 (w6.heap[ga]? = some (.cells #[.string wScheme, .string tl] 46 (0, 0))) := ⟨by rw [hw6]; exact blk_set HA4.out 1 _⟩
    have HW6 := Aside0.mk hw6
    clear hw6
    go_upto_region 17 with (fail)
    rw [← HW6.out]
    clear a1 f1 HW6
    go_wp2_with (first | refine wpList_load_row rfl 46 _ rfl ga rfl 46 #[.string wScheme, .string tl] (0, 0) _ HA6.out Tryd.underlying46 rfl size_at ?_ | refine wpList_store_row rfl 49 _ _ rfl gr (cdcells ⟨3, ⟨wScheme, tl⟩, []⟩ (.slice none 0 0)) rfl rfl 49 _ HX6.out size_cd rfl (cd_one _ _ rfl) ?_)
    exact bodyPost_ret (ret_row rfl _ _ gr 49 (cdcells ⟨3, ⟨wScheme, tl⟩, []⟩ (.slice none 0 0)) (0, 0) rfl (setRow_heap _ _ _ _ _ _ HX6.out) Tryd.underlying49 size_cd) rfl (fin_cond HGG.out HWG.out HW0.out (Kd.R_nil _ _ _ _ _) HS6.out HK6.out)
  ·have hk : R = atomT wHeader lowB (takeP T b.e 1 q) := by rw [HRK.out]; rfl
   have t0 : (wHeader.toList == [116, 114, 117, 101]) = false := by decide +kernel
   have t1 : (wHeader.toList == [102, 97, 108, 115, 101]) = false := by decide +kernel
   have t2 : (wHeader.toList == [109, 101, 116, 104, 111, 100]) = false := by decide +kernel
   have t3 : (wHeader.toList == [100, 101, 115, 116]) = false := by decide +kernel
   have t4 : (wHeader.toList == [115, 99, 104, 101, 109, 101]) = false := by decide +kernel
   have t5 : (wHeader.toList == [104, 101, 97, 100, 101, 114]) = true := by decide +kernel
   have t6 : (wHeader.toList == [104, 111, 115, 116]) = false := by decide +kernel
   have t7 : (wHeader.toList == [112, 97, 116, 104]) = false := by decide +kernel
   clear HRK
   have htk := take_calls w0 w3 g T b q deep 1 HS3.out (by decide)
   obtain ⟨r2, hr2⟩ : ∃ r2, r2 = takeP T b.e 1 q := ⟨_, rfl⟩
   rw [← hr2] at htk hk
   have HTK := Aside0.mk htk
   have HR2 := Aside0.mk hr2
   clear htk hr2
   go_wp2_with fail
   refine HTK.out.mono ?_
   cases r2 with
   | error x =>
    obtain rfl : R = .error x := hk
    rintro e w4 ⟨rfl, hb⟩
    dsimp only
    exact ⟨rfl, rfl, hb⟩
   | ok x =>
    obtain ⟨t, q2⟩ := x
    obtain ⟨tl, htl⟩ : ∃ tl, tl = lowB t := ⟨_, rfl⟩
    have hk : R = .ok (⟨3, ⟨wHeader, tl⟩, []⟩, q2) := by rw [htl]; exact hk
    obtain rfl : R = .ok (⟨3, ⟨wHeader, tl⟩, []⟩, q2) := hk
    rintro e w4 ⟨v, rfl, rfl, hs, hk⟩
    dsimp only
    have HS4 := Aside0.mk hs
    have HK4 := Aside0.mk (HK3.out.then_ hk (fun k hk => .inl hk))
    have HX4 := Aside0.mk (blk_kept HX3.out hk (by have := HGG.out; show gr ≠ g; omega))
    have HA4 := Aside0.mk (blk_kept HA3.out hk (by have := HGA.out; have := HGG.out; show ga ≠ g; omega))
    clear hs hk HTK
    have hlw := lower_calls t w4 (takeP_size HSZ.out HR2.out.symm)
    rw [← htl] at hlw
    clear htl
    have HLW := Aside0.mk hlw
    clear hlw
    go_wp2_with fail
    refine HLW.out.mono ?_
    rintro e w5 ⟨rfl, hb⟩
    dsimp only
    replace HS4 := Aside0.mk (HS4.out.below hb)
    replace HK4 := Aside0.mk (HK4.out.below hb)
    replace HX4 := Aside0.mk (blk_below HX4.out hb)
    replace HA4 := Aside0.mk (blk_below HA4.out hb)
    clear hb HLW
    have a1 : w5.cell? ⟨ga, 1, none⟩ = some (.string ⟨#[]⟩) := blk_cell HA4.out 1
    have f1 := blk_frozen HA4.out 1
    obtain ⟨w6, hw6⟩ : ∃ w6, w6 = w5.setCell ⟨ga, 1, none⟩ (.string tl) := ⟨_, rfl⟩
    have HS6 : Aside0 (PS w0 w6 g T b q2 deep) := ⟨by rw [hw6]; exact HS4.out.far (by have := HGA.out; have := HGG.out; omega) (by have := HGA.out; have := HW0.out; omega) 1 _⟩
    have HK6 : Aside0 (Kept W w6 (fun k => k = g)) := ⟨by rw [hw6]; exact Kept.setCell (S := fun k => k = g) (p := ⟨ga, 1, none⟩) HK4.out (.inr (by have := HGA.out; have := HWG.out; show W.heap.size ≤ ga; omega)) _⟩
    have HX6 : Aside0 (w6.heap[gr]? = some (.cells zcd 49 (0, 0))) := ⟨by rw [hw6]; exact blk_far HX4.out (p := ⟨ga, 1, none⟩) (by have := HGA.out; show gr ≠ ga; omega) _⟩
    have HA6 : Aside0 (w6.heap[ga]? = some (.cells #[.string wHeader, .string tl] 46 (0, 0))) := ⟨by rw [hw6]; exact blk_set HA4.out 1 _⟩
    have HW6 := Aside0.mk hw6
    clear hw6
    go_upto_region 17 with (fail)
    rw [← HW6.out]
    clear a1 f1 HW6
    go_wp2_with (first | refine wpList_load_row rfl 46 _ rfl ga rfl 46 #[.string wHeader, .string tl] (0, 0) _ HA6.out Tryd.underlying46 rfl size_at ?_ | refine wpList_store_row rfl 49 _ _ rfl gr (cdcells ⟨3, ⟨wHeader, tl⟩, []⟩ (.slice none 0 0)) rfl rfl 49 _ HX6.out size_cd rfl (cd_one _ _ rfl) ?_)
    exact bodyPost_ret (ret_row rfl _ _ gr 49 (cdcells ⟨3, ⟨wHeader, tl⟩, []⟩ (.slice none 0 0)) (0, 0) rfl (setRow_heap _ _ _ _ _ _ HX6.out) Tryd.underlying49 size_cd) rfl (fin_cond HGG.out HWG.out HW0.out (Kd.R_nil _ _ _ _ _) HS6.out HK6.out)
  ·have hk : R = atomT wHost id (takeP T b.e 2 q) := by rw [HRK.out]; rfl
   have t0 : (wHost.toList == [116, 114, 117, 101]) = false := by decide +kernel
   have t1 : (wHost.toList == [102, 97, 108, 115, 101]) = false := by decide +kernel
   have t2 : (wHost.toList == [109, 101, 116, 104, 111, 100]) = false := by decide +kernel
   have t3 : (wHost.toList == [100, 101, 115, 116]) = false := by decide +kernel
   have t4 : (wHost.toList == [115, 99, 104, 101, 109, 101]) = false := by decide +kernel
   have t5 : (wHost.toList == [104, 101, 97, 100, 101, 114]) = false := by decide +kernel
   have t6 : (wHost.toList == [104, 111, 115, 116]) = true := by decide +kernel
   have t7 : (wHost.toList == [112, 97, 116, 104]) = false := by decide +kernel
   clear HRK
   have htk := take_calls w0 w3 g T b q deep 2 HS3.out (by decide)
   obtain ⟨r2, hr2⟩ : ∃ r2, r2 = takeP T b.e 2 q := ⟨_, rfl⟩
   rw [← hr2] at htk hk
   have HTK := Aside0.mk htk
   have HR2 := Aside0.mk hr2
   clear htk hr2
   go_wp2_with fail
   refine HTK.out.mono ?_
   cases r2 with
   | error x =>
    obtain rfl : R = .error x := hk
    rintro e w4 ⟨rfl, hb⟩
    dsimp only
    exact ⟨rfl, rfl, hb⟩
   | ok x =>
    obtain ⟨t, q2⟩ := x
    obtain rfl : R = .ok (⟨3, ⟨wHost, t⟩, []⟩, q2) := hk
    rintro e w4 ⟨v, rfl, rfl, hs, hk⟩
    dsimp only
    have HS4 := Aside0.mk hs
    have HK4 := Aside0.mk (HK3.out.then_ hk (fun k hk => .inl hk))
    have HX4 := Aside0.mk (blk_kept HX3.out hk (by have := HGG.out; show gr ≠ g; omega))
    have HA4 := Aside0.mk (blk_kept HA3.out hk (by have := HGA.out; have := HGG.out; show ga ≠ g; omega))
    clear hs hk HTK
    have a1 : w4.cell? ⟨ga, 1, none⟩ = some (.string ⟨#[]⟩) := blk_cell HA4.out 1
    have f1 := blk_frozen HA4.out 1
    obtain ⟨w6, hw6⟩ : ∃ w6, w6 = w4.setCell ⟨ga, 1, none⟩ (.string t) := ⟨_, rfl⟩
    have HS6 : Aside0 (PS w0 w6 g T b q2 deep) := ⟨by rw [hw6]; exact HS4.out.far (by have := HGA.out; have := HGG.out; omega) (by have := HGA.out; have := HW0.out; omega) 1 _⟩
    have HK6 : Aside0 (Kept W w6 (fun k => k = g)) := ⟨by rw [hw6]; exact Kept.setCell (S := fun k => k = g) (p := ⟨ga, 1, none⟩) HK4.out (.inr (by have := HGA.out; have := HWG.out; show W.heap.size ≤ ga; omega)) _⟩
    have HX6 : Aside0 (w6.heap[gr]? = some (.cells zcd 49 (0, 0))) := ⟨by rw [hw6]; exact blk_far HX4.out (p := ⟨ga, 1, none⟩) (by have := HGA.out; show gr ≠ ga; omega) _⟩
    have HA6 : Aside0 (w6.heap[ga]? = some (.cells #[.string wHost, .string t] 46 (0, 0))) := ⟨by rw [hw6]; exact blk_set HA4.out 1 _⟩
    have HW6 := Aside0.mk hw6
    clear hw6
    go_upto_region 17 with (fail)
    rw [← HW6.out]
    clear a1 f1 HW6
    go_wp2_with (first | refine wpList_load_row rfl 46 _ rfl ga rfl 46 #[.string wHost, .string t] (0, 0) _ HA6.out Tryd.underlying46 rfl size_at ?_ | refine wpList_store_row rfl 49 _ _ rfl gr (cdcells ⟨3, ⟨wHost, t⟩, []⟩ (.slice none 0 0)) rfl rfl 49 _ HX6.out size_cd rfl (cd_one _ _ rfl) ?_)
    exact bodyPost_ret (ret_row rfl _ _ gr 49 (cdcells ⟨3, ⟨wHost, t⟩, []⟩ (.slice none 0 0)) (0, 0) rfl (setRow_heap _ _ _ _ _ _ HX6.out) Tryd.underlying49 size_cd) rfl (fin_cond HGG.out HWG.out HW0.out (Kd.R_nil _ _ _ _ _) HS6.out HK6.out)
  ·have hk : R = atomT wPath id (takeP T b.e 2 q) := by rw [HRK.out]; rfl
   have t0 : (wPath.toList == [116, 114, 117, 101]) = false := by decide +kernel
   have t1 : (wPath.toList == [102, 97, 108, 115, 101]) = false := by decide +kernel
   have t2 : (wPath.toList == [109, 101, 116, 104, 111, 100]) = false := by decide +kernel
   have t3 : (wPath.toList == [100, 101, 115, 116]) = false := by decide +kernel
   have t4 : (wPath.toList == [115, 99, 104, 101, 109, 101]) = false := by decide +kernel
   have t5 : (wPath.toList == [104, 101, 97, 100, 101, 114]) = false := by decide +kernel
   have t6 : (wPath.toList == [104, 111, 115, 116]) = false := by decide +kernel
   have t7 : (wPath.toList == [112, 97, 116, 104]) = true := by decide +kernel
   clear HRK
   have htk := take_calls w0 w3 g T b q deep 2 HS3.out (by decide)
   obtain ⟨r2, hr2⟩ : ∃ r2, r2 = takeP T b.e 2 q := ⟨_, rfl⟩
   rw [← hr2] at htk hk
   have HTK := Aside0.mk htk
   have HR2 := Aside0.mk hr2
   clear htk hr2
   go_wp2_with fail
   refine HTK.out.mono ?_
   cases r2 with
   | error x =>
    obtain rfl : R = .error x := hk
    rintro e w4 ⟨rfl, hb⟩
    dsimp only
    exact ⟨rfl, rfl, hb⟩
   | ok x =>
    obtain ⟨t, q2⟩ := x
    obtain rfl : R = .ok (⟨3, ⟨wPath, t⟩, []⟩, q2) := hk
    rintro e w4 ⟨v, rfl, rfl, hs, hk⟩
    dsimp only
    have HS4 := Aside0.mk hs
    have HK4 := Aside0.mk (HK3.out.then_ hk (fun k hk => .inl hk))
    have HX4 := Aside0.mk (blk_kept HX3.out hk (by have := HGG.out; show gr ≠ g; omega))
    have HA4 := Aside0.mk (blk_kept HA3.out hk (by have := HGA.out; have := HGG.out; show ga ≠ g; omega))
    clear hs hk HTK
    have a1 : w4.cell? ⟨ga, 1, none⟩ = some (.string ⟨#[]⟩) := blk_cell HA4.out 1
    have f1 := blk_frozen HA4.out 1
    obtain ⟨w6, hw6⟩ : ∃ w6, w6 = w4.setCell ⟨ga, 1, none⟩ (.string t) := ⟨_, rfl⟩
    have HS6 : Aside0 (PS w0 w6 g T b q2 deep) := ⟨by rw [hw6]; exact HS4.out.far (by have := HGA.out; have := HGG.out; omega) (by have := HGA.out; have := HW0.out; omega) 1 _⟩
    have HK6 : Aside0 (Kept W w6 (fun k => k = g)) := ⟨by rw [hw6]; exact Kept.setCell (S := fun k => k = g) (p := ⟨ga, 1, none⟩) HK4.out (.inr (by have := HGA.out; have := HWG.out; show W.heap.size ≤ ga; omega)) _⟩
    have HX6 : Aside0 (w6.heap[gr]? = some (.cells zcd 49 (0, 0))) := ⟨by rw [hw6]; exact blk_far HX4.out (p := ⟨ga, 1, none⟩) (by have := HGA.out; show gr ≠ ga; omega) _⟩
    have HA6 : Aside0 (w6.heap[ga]? = some (.cells #[.string wPath, .string t] 46 (0, 0))) := ⟨by rw [hw6]; exact blk_set HA4.out 1 _⟩
    have HW6 := Aside0.mk hw6
    clear hw6
    go_upto_region 17 with (fail)
    rw [← HW6.out]
    clear a1 f1 HW6
    go_wp2_with (first | refine wpList_load_row rfl 46 _ rfl ga rfl 46 #[.string wPath, .string t] (0, 0) _ HA6.out Tryd.underlying46 rfl size_at ?_ | refine wpList_store_row rfl 49 _ _ rfl gr (cdcells ⟨3, ⟨wPath, t⟩, []⟩ (.slice none 0 0)) rfl rfl 49 _ HX6.out size_cd rfl (cd_one _ _ rfl) ?_)
    exact bodyPost_ret (ret_row rfl _ _ gr 49 (cdcells ⟨3, ⟨wPath, t⟩, []⟩ (.slice none 0 0)) (0, 0) rfl (setRow_heap _ _ _ _ _ _ HX6.out) Tryd.underlying49 size_cd) rfl (fin_cond HGG.out HWG.out HW0.out (Kd.R_nil _ _ _ _ _) HS6.out HK6.out)
abbrev bxc (g : Nat) : Array Value := #[.pointer (some ⟨g, 0, none⟩)]
set_option maxHeartbeats 8000000 in
set_option maxRecDepth 100000 in
theorem close_calls (w0 W : World) (g bx : Nat) (T : List Tk) (b : Pb) (p : Nat) (deep : Int) (h : PS w0 W g T b p deep) (hbx : W.heap[bx]? = some (.cells (bxc g) 58 (0, 0))) (hne : bx ≠ g) (one : Nat → Res Cd) (hone : OneC w0 W g T b deep 83 #[.pointer (some ⟨g, 0, none⟩)] one) (hmono : ∀ p c q, one p = .ok (c, q) → p ≤ q) :
  Calls Tryd.prog 92 #[.pointer (some ⟨bx, 0, none⟩)] W (ResQ w0 W g T b deep (CondV w0 W) (closeP T b.e (orP T b.e one p))) := by
 have H := Aside0.mk h
 obtain ⟨w1, hw1⟩ : ∃ w1, w1 = W.alloc (.cells zcd 49) := ⟨_, rfl⟩
 obtain ⟨gr, hgr⟩ : ∃ gr, gr = W.heap.size := ⟨_, rfl⟩
 have HS1 : Aside0 (PS w0 w1 g T b p deep) := ⟨by rw [hw1]; exact H.out.below (below_alloc (Below.refl _ _) _)⟩
 have HK1 : Aside0 (Kept W w1 (fun k => k = g)) := ⟨by rw [hw1]; exact Kept.alloc (Kept.refl _ _) _⟩
 have HX1 : Aside0 (w1.heap[gr]? = some (.cells zcd 49 (0, 0))) := ⟨by rw [hw1, hgr]; exact blk_new _ _⟩
 have HGR : Aside0 (gr < w1.heap.size) := ⟨blk_lt HX1.out⟩
 have HGG : Aside0 (g < gr) := ⟨by rw [hgr]; exact blk_lt H.out.blk⟩
 have HWG : Aside0 (W.heap.size ≤ gr) := ⟨by omega⟩
 have HW0 : Aside0 (w0.heap.size ≤ gr) := ⟨by have := H.out.bl.size; omega⟩
 have HBX1 : Aside0 (w1.heap[bx]? = some (.cells (bxc g) 58 (0, 0))) := ⟨by rw [hw1]; exact blk_alloc hbx _⟩
 have HNE := Aside0.mk hne
 obtain ⟨R, hR⟩ : ∃ R, R = closeP T b.e (orP T b.e one p) := ⟨_, rfl⟩
 rw [← hR]
 have HRR := Aside0.mk hR
 have ho := or_calls w0 w1 g T b p deep HS1.out (kidsP T b.e 5 wAnd one) (fun p2 W2 hk2 hs2 => and_calls w0 W2 g T b p2 deep hs2 one ((hone.later HK1.out).later hk2) hmono) (kidsP_mono hmono)
 obtain ⟨r, hr⟩ : ∃ r, r = kidsP T b.e 6 wOr (kidsP T b.e 5 wAnd one) p := ⟨_, rfl⟩
 rw [← hr] at ho
 have HO := Aside0.mk ho
 have HR1 : Aside0 (orP T b.e one p = r) := ⟨hr.symm⟩
 have m0 : w1.cell? ⟨bx, 0, none⟩ = some (.pointer (some ⟨g, 0, none⟩)) := blk_cell HBX1.out 0
 clear h hbx hne hone hmono hR ho hr
 go_enter Tryd.func92, Tryd.ntmps92
 go_upto_region 1 with (fail)
 rw [← hw1, ← hgr]
 clear hw1 hgr
 go_wp2_with fail
 refine HO.out.mono ?_
 cases r with
 | error x =>
  obtain rfl : R = .error x := by rw [HRR.out, HR1.out]; rfl
  rintro e w2 ⟨rfl, hb⟩
  dsimp only
  exact ⟨rfl, rfl, hb⟩
 | ok x =>
  obtain ⟨c, q⟩ := x
  rintro e w2 ⟨v, rfl, ⟨v3, rfl, hr⟩, hs, hk⟩
  dsimp only [cdcells]
  obtain ⟨A3, c3, e3⟩ := Kd.R_slice hr
  obtain ⟨n3, hn3⟩ : ∃ n3, n3 = c.f2.length := ⟨_, rfl⟩
  rw [← hn3] at e3
  subst e3
  have HX2 := Aside0.mk (blk_kept HX1.out hk (by have := HGG.out; show gr ≠ g; omega))
  have HBX2 := Aside0.mk (blk_kept HBX1.out hk HNE.out)
  have HK2 := Aside0.mk (HK1.out.then_ hk (fun k hk => .inl hk))
  have HR2 := Aside0.mk (Kd.R_mono (ok' := fun k => gr < k) hr (fun k hk2 => by have := HGR.out; omega))
  have HS2 := Aside0.mk hs
  have HRC : Aside0 (R = closeP T b.e (.ok (c, q))) := ⟨by rw [HRR.out, HR1.out]⟩
  clear hr hs hk hn3 m0 HX1 HBX1 HS1 HK1 HO HRR HR1
  go_upto_region 2 with (fail)
  obtain ⟨w5, hw5⟩ : ∃ w5, w5 = w2.alloc (.cells (cdcells c (.slice A3 n3 c3)) 49) := ⟨_, rfl⟩
  obtain ⟨gc, hgc⟩ : ∃ gc, gc = w2.heap.size := ⟨_, rfl⟩
  have HS5 : Aside0 (PS w0 w5 g T b q deep) := ⟨by rw [hw5]; exact HS2.out.below (below_alloc (Below.refl _ _) _)⟩
  have HK5 : Aside0 (Kept W w5 (fun k => k = g)) := ⟨by rw [hw5]; exact HK2.out.alloc _⟩
  have HX5 : Aside0 (w5.heap[gr]? = some (.cells zcd 49 (0, 0))) := ⟨by rw [hw5]; exact blk_alloc HX2.out _⟩
  have HC5 : Aside0 (w5.heap[gc]? = some (.cells (cdcells c (.slice A3 n3 c3)) 49 (0, 0))) := ⟨by rw [hw5, hgc]; exact blk_new _ _⟩
  have HR5 := Aside0.mk (show k49.R 49 w5 w0.heap.size (fun k => gr < k) (.slice A3 n3 c3) c.f2 by rw [hw5]; exact Kd.R_alloc HR2.out _)
  have HGC : Aside0 (gc ≠ g) := ⟨by rw [hgc]; have := blk_lt HS2.out.blk; omega⟩
  have m5 : w5.cell? ⟨bx, 0, none⟩ = some (.pointer (some ⟨g, 0, none⟩)) := by rw [hw5]; exact blk_cell (blk_alloc HBX2.out _) 0
  change Code.wp _ _ _ _ (w2.alloc (.cells (cdcells c (.slice A3 n3 c3)) 49))
  rw [← hw5, ← hgc]
  have ht := take_calls w0 w5 g T b q deep 4 HS5.out (by decide)
  obtain ⟨r2, hr2⟩ : ∃ r2, r2 = takeP T b.e 4 q := ⟨_, rfl⟩
  rw [← hr2] at ht
  have HT := Aside0.mk ht
  have HRK : Aside0 (R = closeK c r2) := ⟨by rw [HRC.out, closeP, hr2]⟩
  clear hw5 hgc HS2 HK2 HX2 HR2 HBX2 ht hr2
  go_wp2_with fail
  refine HT.out.mono ?_
  cases r2 with
  | error x =>
   obtain rfl : R = .error x := HRK.out
   rintro e w6 ⟨rfl, hb⟩
   dsimp only
   exact ⟨rfl, rfl, hb⟩
  | ok x =>
   obtain ⟨t, q2⟩ := x
   obtain rfl : R = .ok (c, q2) := HRK.out
   rintro e w6 ⟨v, rfl, rfl, hs, hk⟩
   dsimp only
   have HX6 := Aside0.mk (blk_kept HX5.out hk (by have := HGG.out; show gr ≠ g; omega))
   have HC6 := Aside0.mk (blk_kept HC5.out hk HGC.out)
   have HK6 := Aside0.mk (HK5.out.then_ hk (fun k hk => .inl hk))
   have HR6 := Aside0.mk (Kd.R_kept HR5.out hk (fun k hk => by have := HGG.out; show k ≠ g; omega))
   have HS6 := Aside0.mk hs
   clear hs hk HT m5
   go_wp2_with (first
    | refine wpList_load_row rfl 49 _ rfl gc rfl 49 (cdcells c (.slice A3 n3 c3)) (0, 0) _ HC6.out Tryd.underlying49 rfl size_cd ?_
    | refine wpList_store_row rfl 49 _ _ rfl gr (cdcells c (.slice A3 n3 c3)) rfl rfl 49 _ HX6.out size_cd rfl (cd_one _ _ rfl) ?_)
   exact bodyPost_ret (ret_row rfl _ _ gr 49 (cdcells c (.slice A3 n3 c3)) (0, 0) rfl (setRow_heap _ _ _ _ _ _ HX6.out) Tryd.underlying49 size_cd) rfl (fin_cond HGG.out HWG.out HW0.out HR6.out HS6.out HK6.out)
set_option maxHeartbeats 8000000 in
set_option maxRecDepth 100000 in
theorem not_step (w0 W : World) (g : Nat) (T : List Tk) (b : Pb) (p : Nat) (deep : Int) (h : PS w0 W g T b p deep) (hd0 : 0 ≤ deep) (hd : deep ≤ 30) (hsz : ∀ t ∈ T, t.f2.size ≤ 1000000) (one : Nat → Res Cd)
  (hone : deep < 30 → ∀ p W, PS w0 W g T b p (deep + 1) → Calls Tryd.prog 83 #[.pointer (some ⟨g, 0, none⟩)] W (ResQ w0 W g T b (deep + 1) (CondV w0 W) (one p))) (hmono : ∀ p c q, one p = .ok (c, q) → p ≤ q) :
  Calls Tryd.prog 83 #[.pointer (some ⟨g, 0, none⟩)] W (ResQ w0 W g T b deep (CondV w0 W) (notR T b.e deep one p)) := by
 have H := Aside0.mk h
 obtain ⟨w1, hw1⟩ : ∃ w1, w1 = (W.alloc (.cells (bxc g) 58)).alloc (.cells zcd 49) := ⟨_, rfl⟩
 obtain ⟨bx, hbx⟩ : ∃ bx, bx = W.heap.size := ⟨_, rfl⟩
 obtain ⟨gr, hgr⟩ : ∃ gr, gr = bx + 1 := ⟨_, rfl⟩
 have HS1 : Aside0 (PS w0 w1 g T b p deep) := ⟨by rw [hw1]; exact (H.out.below (below_alloc (Below.refl _ _) _)).below (below_alloc (Below.refl _ _) _)⟩
 have HK1 : Aside0 (Kept W w1 (fun k => k = g)) := ⟨by rw [hw1]; exact Kept.alloc (Kept.alloc (Kept.refl _ _) _) _⟩
 have HB1 : Aside0 (w1.heap[bx]? = some (.cells (bxc g) 58 (0, 0))) := ⟨by rw [hw1, hbx]; exact blk_alloc (blk_new _ _) _⟩
 have HX1 : Aside0 (w1.heap[gr]? = some (.cells zcd 49 (0, 0))) := ⟨by
  have := blk_new (W.alloc (.cells (bxc g) 58)) (.cells zcd 49)
  rw [hw1, hgr, hbx, show W.heap.size + 1 = (W.alloc (.cells (bxc g) 58)).heap.size by simp]; exact this⟩
 have HGG : Aside0 (g < bx) := ⟨by rw [hbx]; exact blk_lt H.out.blk⟩
 have HGR0 : Aside0 (g < gr) := ⟨by have := HGG.out; omega⟩
 have HWG : Aside0 (W.heap.size ≤ gr) := ⟨by omega⟩
 have HW0 : Aside0 (w0.heap.size ≤ gr) := ⟨by have := H.out.bl.size; omega⟩
 have HNE : Aside0 (bx ≠ g) := ⟨by have := HGG.out; omega⟩
 have HGRX : Aside0 (gr ≠ g) := ⟨by have := HGR0.out; omega⟩
 have hsz1 : w1.heap.size = gr + 1 := by rw [hw1, hgr, hbx]; simp
 have HONE := Aside0.mk hone
 have HM := Aside0.mk hmono
 have HSZ := Aside0.mk hsz
 have HD := Aside0.mk (And.intro hd0 hd)
 obtain ⟨R, hR⟩ : ∃ R, R = notR T b.e deep one p := ⟨_, rfl⟩
 rw [← hR]
 have HRR : Aside0 (R = if isP T b.e [wNot] p then wrapNot (if deep < 30 then one (p + 1) else .error (2, (nxt T b.e p).f1)) else if (nxt T b.e p).f0 = 3 then (if deep < 30 then closeP T b.e (orP T b.e one (p + 1)) else .error (2, (nxt T b.e p).f1)) else atomP T b.e p) := ⟨hR⟩
 have hi := is_calls w0 (w1.alloc (.cells (encs Value.string [wNot]).toArray 9)) g T b p deep (HS1.out.below (below_alloc (Below.refl _ _) _)) (some ⟨w1.heap.size, 0, none⟩) 1 1 [wNot] (lit_strs w1 [wNot] (by decide)) rfl (Nat.le_refl _) (by decide)
 obtain ⟨i, hii⟩ : ∃ i, i = isP T b.e [wNot] p := ⟨_, rfl⟩
 rw [← hii, hsz1] at hi
 have HI : Aside0 (Calls Tryd.prog 45 #[.pointer (some ⟨g, 0, none⟩), .slice (some ⟨gr + 1, 0, none⟩) 1 1] (w1.alloc (.cells #[.string ⟨#[110, 111, 116]⟩] 9)) (fun e w' => e = .returned (.bool i) ∧ Below (w1.alloc (.cells #[.string ⟨#[110, 111, 116]⟩] 9)).heap.size (w1.alloc (.cells #[.string ⟨#[110, 111, 116]⟩] 9)) w')) := ⟨hi⟩
 have HII := Aside0.mk hii
 have m1 : w1.cell? ⟨bx, 0, none⟩ = some (.pointer (some ⟨g, 0, none⟩)) := blk_cell HB1.out 0
 have hmf := hmf
 clear h hone hmono hsz hd0 hd hR hi hii
 go_enter Tryd.func83, Tryd.ntmps83
 go_upto_region 1 with (fail)
 rw [← hw1, ← hbx]
 rw [show bx + 1 = gr by omega]
 clear hw1 hbx hgr
 go_wp2_with fail
 refine HI.out.mono ?_
 rintro e w2 ⟨rfl, hb⟩
 dsimp only
 have hbb : Below w1.heap.size w1 w2 := (below_alloc (Below.refl _ _) _).trans (hb.mono (below_alloc (Below.refl _ _) _).size)
 have HS2 := Aside0.mk (HS1.out.below hbb)
 have HK2 := Aside0.mk (HK1.out.below hbb)
 have HB2 := Aside0.mk (blk_below HB1.out hbb)
 have HX2 := Aside0.mk (blk_below HX1.out hbb)
 have m2 : w2.cell? ⟨bx, 0, none⟩ = some (.pointer (some ⟨g, 0, none⟩)) := blk_cell HB2.out 0
 clear hb hbb m1 HS1 HK1 HB1 HX1 HI
 cases i
 ·have hn := next_calls w0 w2 g T b p deep HS2.out
  have HRF : Aside0 (R = if (nxt T b.e p).f0 = 3 then (if deep < 30 then closeP T b.e (orP T b.e one (p + 1)) else .error (2, (nxt T b.e p).f1)) else atomP T b.e p) := ⟨by rw [HRR.out, ← HII.out]; rfl⟩
  have HP0 : Aside0 ((nxt T b.e p).f0 = 3 → p < T.length) := ⟨fun h => by
   apply Classical.byContradiction; intro hp; rw [nxt, dif_neg hp] at h; exact absurd (show (0 : Int) = 3 from h) (by decide)⟩
  obtain ⟨t, ht⟩ : ∃ t, t = nxt T b.e p := ⟨_, rfl⟩
  rw [← ht] at hn HRF HP0
  have HT_ := Aside0.mk ht
  have HN := Aside0.mk hn
  clear hn ht HRR HII
  obtain ⟨k0, p0, s0⟩ := t
  dsimp only at HRF HP0
  go_wp2_with fail
  refine HN.out.mono ?_
  rintro e w3 ⟨rfl, hb⟩
  dsimp only [tkcells]
  have HS3 := Aside0.mk (HS2.out.below hb)
  have HK3 := Aside0.mk (HK2.out.below hb)
  have HB3 := Aside0.mk (blk_below HB2.out hb)
  have HX3 := Aside0.mk (blk_below HX2.out hb)
  have m3 : w3.cell? ⟨bx, 0, none⟩ = some (.pointer (some ⟨g, 0, none⟩)) := blk_cell HB3.out 0
  have HGX : Aside0 (gr < w3.heap.size) := ⟨blk_lt HX3.out⟩
  clear hb m2 HS2 HK2 HB2 HX2 HN
  by_cases hk : k0 = 3
  ·have l1 : (k0 == (3 : Int)) = true := by simp [hk]
   have hp := HP0.out hk
   have hd3 := deeper_close w0 w3 g bx T b p deep HS3.out HD.out.1 HD.out.2 hp (fun q => closeP T b.e (orP T b.e one q)) (fun h30 p2 W2 hk2 hs2 => close_calls w0 W2 g bx T b p2 (deep + 1) hs2 (blk_kept HB3.out hk2 HNE.out) HNE.out one (fun p3 W3 hk3 hs3 => HONE.out h30 p3 W3 hs3) HM.out)
   have hr : R = (if deep < 30 then closeP T b.e (orP T b.e one (p + 1)) else .error (2, (nxt T b.e p).f1)) := by rw [HRF.out, if_pos hk, ← HT_.out]
   have HD3 : Aside0 (Calls Tryd.prog 91 #[.pointer (some ⟨g, 0, none⟩), .func (Fn.func 92) #[] #[.pointer (some ⟨bx, 0, none⟩)]] w3 (ResQ w0 w3 g T b deep (CondV w0 w3) R)) := ⟨by rw [hr]; exact hd3⟩
   clear hk hp hd3 hr HRF HP0
   go_wp2
   rename_i Kf hKf
   refine hKf _ _ ?_
   simp only [List.getElem_toArray, List.getElem_cons_succ, List.getElem_cons_zero]
   go_wp2_with fail
   refine HD3.out.mono ?_
   cases R with
   | error x =>
    rintro e w4 ⟨rfl, hb⟩
    dsimp only
    exact ⟨rfl, rfl, hb⟩
   | ok x =>
    obtain ⟨c, q⟩ := x
    rintro e w4 ⟨v, rfl, ⟨v3, rfl, hr⟩, hs, hk⟩
    dsimp only
    have HX4 := Aside0.mk (blk_kept HX3.out hk HGRX.out)
    have HK4 := Aside0.mk (HK3.out.then_ hk (fun k hk => .inl hk))
    have HR4 := Aside0.mk (Kd.R_mono (ok' := fun k => gr < k) hr (fun k hk2 => by have := HGX.out; omega))
    have HS4 := Aside0.mk hs
    clear hr hs hk m3
    go_wp2_with (refine wpList_store_row rfl 49 _ _ rfl gr (cdcells c v3) rfl rfl 49 _ HX4.out size_cd rfl (cd_one _ _ (R_cell1 HR4.out)) ?_)
    exact bodyPost_ret (ret_row rfl _ _ gr 49 (cdcells c v3) (0, 0) rfl (setRow_heap _ _ _ _ _ _ HX4.out) Tryd.underlying49 size_cd) rfl (fin_cond HGR0.out HWG.out HW0.out HR4.out HS4.out HK4.out)
  ·have l1 : (k0 == (3 : Int)) = false := by simp [hk]
   have ha := atom_calls w0 w3 g T b p deep HS3.out HSZ.out
   have hr : atomP T b.e p = R := by rw [HRF.out, if_neg hk]
   rw [hr] at ha
   have HA := Aside0.mk ha
   clear hk ha hr HRF HP0
   go_wp2
   rename_i Kf hKf
   refine hKf _ _ ?_
   simp only [List.getElem_toArray, List.getElem_cons_succ, List.getElem_cons_zero]
   go_wp2_with fail
   refine HA.out.mono ?_
   cases R with
   | error x =>
    rintro e w4 ⟨rfl, hb⟩
    dsimp only
    exact ⟨rfl, rfl, hb⟩
   | ok x =>
    obtain ⟨c, q⟩ := x
    rintro e w4 ⟨v, rfl, ⟨v3, rfl, hr⟩, hs, hk⟩
    dsimp only
    have HX4 := Aside0.mk (blk_kept HX3.out hk HGRX.out)
    have HK4 := Aside0.mk (HK3.out.then_ hk (fun k hk => .inl hk))
    have HR4 := Aside0.mk (Kd.R_mono (ok' := fun k => gr < k) hr (fun k hk2 => by have := HGX.out; omega))
    have HS4 := Aside0.mk hs
    clear hr hs hk m3
    go_wp2_with (refine wpList_store_row rfl 49 _ _ rfl gr (cdcells c v3) rfl rfl 49 _ HX4.out size_cd rfl (cd_one _ _ (R_cell1 HR4.out)) ?_)
    exact bodyPost_ret (ret_row rfl _ _ gr 49 (cdcells c v3) (0, 0) rfl (setRow_heap _ _ _ _ _ _ HX4.out) Tryd.underlying49 size_cd) rfl (fin_cond HGR0.out HWG.out HW0.out HR4.out HS4.out HK4.out)
 ·have hp := isP_lt HII.out.symm
  have hd2 := deeper_not w0 w2 g T b p deep HS2.out HD.out.1 HD.out.2 hp one (fun h30 p2 W2 hk2 hs2 => HONE.out h30 p2 W2 hs2)
  obtain ⟨r2, hr2⟩ : ∃ r2 : Res Cd, r2 = (if deep < 30 then one (p + 1) else .error (2, (nxt T b.e p).f1)) := ⟨_, rfl⟩
  rw [← hr2] at hd2
  have HD2 := Aside0.mk hd2
  have HRW : Aside0 (R = wrapNot r2) := ⟨by rw [HRR.out, ← HII.out, hr2]; rfl⟩
  have HGX : Aside0 (gr < w2.heap.size) := ⟨blk_lt HX2.out⟩
  clear hp hd2 hr2 HRR HII
  go_wp2_with fail
  refine HD2.out.mono ?_
  cases r2 with
  | error x =>
   obtain rfl : R = .error x := HRW.out
   rintro e w4 ⟨rfl, hb⟩
   dsimp only
   exact ⟨rfl, rfl, hb⟩
  | ok x =>
   obtain ⟨c, q⟩ := x
   obtain rfl : R = .ok (cond0 4 [c], q) := HRW.out
   rintro e w4 ⟨v, rfl, ⟨v3, rfl, hr⟩, hs, hk⟩
   dsimp only [cdcells]
   obtain ⟨A3, c3, e3⟩ := Kd.R_slice hr
   obtain ⟨n3, hn3⟩ : ∃ n3, n3 = c.f2.length := ⟨_, rfl⟩
   rw [← hn3] at e3
   subst e3
   have HX4 := Aside0.mk (blk_kept HX2.out hk HGRX.out)
   have HK4 := Aside0.mk (HK2.out.then_ hk (fun k hk => .inl hk))
   have HS4 := Aside0.mk hs
   have HL4 : Aside0 (k49.R 49 (w4.alloc (.cells (cdcells c (.slice A3 n3 c3)) 49)) w0.heap.size (fun k => gr < k) (.slice (some ⟨w4.heap.size, 0, none⟩) 1 1) [c]) := ⟨row_one w4 w0.heap.size c (.slice A3 n3 c3) _ _ hr (fun k hk2 => by have := HGX.out; omega) (by have := hk.1; have := HGX.out; omega) hs.bl.size⟩
   obtain ⟨w5, hw5⟩ : ∃ w5, w5 = w4.alloc (.cells (cdcells c (.slice A3 n3 c3)) 49) := ⟨_, rfl⟩
   obtain ⟨gl, hgl⟩ : ∃ gl, gl = w4.heap.size := ⟨_, rfl⟩
   rw [← hw5, ← hgl] at HL4
   have HS5 : Aside0 (PS w0 w5 g T b q deep) := ⟨by rw [hw5]; exact HS4.out.below (below_alloc (Below.refl _ _) _)⟩
   have HK5 : Aside0 (Kept W w5 (fun k => k = g)) := ⟨by rw [hw5]; exact HK4.out.alloc _⟩
   have HX5 : Aside0 (w5.heap[gr]? = some (.cells zcd 49 (0, 0))) := ⟨by rw [hw5]; exact blk_alloc HX4.out _⟩
   have HW5 := Aside0.mk hw5
   have HGL := Aside0.mk hgl
   clear hr hs hk hn3 m2 hw5 hgl
   go_wp2_with (
    (try change wpList _ _ _ _ _ (w4.alloc (.cells (cdcells c (.slice A3 n3 c3)) 49)));
    (try rw [← HW5.out, ← HGL.out]);
    (refine wpList_store_row rfl 49 _ _ rfl gr (cdcells (cond0 4 [c]) (.slice (some ⟨gl, 0, none⟩) 1 1)) rfl rfl 49 _ HX5.out size_cd rfl (cd_one _ _ rfl) ?_))
   exact bodyPost_ret (ret_row rfl _ _ gr 49 (cdcells (cond0 4 [c]) (.slice (some ⟨gl, 0, none⟩) 1 1)) (0, 0) rfl (setRow_heap _ _ _ _ _ _ HX5.out) Tryd.underlying49 size_cd) rfl (fin_cond HGR0.out HWG.out HW0.out HL4.out HS5.out HK5.out)
theorem takeP_mono {T : List Tk} {e k : Int} {p q : Nat} {t : ByteArray} (h : takeP T e k p = .ok (t, q)) : q = p + 1 := by
 rw [takeP] at h
 split at h <;> cases h
 rfl
theorem wordP_mono {T : List Tk} {e : Int} {ws : List ByteArray} {p q : Nat} {t : ByteArray} (h : wordP T e ws p = .ok (t, q)) : q = p + 1 := by
 rw [wordP] at h
 split at h
 ·exact takeP_mono h
 ·cases h
theorem atomT_mono {w : ByteArray} {f : ByteArray → ByteArray} {r : Res ByteArray} {c : Cd} {q : Nat} (h : atomT w f r = .ok (c, q)) : ∃ t, r = .ok (t, q) := by
 cases r with
 | error x => cases h
 | ok x => obtain ⟨t, q'⟩ := x; cases h; exact ⟨t, rfl⟩
theorem atomP_mono {T : List Tk} {e : Int} : ∀ p c q, atomP T e p = .ok (c, q) → p ≤ q := fun p c q h => by
 rw [atomP] at h
 split at h
 ·cases h
 ·rename_i w q1 h1
  have e1 := wordP_mono h1
  unfold atomK at h
  have key : ∀ {f : ByteArray → ByteArray} {k : Int}, atomT w f (takeP T e k q1) = .ok (c, q) → p ≤ q := fun h => by
   obtain ⟨t, ht⟩ := atomT_mono h
   have := takeP_mono ht
   omega
  repeat' split at h
  all_goals first | exact key h | (cases h; omega)
theorem notR_mono {T : List Tk} {e : Int} {deep : Int} {one : Nat → Res Cd} (hmono : ∀ p c q, one p = .ok (c, q) → p ≤ q) : ∀ p c q, notR T e deep one p = .ok (c, q) → p ≤ q := fun p c q h => by
 unfold notR at h
 split at h
 ·split at h
  ·cases ho : one (p + 1) with
   | error x => rw [ho] at h; cases h
   | ok x =>
    obtain ⟨c1, q1⟩ := x
    rw [ho] at h
    cases h
    have := hmono _ _ _ ho
    omega
  ·cases h
 ·split at h
  ·split at h
   ·cases ho : orP T e one (p + 1) with
    | error x => rw [ho] at h; cases h
    | ok x =>
     obtain ⟨c1, q1⟩ := x
     rw [ho] at h
     have h1 := kidsP_mono (kidsP_mono hmono) _ _ _ ho
     cases ht : takeP T e 4 q1 with
     | error x => rw [closeP, ht] at h; cases h
     | ok x =>
      obtain ⟨t, q2⟩ := x
      rw [closeP, ht] at h
      cases h
      have := takeP_mono ht
      omega
   ·cases h
  ·exact atomP_mono _ _ _ h
theorem notN_zero (T : List Tk) (e : Int) (p : Nat) : notN T e 0 p = notR T e 30 (fun _ => .error (0, 0)) p := by
 unfold notN notR
 split
 ·rw [if_neg (by decide)]; rfl
 ·split
  ·rw [if_neg (by decide)]
  ·rfl
theorem notN_succ (T : List Tk) (e : Int) (n : Nat) (p : Nat) : notN T e (n + 1) p = notR T e (30 - ((n + 1 : Nat) : Int)) (notN T e n) p := by
 have h : (30 : Int) - ((n + 1 : Nat) : Int) < 30 := by omega
 rw [notN]
 unfold notR
 simp only [if_pos h]
theorem notN_mono (T : List Tk) (e : Int) : ∀ n p c q, notN T e n p = .ok (c, q) → p ≤ q
 | 0, p, c, q, h => notR_mono (one := fun _ => .error (0, 0)) (fun _ _ _ h => by cases h) p c q (by rw [← notN_zero]; exact h)
 | n + 1, p, c, q, h => notR_mono (notN_mono T e n) p c q (by rw [← notN_succ]; exact h)
theorem not_calls (w0 : World) (g : Nat) (T : List Tk) (b : Pb) (hsz : ∀ t ∈ T, t.f2.size ≤ 1000000) : ∀ (n : Nat), n ≤ 30 → ∀ (p : Nat) (W : World), PS w0 W g T b p (30 - (n : Int)) →
  Calls Tryd.prog 83 #[.pointer (some ⟨g, 0, none⟩)] W (ResQ w0 W g T b (30 - (n : Int)) (CondV w0 W) (notN T b.e n p))
 | 0, _, p, W, h => by
  rw [notN_zero]
  exact not_step w0 W g T b p 30 h (by decide) (by decide) hsz _ (fun h => absurd h (by decide)) (fun _ _ _ h => by cases h)
 | n + 1, hn, p, W, h => by
  rw [notN_succ]
  have e1 : (30 : Int) - ((n + 1 : Nat) : Int) + 1 = 30 - (n : Int) := by omega
  refine not_step w0 W g T b p _ h (by omega) (by omega) hsz _ (fun _ p2 W2 h2 => ?_) (notN_mono T b.e n)
  rw [e1] at h2 ⊢
  exact not_calls w0 g T b hsz n (by omega) p2 W2 h2
def condP (T : List Tk) (e : Int) (p : Nat) : Res Cd := orP T e (notN T e 30) p
theorem cond_calls (w0 W : World) (g : Nat) (T : List Tk) (b : Pb) (p : Nat) (h : PS w0 W g T b p 0) (hsz : ∀ t ∈ T, t.f2.size ≤ 1000000) :
  Calls Tryd.prog 50 #[.pointer (some ⟨g, 0, none⟩)] W (ResQ w0 W g T b 0 (CondV w0 W) (condP T b.e p)) :=
 or_calls w0 W g T b p 0 h (kidsP T b.e 5 wAnd (notN T b.e 30)) (fun p2 W2 hk2 hs2 => and_calls w0 W2 g T b p2 0 hs2 (notN T b.e 30) (fun p3 W3 hk3 hs3 => not_calls w0 g T b hsz 30 (by decide) p3 W3 hs3) (notN_mono T b.e 30)) (kidsP_mono (notN_mono T b.e 30))
theorem condP_mono (T : List Tk) (e : Int) : ∀ p c q, condP T e p = .ok (c, q) → p ≤ q := kidsP_mono (kidsP_mono (notN_mono T e 30))
end Go.Proofs.YtngedmioeodmfaaDoor.Ps
namespace Go.Proofs.YtngedmioeodmfaaDoor.Ps
open Go.RowKit Go.Proofs.YtngedmioeodmfaaDoor.Pr Go.Proofs.YtngedmioeodmfaaDoorW.PrintWords Go.Proofs.YtngedmioeodmfaaDoorW.PrintLast Go.Proofs.YtngedmioeodmfaaDoorW.PrintMore
theorem as_fault (v : Value) (w : World) : (Instr.typeAssert (.iface 30 v) 20 30 true).run Tryd.prog w = .ok (.tuple #[v, .bool true]) w := by kernel_rfl
attribute [local go_sem] as_fault
set_option maxRecDepth 100000 in
theorem catch_idle (gp gf : Nat) (w : World) :
  CallsD Tryd.prog 20 #[.pointer (some ⟨gp, 0, none⟩), .pointer (some ⟨gf, 0, none⟩)] .returning w fun e u' w' => e = .returned (.tuple #[]) ∧ u' = .returning ∧ w' = w := by
 refine callsD_of_wpS Tryd.func20 rfl fun c₀ cs hu => ?_
 apply wpS_seq
 apply wpS_region
 simp [wpOpsS, go_sem, recoverD, hu, Tryd.ntmps20, Exit.thenS]
 refine wpS_of_wp ?_
 change Code.wp _ _ _ ⟨#[.pointer (some ⟨gp, 0, none⟩), .pointer (some ⟨gf, 0, none⟩), .nilIface, undef, undef, .nilIface, undef, undef, undef, undef, undef, undef, undef, undef, undef, undef, undef, undef], []⟩ w
 go_wp2
 cases c₀
 simp_all [bodyPostS, results, Tryd.results20]
set_option maxHeartbeats 4000000 in
set_option maxRecDepth 100000 in
theorem catch_fault (gp gf : Nat) (f : Int × Int) (w : World) (ps qs : Array Value) (hp : w.heap[gp]? = some (.cells ps 27 (0, 0))) (hf : w.heap[gf]? = some (.cells qs 30 (0, 0))) (hps : ps.size = 5) (hqs : qs.size = 2) (hne : gp ≠ gf) :
  CallsD Tryd.prog 20 #[.pointer (some ⟨gp, 0, none⟩), .pointer (some ⟨gf, 0, none⟩)] (.panicking (ent f)) w fun e u' w' => e = .returned (.tuple #[]) ∧ (∃ pe, u' = .panicking [{ v := pe, recovered := true }]) ∧
   w'.heap[gp]? = some (.cells #[.slice none 0 0, .slice none 0 0, .string ⟨#[]⟩, .slice none 0 0, .bool false] 27 (0, 0)) ∧ w'.heap[gf]? = some (.cells #[.int .i64 f.1, .int .i64 f.2] 30 (0, 0)) ∧ Kept w w' (fun k => k = gp ∨ k = gf) ∧ (∀ wa : World, Below wa.heap.size wa w → wa.heap.size ≤ gp → wa.heap.size ≤ gf → Below wa.heap.size wa w') := by
 refine callsD_of_wpS Tryd.func20 rfl fun c₀ cs hu => ?_
 unfold ent at hu
 apply wpS_seq
 apply wpS_region
 simp [wpOpsS, go_sem, recoverD, hu, Tryd.ntmps20, Exit.thenS]
 refine wpS_of_wp ?_
 obtain ⟨c1, a1⟩ := f
 obtain ⟨fv, hfv⟩ : ∃ fv, fv = Value.iface 30 (.agg #[.int .i64 c1, .int .i64 a1]) := ⟨_, rfl⟩
 change Code.wp _ _ _ ⟨#[.pointer (some ⟨gp, 0, none⟩), .pointer (some ⟨gf, 0, none⟩), .iface 30 (.agg #[.int .i64 c1, .int .i64 a1]), undef, undef, .iface 30 (.agg #[.int .i64 c1, .int .i64 a1]), undef, undef, undef, undef, undef, undef, undef, undef, undef, undef, undef, undef], []⟩ w
 clear hfv
 have hta : ∀ w, (Instr.typeAssert (.iface 30 (.agg #[.int .i64 c1, .int .i64 a1])) 20 30 true).run Tryd.prog w = .ok (.tuple #[.agg #[.int .i64 c1, .int .i64 a1], .bool true]) w := as_fault _
 have HP := Aside0.mk hp
 have HF := Aside0.mk hf
 have HU := Aside0.mk hu
 have HPS := Aside0.mk hps
 have HQS := Aside0.mk hqs
 clear hp hf hu hps hqs
 go_upto_region 5 with (fail)
 obtain ⟨gt, hgt⟩ : ∃ gt, gt = w.heap.size := ⟨_, rfl⟩
 rw [← hgt]
 obtain ⟨w1, hw1⟩ : ∃ w1, w1 = w.alloc (.cells #[.int .i64 c1, .int .i64 a1] 30) := ⟨_, rfl⟩
 rw [← hw1]
 have hT1 : w1.heap[gt]? = some (.cells #[.int .i64 c1, .int .i64 a1] 30 (0, 0)) := by rw [hw1, hgt]; exact blk_new _ _
 have HP1 : Aside0 (w1.heap[gp]? = some (.cells ps 27 (0, 0))) := ⟨by rw [hw1]; exact blk_alloc HP.out _⟩
 have HF1 : Aside0 (w1.heap[gf]? = some (.cells qs 30 (0, 0))) := ⟨by rw [hw1]; exact blk_alloc HF.out _⟩
 have HK1 : Aside0 (Kept w w1 (fun k => k = gp ∨ k = gf)) := ⟨by rw [hw1]; exact Kept.alloc (Kept.refl _ _) _⟩
 have HW1 : Aside0 (∀ wa : World, Below wa.heap.size wa w → Below wa.heap.size wa w1.drew) := ⟨fun wa h => by rw [hw1]; exact below_drew (below_alloc h _)⟩
 have HN := Aside0.mk hne
 have HTP : Aside0 (gt ≠ gp) := ⟨by have := blk_lt HP.out; omega⟩
 have HTF : Aside0 (gt ≠ gf) := ⟨by have := blk_lt HF.out; omega⟩
 have t0 : w1.cell? ⟨gt, 0, none⟩ = some (.int .i64 c1) := blk_cell hT1 0
 have t1 : w1.cell? ⟨gt, 1, none⟩ = some (.int .i64 a1) := blk_cell hT1 1
 have HT1 := Aside0.mk hT1
 clear hgt hw1 hT1 hne
 refine start_ (n := 4) (S := fun w' => w'.cell? ⟨gt, 0, none⟩ = some (.int .i64 c1) ∧ w'.cell? ⟨gt, 1, none⟩ = some (.int .i64 a1)) (ds := [3]) #[false, false, false, false] (by kernel_rfl) rfl rfl ⟨t0, t1⟩ (fun hHeld => ?_)
 refine pure_ (i := 0) (N := some 16) (v := ?_) (a' := ?_) #[true, false, false, false] rfl rfl (by kernel_rfl) (fun _ _ _ h => h) (Or.inl ⟨by rfl, ?_⟩) ?_ ?_
 rotate_left
 ·intro w'
  go_simp
  with_reducible rfl
 rotate_left
 ·exact nTe5_
 refine take_ (i := 1) (N := some 17) (v := ?_) (a' := ?_) #[true, true, false, false] rfl rfl (by kernel_rfl) (fun _ _ _ h => h) (Or.inl ⟨by rfl, ?_⟩) hHeld ?_ ?_
 rotate_left
 ·rintro w' ⟨s0, s1⟩
  go_simp
  with_reducible rfl
 rotate_left
 ·exact nTe5_
 refine one_ (i := 2) (N := none) #[true, true, true, false] rfl rfl (by kernel_rfl) (by decide) (fun K hK => ?_)
 refine QT.storeRow_ (by rfl) rfl 27 (.tmp 0) (.tmp 16) rfl gp #[.slice none 0 0, .slice none 0 0, .string ⟨#[]⟩, .slice none 0 0, .bool false] rfl rfl 27 ps HP1.out (by kernel_rfl) (by rw [HPS.out]; rfl) (by simp [Value.oneCell']) ?_
 refine hK.out _ _ ⟨(cell_setRow_other _ _ _ _ HTP.out).trans hHeld.1, (cell_setRow_other _ _ _ _ HTP.out).trans hHeld.2⟩ (fun hHeld => ?_)
 clear hK K
 refine last_ (i := 3) (N := none) #[true, true, true, true] rfl rfl (by kernel_rfl) (by decide) (fun K hK => ?_)
 refine QT.storeRow_ (by rfl) rfl 30 (.tmp 1) (.tmp 17) rfl gf #[.int .i64 c1, .int .i64 a1] rfl rfl 30 qs ((setRow_other _ _ _ _ (Ne.symm HN.out)).trans HF1.out) (by kernel_rfl) (by rw [HQS.out]; rfl) (by simp [Value.oneCell']) ?_
 refine hK.out _ _ ?_
 clear hK K
 refine done_ (by kernel_rfl) ?_

 go_wp2
 cases c₀
 refine ⟨rfl, _, rfl, .tuple #[], by simp [results, Tryd.results20], rfl, ⟨_, rfl⟩, ?_, ?_, ?_, ?_⟩
 ·exact (setRow_other _ _ _ _ HN.out).trans (setRow_heap _ _ _ _ _ _ HP1.out)
 ·exact setRow_heap _ _ _ _ _ _ ((setRow_other _ _ _ _ (Ne.symm HN.out)).trans HF1.out)
 ·exact (HK1.out.then_ (kept_setRow _ _ _) (fun k hk => .inl (.inl hk))).then_ (kept_setRow _ _ _) (fun k hk => .inl (.inr hk))
 ·exact fun wa h h1 h2 => below_setRow (below_setRow (HW1.out wa h) h1 _) h2 _
end Go.Proofs.YtngedmioeodmfaaDoor.Ps
