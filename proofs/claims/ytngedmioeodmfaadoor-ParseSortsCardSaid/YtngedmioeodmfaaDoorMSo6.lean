/- 5 texts of the proof, put together, less what is not used; what a tool printed stands among them. -/
import Derived.Recover
import Derived.Maps.Own
import Derived.Maps.OwnOps
import Derived.Maps.Views
import Derived.Test.YtngedmioeodmfaaDoorMSo5
namespace Go.Proofs.YtngedmioeodmfaaDoor.Ps
open Go.RowKit Go.Proofs.YtngedmioeodmfaaDoor.Pr Go.Proofs.YtngedmioeodmfaaDoorW.PrintWords Go.Proofs.YtngedmioeodmfaaDoorW.PrintLast Go.Proofs.YtngedmioeodmfaaDoorW.PrintMore
set_option linter.unusedVariables false
set_option linter.unusedSimpArgs false
abbrev bxc (g : Nat) : Array Value := #[.pointer (some ⟨g, 0, none⟩)]
set_option maxHeartbeats 8000000 in
set_option maxRecDepth 100000 in
theorem close_calls (w0 W : World) (g bx : Nat) (T : List Tk) (b : Pb) (p : Nat) (deep : Int) (h : PS w0 W g T b p deep) (hbx : W.heap[bx]? = some (.cells (bxc g) 58 (0, 0))) (hne : bx ≠ g) (one : Nat → Res Cd) (hone : OneC w0 W g T b deep 83 #[.pointer (some ⟨g, 0, none⟩)] one) (hmono : ∀ p c q, one p = .ok (c, q) → p ≤ q) :
    Calls Tryd.prog 92 #[.pointer (some ⟨bx, 0, none⟩)] W (ResQ w0 W g T b deep (CondV w0 W) (closeP T b.e (orP T b.e one p))) := by
  have H := Aside0.mk h
  obtain ⟨w1, hw1⟩ : ∃ w1, w1 = W.alloc (.cells zcd 49) := ⟨_, rfl⟩
  obtain ⟨gr, hgr⟩ : ∃ gr, gr = W.heap.size := ⟨_, rfl⟩
  have HS1 : Aside0 (PS w0 w1 g T b p deep) := ⟨by rw [hw1]; exact H.out.below (below_alloc (Below.refl _ _) _)⟩
  have HK1 : Aside0 (Kept W w1 (fun k => k = g)) := ⟨by rw [hw1]; exact Kept.alloc (Kept.refl _ _) _⟩
  have HX1 : Aside0 (w1.heap[gr]? = some (.cells zcd 49 (0, 0))) := ⟨by rw [hw1, hgr]; exact blk_new _ _⟩
  have HGR : Aside0 (gr < w1.heap.size) := ⟨blk_lt HX1.out⟩
  have HGG : Aside0 (g < gr) := ⟨by rw [hgr]; exact blk_lt H.out.blk⟩
  have HWG : Aside0 (W.heap.size ≤ gr) := ⟨by omega⟩
  have HW0 : Aside0 (w0.heap.size ≤ gr) := ⟨by have := H.out.bl.size; omega⟩
  have HBX1 : Aside0 (w1.heap[bx]? = some (.cells (bxc g) 58 (0, 0))) := ⟨by rw [hw1]; exact blk_alloc hbx _⟩
  have HNE := Aside0.mk hne
  obtain ⟨R, hR⟩ : ∃ R, R = closeP T b.e (orP T b.e one p) := ⟨_, rfl⟩
  rw [← hR]
  have HRR := Aside0.mk hR
  have ho := or_calls w0 w1 g T b p deep HS1.out (kidsP T b.e 5 wAnd one) (fun p2 W2 hk2 hs2 => and_calls w0 W2 g T b p2 deep hs2 one ((hone.later HK1.out).later hk2) hmono) (kidsP_mono hmono)
  obtain ⟨r, hr⟩ : ∃ r, r = kidsP T b.e 6 wOr (kidsP T b.e 5 wAnd one) p := ⟨_, rfl⟩
  rw [← hr] at ho
  have HO := Aside0.mk ho
  have HR1 : Aside0 (orP T b.e one p = r) := ⟨hr.symm⟩
  have m0 : w1.cell? ⟨bx, 0, none⟩ = some (.pointer (some ⟨g, 0, none⟩)) := blk_cell HBX1.out 0
  clear h hbx hne hone hmono hR ho hr
  go_enter Tryd.func92, Tryd.ntmps92
  go_upto_region 1 with (fail)
  rw [← hw1, ← hgr]
  clear hw1 hgr
  go_wp2_with fail
  refine HO.out.mono ?_
  cases r with
  | error x =>
    obtain rfl : R = .error x := by rw [HRR.out, HR1.out]; rfl
    rintro e w2 ⟨rfl, hb⟩
    dsimp only
    exact ⟨rfl, rfl, hb⟩
  | ok x =>
    obtain ⟨c, q⟩ := x
    rintro e w2 ⟨v, rfl, ⟨v3, rfl, hr⟩, hs, hk⟩
    dsimp only [cdcells]
    obtain ⟨A3, c3, e3⟩ := Kd.R_slice hr
    obtain ⟨n3, hn3⟩ : ∃ n3, n3 = c.f2.length := ⟨_, rfl⟩
    rw [← hn3] at e3
    subst e3
    have HX2 := Aside0.mk (blk_kept HX1.out hk (by have := HGG.out; show gr ≠ g; omega))
    have HBX2 := Aside0.mk (blk_kept HBX1.out hk HNE.out)
    have HK2 := Aside0.mk (HK1.out.then_ hk (fun k hk => .inl hk))
    have HR2 := Aside0.mk (Kd.R_mono (ok' := fun k => gr < k) hr (fun k hk2 => by have := HGR.out; omega))
    have HS2 := Aside0.mk hs
    have HRC : Aside0 (R = closeP T b.e (.ok (c, q))) := ⟨by rw [HRR.out, HR1.out]⟩
    clear hr hs hk hn3 m0 HX1 HBX1 HS1 HK1 HO HRR HR1
    go_upto_region 2 with (fail)
    obtain ⟨w5, hw5⟩ : ∃ w5, w5 = w2.alloc (.cells (cdcells c (.slice A3 n3 c3)) 49) := ⟨_, rfl⟩
    obtain ⟨gc, hgc⟩ : ∃ gc, gc = w2.heap.size := ⟨_, rfl⟩
    have HS5 : Aside0 (PS w0 w5 g T b q deep) := ⟨by rw [hw5]; exact HS2.out.below (below_alloc (Below.refl _ _) _)⟩
    have HK5 : Aside0 (Kept W w5 (fun k => k = g)) := ⟨by rw [hw5]; exact HK2.out.alloc _⟩
    have HX5 : Aside0 (w5.heap[gr]? = some (.cells zcd 49 (0, 0))) := ⟨by rw [hw5]; exact blk_alloc HX2.out _⟩
    have HC5 : Aside0 (w5.heap[gc]? = some (.cells (cdcells c (.slice A3 n3 c3)) 49 (0, 0))) := ⟨by rw [hw5, hgc]; exact blk_new _ _⟩
    have HR5 := Aside0.mk (show k49.R 49 w5 w0.heap.size (fun k => gr < k) (.slice A3 n3 c3) c.f2 by rw [hw5]; exact Kd.R_alloc HR2.out _)
    have HGC : Aside0 (gc ≠ g) := ⟨by rw [hgc]; have := blk_lt HS2.out.blk; omega⟩
    have m5 : w5.cell? ⟨bx, 0, none⟩ = some (.pointer (some ⟨g, 0, none⟩)) := by rw [hw5]; exact blk_cell (blk_alloc HBX2.out _) 0
    change Code.wp _ _ _ _ (w2.alloc (.cells (cdcells c (.slice A3 n3 c3)) 49))
    rw [← hw5, ← hgc]
    have ht := take_calls w0 w5 g T b q deep 4 HS5.out (by decide)
    obtain ⟨r2, hr2⟩ : ∃ r2, r2 = takeP T b.e 4 q := ⟨_, rfl⟩
    rw [← hr2] at ht
    have HT := Aside0.mk ht
    have HRK : Aside0 (R = closeK c r2) := ⟨by rw [HRC.out, closeP, hr2]⟩
    clear hw5 hgc HS2 HK2 HX2 HR2 HBX2 ht hr2
    go_wp2_with fail
    refine HT.out.mono ?_
    cases r2 with
    | error x =>
      obtain rfl : R = .error x := HRK.out
      rintro e w6 ⟨rfl, hb⟩
      dsimp only
      exact ⟨rfl, rfl, hb⟩
    | ok x =>
      obtain ⟨t, q2⟩ := x
      obtain rfl : R = .ok (c, q2) := HRK.out
      rintro e w6 ⟨v, rfl, rfl, hs, hk⟩
      dsimp only
      have HX6 := Aside0.mk (blk_kept HX5.out hk (by have := HGG.out; show gr ≠ g; omega))
      have HC6 := Aside0.mk (blk_kept HC5.out hk HGC.out)
      have HK6 := Aside0.mk (HK5.out.then_ hk (fun k hk => .inl hk))
      have HR6 := Aside0.mk (Kd.R_kept HR5.out hk (fun k hk => by have := HGG.out; show k ≠ g; omega))
      have HS6 := Aside0.mk hs
      clear hs hk HT m5
      go_wp2_with (first
        | refine wpList_load_row rfl 49 _ rfl gc rfl 49 (cdcells c (.slice A3 n3 c3)) (0, 0) _ HC6.out Tryd.underlying49 rfl size_cd ?_
        | refine wpList_store_row rfl 49 _ _ rfl gr (cdcells c (.slice A3 n3 c3)) rfl rfl 49 _ HX6.out size_cd rfl (cd_one _ _ rfl) ?_)
      exact bodyPost_ret (ret_row rfl _ _ gr 49 (cdcells c (.slice A3 n3 c3)) (0, 0) rfl (setRow_heap _ _ _ _ _ _ HX6.out) Tryd.underlying49 size_cd) rfl (fin_cond HGG.out HWG.out HW0.out HR6.out HS6.out HK6.out)
set_option maxHeartbeats 8000000 in
set_option maxRecDepth 100000 in
theorem not_step (w0 W : World) (g : Nat) (T : List Tk) (b : Pb) (p : Nat) (deep : Int) (h : PS w0 W g T b p deep) (hd0 : 0 ≤ deep) (hd : deep ≤ 30) (hsz : ∀ t ∈ T, t.f2.size ≤ 1000000) (one : Nat → Res Cd)
    (hone : deep < 30 → ∀ p W, PS w0 W g T b p (deep + 1) → Calls Tryd.prog 83 #[.pointer (some ⟨g, 0, none⟩)] W (ResQ w0 W g T b (deep + 1) (CondV w0 W) (one p))) (hmono : ∀ p c q, one p = .ok (c, q) → p ≤ q) :
    Calls Tryd.prog 83 #[.pointer (some ⟨g, 0, none⟩)] W (ResQ w0 W g T b deep (CondV w0 W) (notR T b.e deep one p)) := by
  have H := Aside0.mk h
  obtain ⟨w1, hw1⟩ : ∃ w1, w1 = (W.alloc (.cells (bxc g) 58)).alloc (.cells zcd 49) := ⟨_, rfl⟩
  obtain ⟨bx, hbx⟩ : ∃ bx, bx = W.heap.size := ⟨_, rfl⟩
  obtain ⟨gr, hgr⟩ : ∃ gr, gr = bx + 1 := ⟨_, rfl⟩
  have HS1 : Aside0 (PS w0 w1 g T b p deep) := ⟨by rw [hw1]; exact (H.out.below (below_alloc (Below.refl _ _) _)).below (below_alloc (Below.refl _ _) _)⟩
  have HK1 : Aside0 (Kept W w1 (fun k => k = g)) := ⟨by rw [hw1]; exact Kept.alloc (Kept.alloc (Kept.refl _ _) _) _⟩
  have HB1 : Aside0 (w1.heap[bx]? = some (.cells (bxc g) 58 (0, 0))) := ⟨by rw [hw1, hbx]; exact blk_alloc (blk_new _ _) _⟩
  have HX1 : Aside0 (w1.heap[gr]? = some (.cells zcd 49 (0, 0))) := ⟨by
    have := blk_new (W.alloc (.cells (bxc g) 58)) (.cells zcd 49)
    rw [hw1, hgr, hbx, show W.heap.size + 1 = (W.alloc (.cells (bxc g) 58)).heap.size by simp]; exact this⟩
  have HGG : Aside0 (g < bx) := ⟨by rw [hbx]; exact blk_lt H.out.blk⟩
  have HGR0 : Aside0 (g < gr) := ⟨by have := HGG.out; omega⟩
  have HWG : Aside0 (W.heap.size ≤ gr) := ⟨by omega⟩
  have HW0 : Aside0 (w0.heap.size ≤ gr) := ⟨by have := H.out.bl.size; omega⟩
  have HNE : Aside0 (bx ≠ g) := ⟨by have := HGG.out; omega⟩
  have HGRX : Aside0 (gr ≠ g) := ⟨by have := HGR0.out; omega⟩
  have hsz1 : w1.heap.size = gr + 1 := by rw [hw1, hgr, hbx]; simp
  have HONE := Aside0.mk hone
  have HM := Aside0.mk hmono
  have HSZ := Aside0.mk hsz
  have HD := Aside0.mk (And.intro hd0 hd)
  obtain ⟨R, hR⟩ : ∃ R, R = notR T b.e deep one p := ⟨_, rfl⟩
  rw [← hR]
  have HRR : Aside0 (R = if isP T b.e [wNot] p then wrapNot (if deep < 30 then one (p + 1) else .error (2, (nxt T b.e p).f1)) else if (nxt T b.e p).f0 = 3 then (if deep < 30 then closeP T b.e (orP T b.e one (p + 1)) else .error (2, (nxt T b.e p).f1)) else atomP T b.e p) := ⟨hR⟩
  have hi := is_calls w0 (w1.alloc (.cells (encs Value.string [wNot]).toArray 9)) g T b p deep (HS1.out.below (below_alloc (Below.refl _ _) _)) (some ⟨w1.heap.size, 0, none⟩) 1 1 [wNot] (lit_strs w1 [wNot] (by decide)) rfl (Nat.le_refl _) (by decide)
  obtain ⟨i, hii⟩ : ∃ i, i = isP T b.e [wNot] p := ⟨_, rfl⟩
  rw [← hii, hsz1] at hi
  have HI : Aside0 (Calls Tryd.prog 45 #[.pointer (some ⟨g, 0, none⟩), .slice (some ⟨gr + 1, 0, none⟩) 1 1] (w1.alloc (.cells #[.string ⟨#[110, 111, 116]⟩] 9)) (fun e w' => e = .returned (.bool i) ∧ Below (w1.alloc (.cells #[.string ⟨#[110, 111, 116]⟩] 9)).heap.size (w1.alloc (.cells #[.string ⟨#[110, 111, 116]⟩] 9)) w')) := ⟨hi⟩
  have HII := Aside0.mk hii
  have m1 : w1.cell? ⟨bx, 0, none⟩ = some (.pointer (some ⟨g, 0, none⟩)) := blk_cell HB1.out 0
  have hmf := hmf
  clear h hone hmono hsz hd0 hd hR hi hii
  go_enter Tryd.func83, Tryd.ntmps83
  go_upto_region 1 with (fail)
  rw [← hw1, ← hbx]
  rw [show bx + 1 = gr by omega]
  clear hw1 hbx hgr
  go_wp2_with fail
  refine HI.out.mono ?_
  rintro e w2 ⟨rfl, hb⟩
  dsimp only
  have hbb : Below w1.heap.size w1 w2 := (below_alloc (Below.refl _ _) _).trans (hb.mono (below_alloc (Below.refl _ _) _).size)
  have HS2 := Aside0.mk (HS1.out.below hbb)
  have HK2 := Aside0.mk (HK1.out.below hbb)
  have HB2 := Aside0.mk (blk_below HB1.out hbb)
  have HX2 := Aside0.mk (blk_below HX1.out hbb)
  have m2 : w2.cell? ⟨bx, 0, none⟩ = some (.pointer (some ⟨g, 0, none⟩)) := blk_cell HB2.out 0
  clear hb hbb m1 HS1 HK1 HB1 HX1 HI
  cases i
  · have hn := next_calls w0 w2 g T b p deep HS2.out
    have HRF : Aside0 (R = if (nxt T b.e p).f0 = 3 then (if deep < 30 then closeP T b.e (orP T b.e one (p + 1)) else .error (2, (nxt T b.e p).f1)) else atomP T b.e p) := ⟨by rw [HRR.out, ← HII.out]; rfl⟩
    have HP0 : Aside0 ((nxt T b.e p).f0 = 3 → p < T.length) := ⟨fun h => by
      apply Classical.byContradiction; intro hp; rw [nxt, dif_neg hp] at h; exact absurd (show (0 : Int) = 3 from h) (by decide)⟩
    obtain ⟨t, ht⟩ : ∃ t, t = nxt T b.e p := ⟨_, rfl⟩
    rw [← ht] at hn HRF HP0
    have HT_ := Aside0.mk ht
    have HN := Aside0.mk hn
    clear hn ht HRR HII
    obtain ⟨k0, p0, s0⟩ := t
    dsimp only at HRF HP0
    go_wp2_with fail
    refine HN.out.mono ?_
    rintro e w3 ⟨rfl, hb⟩
    dsimp only [tkcells]
    have HS3 := Aside0.mk (HS2.out.below hb)
    have HK3 := Aside0.mk (HK2.out.below hb)
    have HB3 := Aside0.mk (blk_below HB2.out hb)
    have HX3 := Aside0.mk (blk_below HX2.out hb)
    have m3 : w3.cell? ⟨bx, 0, none⟩ = some (.pointer (some ⟨g, 0, none⟩)) := blk_cell HB3.out 0
    have HGX : Aside0 (gr < w3.heap.size) := ⟨blk_lt HX3.out⟩
    clear hb m2 HS2 HK2 HB2 HX2 HN
    by_cases hk : k0 = 3
    · have l1 : (k0 == (3 : Int)) = true := by simp [hk]
      have hp := HP0.out hk
      have hd3 := deeper_close w0 w3 g bx T b p deep HS3.out HD.out.1 HD.out.2 hp (fun q => closeP T b.e (orP T b.e one q)) (fun h30 p2 W2 hk2 hs2 => close_calls w0 W2 g bx T b p2 (deep + 1) hs2 (blk_kept HB3.out hk2 HNE.out) HNE.out one (fun p3 W3 hk3 hs3 => HONE.out h30 p3 W3 hs3) HM.out)
      have hr : R = (if deep < 30 then closeP T b.e (orP T b.e one (p + 1)) else .error (2, (nxt T b.e p).f1)) := by rw [HRF.out, if_pos hk, ← HT_.out]
      have HD3 : Aside0 (Calls Tryd.prog 91 #[.pointer (some ⟨g, 0, none⟩), .func (Fn.func 92) #[] #[.pointer (some ⟨bx, 0, none⟩)]] w3 (ResQ w0 w3 g T b deep (CondV w0 w3) R)) := ⟨by rw [hr]; exact hd3⟩
      clear hk hp hd3 hr HRF HP0
      go_wp2
      rename_i Kf hKf
      refine hKf _ _ ?_
      simp only [List.getElem_toArray, List.getElem_cons_succ, List.getElem_cons_zero]
      go_wp2_with fail
      refine HD3.out.mono ?_
      cases R with
      | error x =>
        rintro e w4 ⟨rfl, hb⟩
        dsimp only
        exact ⟨rfl, rfl, hb⟩
      | ok x =>
        obtain ⟨c, q⟩ := x
        rintro e w4 ⟨v, rfl, ⟨v3, rfl, hr⟩, hs, hk⟩
        dsimp only
        have HX4 := Aside0.mk (blk_kept HX3.out hk HGRX.out)
        have HK4 := Aside0.mk (HK3.out.then_ hk (fun k hk => .inl hk))
        have HR4 := Aside0.mk (Kd.R_mono (ok' := fun k => gr < k) hr (fun k hk2 => by have := HGX.out; omega))
        have HS4 := Aside0.mk hs
        clear hr hs hk m3
        go_wp2_with (refine wpList_store_row rfl 49 _ _ rfl gr (cdcells c v3) rfl rfl 49 _ HX4.out size_cd rfl (cd_one _ _ (R_cell1 HR4.out)) ?_)
        exact bodyPost_ret (ret_row rfl _ _ gr 49 (cdcells c v3) (0, 0) rfl (setRow_heap _ _ _ _ _ _ HX4.out) Tryd.underlying49 size_cd) rfl (fin_cond HGR0.out HWG.out HW0.out HR4.out HS4.out HK4.out)
    · have l1 : (k0 == (3 : Int)) = false := by simp [hk]
      have ha := atom_calls w0 w3 g T b p deep HS3.out HSZ.out
      have hr : atomP T b.e p = R := by rw [HRF.out, if_neg hk]
      rw [hr] at ha
      have HA := Aside0.mk ha
      clear hk ha hr HRF HP0
      go_wp2
      rename_i Kf hKf
      refine hKf _ _ ?_
      simp only [List.getElem_toArray, List.getElem_cons_succ, List.getElem_cons_zero]
      go_wp2_with fail
      refine HA.out.mono ?_
      cases R with
      | error x =>
        rintro e w4 ⟨rfl, hb⟩
        dsimp only
        exact ⟨rfl, rfl, hb⟩
      | ok x =>
        obtain ⟨c, q⟩ := x
        rintro e w4 ⟨v, rfl, ⟨v3, rfl, hr⟩, hs, hk⟩
        dsimp only
        have HX4 := Aside0.mk (blk_kept HX3.out hk HGRX.out)
        have HK4 := Aside0.mk (HK3.out.then_ hk (fun k hk => .inl hk))
        have HR4 := Aside0.mk (Kd.R_mono (ok' := fun k => gr < k) hr (fun k hk2 => by have := HGX.out; omega))
        have HS4 := Aside0.mk hs
        clear hr hs hk m3
        go_wp2_with (refine wpList_store_row rfl 49 _ _ rfl gr (cdcells c v3) rfl rfl 49 _ HX4.out size_cd rfl (cd_one _ _ (R_cell1 HR4.out)) ?_)
        exact bodyPost_ret (ret_row rfl _ _ gr 49 (cdcells c v3) (0, 0) rfl (setRow_heap _ _ _ _ _ _ HX4.out) Tryd.underlying49 size_cd) rfl (fin_cond HGR0.out HWG.out HW0.out HR4.out HS4.out HK4.out)
  · have hp := isP_lt HII.out.symm
    have hd2 := deeper_not w0 w2 g T b p deep HS2.out HD.out.1 HD.out.2 hp one (fun h30 p2 W2 hk2 hs2 => HONE.out h30 p2 W2 hs2)
    obtain ⟨r2, hr2⟩ : ∃ r2 : Res Cd, r2 = (if deep < 30 then one (p + 1) else .error (2, (nxt T b.e p).f1)) := ⟨_, rfl⟩
    rw [← hr2] at hd2
    have HD2 := Aside0.mk hd2
    have HRW : Aside0 (R = wrapNot r2) := ⟨by rw [HRR.out, ← HII.out, hr2]; rfl⟩
    have HGX : Aside0 (gr < w2.heap.size) := ⟨blk_lt HX2.out⟩
    clear hp hd2 hr2 HRR HII
    go_wp2_with fail
    refine HD2.out.mono ?_
    cases r2 with
    | error x =>
      obtain rfl : R = .error x := HRW.out
      rintro e w4 ⟨rfl, hb⟩
      dsimp only
      exact ⟨rfl, rfl, hb⟩
    | ok x =>
      obtain ⟨c, q⟩ := x
      obtain rfl : R = .ok (cond0 4 [c], q) := HRW.out
      rintro e w4 ⟨v, rfl, ⟨v3, rfl, hr⟩, hs, hk⟩
      dsimp only [cdcells]
      obtain ⟨A3, c3, e3⟩ := Kd.R_slice hr
      obtain ⟨n3, hn3⟩ : ∃ n3, n3 = c.f2.length := ⟨_, rfl⟩
      rw [← hn3] at e3
      subst e3
      have HX4 := Aside0.mk (blk_kept HX2.out hk HGRX.out)
      have HK4 := Aside0.mk (HK2.out.then_ hk (fun k hk => .inl hk))
      have HS4 := Aside0.mk hs
      have HL4 : Aside0 (k49.R 49 (w4.alloc (.cells (cdcells c (.slice A3 n3 c3)) 49)) w0.heap.size (fun k => gr < k) (.slice (some ⟨w4.heap.size, 0, none⟩) 1 1) [c]) := ⟨row_one w4 w0.heap.size c (.slice A3 n3 c3) _ _ hr (fun k hk2 => by have := HGX.out; omega) (by have := hk.1; have := HGX.out; omega) hs.bl.size⟩
      obtain ⟨w5, hw5⟩ : ∃ w5, w5 = w4.alloc (.cells (cdcells c (.slice A3 n3 c3)) 49) := ⟨_, rfl⟩
      obtain ⟨gl, hgl⟩ : ∃ gl, gl = w4.heap.size := ⟨_, rfl⟩
      rw [← hw5, ← hgl] at HL4
      have HS5 : Aside0 (PS w0 w5 g T b q deep) := ⟨by rw [hw5]; exact HS4.out.below (below_alloc (Below.refl _ _) _)⟩
      have HK5 : Aside0 (Kept W w5 (fun k => k = g)) := ⟨by rw [hw5]; exact HK4.out.alloc _⟩
      have HX5 : Aside0 (w5.heap[gr]? = some (.cells zcd 49 (0, 0))) := ⟨by rw [hw5]; exact blk_alloc HX4.out _⟩
      have HW5 := Aside0.mk hw5
      have HGL := Aside0.mk hgl
      clear hr hs hk hn3 m2 hw5 hgl
      go_wp2_with (
        (try change wpList _ _ _ _ _ (w4.alloc (.cells (cdcells c (.slice A3 n3 c3)) 49)));
        (try rw [← HW5.out, ← HGL.out]);
        (refine wpList_store_row rfl 49 _ _ rfl gr (cdcells (cond0 4 [c]) (.slice (some ⟨gl, 0, none⟩) 1 1)) rfl rfl 49 _ HX5.out size_cd rfl (cd_one _ _ rfl) ?_))
      exact bodyPost_ret (ret_row rfl _ _ gr 49 (cdcells (cond0 4 [c]) (.slice (some ⟨gl, 0, none⟩) 1 1)) (0, 0) rfl (setRow_heap _ _ _ _ _ _ HX5.out) Tryd.underlying49 size_cd) rfl (fin_cond HGR0.out HWG.out HW0.out HL4.out HS5.out HK5.out)
end Go.Proofs.YtngedmioeodmfaaDoor.Ps
namespace Go.Proofs.YtngedmioeodmfaaDoor.Ps
open Go.RowKit Go.Proofs.YtngedmioeodmfaaDoor.Pr Go.Proofs.YtngedmioeodmfaaDoorW.PrintWords Go.Proofs.YtngedmioeodmfaaDoorW.PrintLast Go.Proofs.YtngedmioeodmfaaDoorW.PrintMore
set_option linter.unusedVariables false
set_option linter.unusedSimpArgs false
theorem takeP_mono {T : List Tk} {e k : Int} {p q : Nat} {t : ByteArray} (h : takeP T e k p = .ok (t, q)) : q = p + 1 := by
  rw [takeP] at h
  split at h <;> cases h
  rfl
theorem wordP_mono {T : List Tk} {e : Int} {ws : List ByteArray} {p q : Nat} {t : ByteArray} (h : wordP T e ws p = .ok (t, q)) : q = p + 1 := by
  rw [wordP] at h
  split at h
  · exact takeP_mono h
  · cases h
theorem atomT_mono {w : ByteArray} {f : ByteArray → ByteArray} {r : Res ByteArray} {c : Cd} {q : Nat} (h : atomT w f r = .ok (c, q)) : ∃ t, r = .ok (t, q) := by
  cases r with
  | error x => cases h
  | ok x => obtain ⟨t, q'⟩ := x; cases h; exact ⟨t, rfl⟩
theorem atomP_mono {T : List Tk} {e : Int} : ∀ p c q, atomP T e p = .ok (c, q) → p ≤ q := fun p c q h => by
  rw [atomP] at h
  split at h
  · cases h
  · rename_i w q1 h1
    have e1 := wordP_mono h1
    unfold atomK at h
    have key : ∀ {f : ByteArray → ByteArray} {k : Int}, atomT w f (takeP T e k q1) = .ok (c, q) → p ≤ q := fun h => by
      obtain ⟨t, ht⟩ := atomT_mono h
      have := takeP_mono ht
      omega
    repeat' split at h
    all_goals first | exact key h | (cases h; omega)
theorem notR_mono {T : List Tk} {e : Int} {deep : Int} {one : Nat → Res Cd} (hmono : ∀ p c q, one p = .ok (c, q) → p ≤ q) : ∀ p c q, notR T e deep one p = .ok (c, q) → p ≤ q := fun p c q h => by
  unfold notR at h
  split at h
  · split at h
    · cases ho : one (p + 1) with
      | error x => rw [ho] at h; cases h
      | ok x =>
        obtain ⟨c1, q1⟩ := x
        rw [ho] at h
        cases h
        have := hmono _ _ _ ho
        omega
    · cases h
  · split at h
    · split at h
      · cases ho : orP T e one (p + 1) with
        | error x => rw [ho] at h; cases h
        | ok x =>
          obtain ⟨c1, q1⟩ := x
          rw [ho] at h
          have h1 := kidsP_mono (kidsP_mono hmono) _ _ _ ho
          cases ht : takeP T e 4 q1 with
          | error x => rw [closeP, ht] at h; cases h
          | ok x =>
            obtain ⟨t, q2⟩ := x
            rw [closeP, ht] at h
            cases h
            have := takeP_mono ht
            omega
      · cases h
    · exact atomP_mono _ _ _ h
theorem notN_zero (T : List Tk) (e : Int) (p : Nat) : notN T e 0 p = notR T e 30 (fun _ => .error (0, 0)) p := by
  unfold notN notR
  split
  · rw [if_neg (by decide)]; rfl
  · split
    · rw [if_neg (by decide)]
    · rfl
theorem notN_succ (T : List Tk) (e : Int) (n : Nat) (p : Nat) : notN T e (n + 1) p = notR T e (30 - ((n + 1 : Nat) : Int)) (notN T e n) p := by
  have h : (30 : Int) - ((n + 1 : Nat) : Int) < 30 := by omega
  rw [notN]
  unfold notR
  simp only [if_pos h]
theorem notN_mono (T : List Tk) (e : Int) : ∀ n p c q, notN T e n p = .ok (c, q) → p ≤ q
  | 0, p, c, q, h => notR_mono (one := fun _ => .error (0, 0)) (fun _ _ _ h => by cases h) p c q (by rw [← notN_zero]; exact h)
  | n + 1, p, c, q, h => notR_mono (notN_mono T e n) p c q (by rw [← notN_succ]; exact h)
theorem not_calls (w0 : World) (g : Nat) (T : List Tk) (b : Pb) (hsz : ∀ t ∈ T, t.f2.size ≤ 1000000) : ∀ (n : Nat), n ≤ 30 → ∀ (p : Nat) (W : World), PS w0 W g T b p (30 - (n : Int)) →
    Calls Tryd.prog 83 #[.pointer (some ⟨g, 0, none⟩)] W (ResQ w0 W g T b (30 - (n : Int)) (CondV w0 W) (notN T b.e n p))
  | 0, _, p, W, h => by
    rw [notN_zero]
    exact not_step w0 W g T b p 30 h (by decide) (by decide) hsz _ (fun h => absurd h (by decide)) (fun _ _ _ h => by cases h)
  | n + 1, hn, p, W, h => by
    rw [notN_succ]
    have e1 : (30 : Int) - ((n + 1 : Nat) : Int) + 1 = 30 - (n : Int) := by omega
    refine not_step w0 W g T b p _ h (by omega) (by omega) hsz _ (fun _ p2 W2 h2 => ?_) (notN_mono T b.e n)
    rw [e1] at h2 ⊢
    exact not_calls w0 g T b hsz n (by omega) p2 W2 h2
/-- A condition, at depth 0. -/
def condP (T : List Tk) (e : Int) (p : Nat) : Res Cd := orP T e (notN T e 30) p
theorem cond_calls (w0 W : World) (g : Nat) (T : List Tk) (b : Pb) (p : Nat) (h : PS w0 W g T b p 0) (hsz : ∀ t ∈ T, t.f2.size ≤ 1000000) :
    Calls Tryd.prog 50 #[.pointer (some ⟨g, 0, none⟩)] W (ResQ w0 W g T b 0 (CondV w0 W) (condP T b.e p)) :=
  or_calls w0 W g T b p 0 h (kidsP T b.e 5 wAnd (notN T b.e 30)) (fun p2 W2 hk2 hs2 => and_calls w0 W2 g T b p2 0 hs2 (notN T b.e 30) (fun p3 W3 hk3 hs3 => not_calls w0 g T b hsz 30 (by decide) p3 W3 hs3) (notN_mono T b.e 30)) (kidsP_mono (notN_mono T b.e 30))
theorem condP_mono (T : List Tk) (e : Int) : ∀ p c q, condP T e p = .ok (c, q) → p ≤ q := kidsP_mono (kidsP_mono (notN_mono T e 30))
end Go.Proofs.YtngedmioeodmfaaDoor.Ps
namespace Go.Proofs.YtngedmioeodmfaaDoor.Ps
open Go.RowKit Go.Proofs.YtngedmioeodmfaaDoor.Pr Go.Proofs.YtngedmioeodmfaaDoorW.PrintWords Go.Proofs.YtngedmioeodmfaaDoorW.PrintLast Go.Proofs.YtngedmioeodmfaaDoorW.PrintMore
set_option linter.unusedVariables false
set_option linter.unusedSimpArgs false
theorem as_fault (v : Value) (w : World) : (Instr.typeAssert (.iface 30 v) 20 30 true).run Tryd.prog w = .ok (.tuple #[v, .bool true]) w := by kernel_rfl
attribute [local go_sem] as_fault
set_option maxRecDepth 100000 in
theorem catch_idle (gp gf : Nat) (w : World) :
    CallsD Tryd.prog 20 #[.pointer (some ⟨gp, 0, none⟩), .pointer (some ⟨gf, 0, none⟩)] .returning w fun e u' w' => e = .returned (.tuple #[]) ∧ u' = .returning ∧ w' = w := by
  refine callsD_of_wpS Tryd.func20 rfl fun c₀ cs hu => ?_
  apply wpS_seq
  apply wpS_region
  simp [wpOpsS, go_sem, recoverD, hu, Tryd.ntmps20, Exit.thenS]
  refine wpS_of_wp ?_
  change Code.wp _ _ _ ⟨#[.pointer (some ⟨gp, 0, none⟩), .pointer (some ⟨gf, 0, none⟩), .nilIface, undef, undef, .nilIface, undef, undef, undef, undef, undef, undef, undef, undef, undef, undef, undef, undef], []⟩ w
  go_wp2
  cases c₀
  simp_all [bodyPostS, results, Tryd.results20]
set_option maxHeartbeats 4000000 in
set_option maxRecDepth 100000 in
theorem catch_fault (gp gf : Nat) (f : Int × Int) (w : World) (ps qs : Array Value) (hp : w.heap[gp]? = some (.cells ps 27 (0, 0))) (hf : w.heap[gf]? = some (.cells qs 30 (0, 0))) (hps : ps.size = 5) (hqs : qs.size = 2) (hne : gp ≠ gf) :
    CallsD Tryd.prog 20 #[.pointer (some ⟨gp, 0, none⟩), .pointer (some ⟨gf, 0, none⟩)] (.panicking (ent f)) w fun e u' w' => e = .returned (.tuple #[]) ∧ (∃ pe, u' = .panicking [{ v := pe, recovered := true }]) ∧
      w'.heap[gp]? = some (.cells #[.slice none 0 0, .slice none 0 0, .string ⟨#[]⟩, .slice none 0 0, .bool false] 27 (0, 0)) ∧ w'.heap[gf]? = some (.cells #[.int .i64 f.1, .int .i64 f.2] 30 (0, 0)) ∧ Kept w w' (fun k => k = gp ∨ k = gf) ∧ (∀ wa : World, Below wa.heap.size wa w → wa.heap.size ≤ gp → wa.heap.size ≤ gf → Below wa.heap.size wa w') := by
  refine callsD_of_wpS Tryd.func20 rfl fun c₀ cs hu => ?_
  unfold ent at hu
  apply wpS_seq
  apply wpS_region
  simp [wpOpsS, go_sem, recoverD, hu, Tryd.ntmps20, Exit.thenS]
  refine wpS_of_wp ?_
  obtain ⟨c1, a1⟩ := f
  obtain ⟨fv, hfv⟩ : ∃ fv, fv = Value.iface 30 (.agg #[.int .i64 c1, .int .i64 a1]) := ⟨_, rfl⟩
  change Code.wp _ _ _ ⟨#[.pointer (some ⟨gp, 0, none⟩), .pointer (some ⟨gf, 0, none⟩), .iface 30 (.agg #[.int .i64 c1, .int .i64 a1]), undef, undef, .iface 30 (.agg #[.int .i64 c1, .int .i64 a1]), undef, undef, undef, undef, undef, undef, undef, undef, undef, undef, undef, undef], []⟩ w
  clear hfv
  have hta : ∀ w, (Instr.typeAssert (.iface 30 (.agg #[.int .i64 c1, .int .i64 a1])) 20 30 true).run Tryd.prog w = .ok (.tuple #[.agg #[.int .i64 c1, .int .i64 a1], .bool true]) w := as_fault _
  have HP := Aside0.mk hp
  have HF := Aside0.mk hf
  have HU := Aside0.mk hu
  have HPS := Aside0.mk hps
  have HQS := Aside0.mk hqs
  clear hp hf hu hps hqs
  go_upto_region 5 with (fail)
  obtain ⟨gt, hgt⟩ : ∃ gt, gt = w.heap.size := ⟨_, rfl⟩
  rw [← hgt]
  obtain ⟨w1, hw1⟩ : ∃ w1, w1 = w.alloc (.cells #[.int .i64 c1, .int .i64 a1] 30) := ⟨_, rfl⟩
  rw [← hw1]
  have hT1 : w1.heap[gt]? = some (.cells #[.int .i64 c1, .int .i64 a1] 30 (0, 0)) := by rw [hw1, hgt]; exact blk_new _ _
  have HP1 : Aside0 (w1.heap[gp]? = some (.cells ps 27 (0, 0))) := ⟨by rw [hw1]; exact blk_alloc HP.out _⟩
  have HF1 : Aside0 (w1.heap[gf]? = some (.cells qs 30 (0, 0))) := ⟨by rw [hw1]; exact blk_alloc HF.out _⟩
  have HK1 : Aside0 (Kept w w1 (fun k => k = gp ∨ k = gf)) := ⟨by rw [hw1]; exact Kept.alloc (Kept.refl _ _) _⟩
  have HW1 : Aside0 (∀ wa : World, Below wa.heap.size wa w → Below wa.heap.size wa w1.drew) := ⟨fun wa h => by rw [hw1]; exact below_drew (below_alloc h _)⟩
  have HN := Aside0.mk hne
  have HTP : Aside0 (gt ≠ gp) := ⟨by have := blk_lt HP.out; omega⟩
  have HTF : Aside0 (gt ≠ gf) := ⟨by have := blk_lt HF.out; omega⟩
  have t0 : w1.cell? ⟨gt, 0, none⟩ = some (.int .i64 c1) := blk_cell hT1 0
  have t1 : w1.cell? ⟨gt, 1, none⟩ = some (.int .i64 a1) := blk_cell hT1 1
  have HT1 := Aside0.mk hT1
  clear hgt hw1 hT1 hne
  refine start_ (n := 4) (S := fun w' => w'.cell? ⟨gt, 0, none⟩ = some (.int .i64 c1) ∧ w'.cell? ⟨gt, 1, none⟩ = some (.int .i64 a1)) (ds := [3]) #[false, false, false, false] (by kernel_rfl) rfl rfl ⟨t0, t1⟩ (fun hHeld => ?_)
  refine pure_ (i := 0) (N := some 16) (v := ?_) (a' := ?_) #[true, false, false, false] rfl rfl (by kernel_rfl) (fun _ _ _ h => h) (Or.inl ⟨by rfl, ?_⟩) ?_ ?_
  rotate_left
  · intro w'
    go_simp
    with_reducible rfl
  rotate_left
  · simp only [Act.put, List.setIfInBounds_toArray, List.set_cons_zero, List.set_cons_succ, i64_w, i32_w]
    rfl
  refine take_ (i := 1) (N := some 17) (v := ?_) (a' := ?_) #[true, true, false, false] rfl rfl (by kernel_rfl) (fun _ _ _ h => h) (Or.inl ⟨by rfl, ?_⟩) hHeld ?_ ?_
  rotate_left
  · rintro w' ⟨s0, s1⟩
    go_simp
    with_reducible rfl
  rotate_left
  · simp only [Act.put, List.setIfInBounds_toArray, List.set_cons_zero, List.set_cons_succ, i64_w, i32_w]
    rfl
  refine one_ (i := 2) (N := none) #[true, true, true, false] rfl rfl (by kernel_rfl) (by decide) (fun K hK => ?_)
  refine QT.storeRow_ (by rfl) rfl 27 (.tmp 0) (.tmp 16) rfl gp #[.slice none 0 0, .slice none 0 0, .string ⟨#[]⟩, .slice none 0 0, .bool false] rfl rfl 27 ps HP1.out (by kernel_rfl) (by rw [HPS.out]; rfl) (by simp [Value.oneCell']) ?_
  refine hK.out _ _ ⟨(cell_setRow_other _ _ _ _ HTP.out).trans hHeld.1, (cell_setRow_other _ _ _ _ HTP.out).trans hHeld.2⟩ (fun hHeld => ?_)
  clear hK K
  refine last_ (i := 3) (N := none) #[true, true, true, true] rfl rfl (by kernel_rfl) (by decide) (fun K hK => ?_)
  refine QT.storeRow_ (by rfl) rfl 30 (.tmp 1) (.tmp 17) rfl gf #[.int .i64 c1, .int .i64 a1] rfl rfl 30 qs ((setRow_other _ _ _ _ (Ne.symm HN.out)).trans HF1.out) (by kernel_rfl) (by rw [HQS.out]; rfl) (by simp [Value.oneCell']) ?_
  refine hK.out _ _ ?_
  clear hK K
  refine done_ (by kernel_rfl) ?_

  go_wp2
  cases c₀
  refine ⟨rfl, _, rfl, .tuple #[], by simp [results, Tryd.results20], rfl, ⟨_, rfl⟩, ?_, ?_, ?_, ?_⟩
  · exact (setRow_other _ _ _ _ HN.out).trans (setRow_heap _ _ _ _ _ _ HP1.out)
  · exact setRow_heap _ _ _ _ _ _ ((setRow_other _ _ _ _ (Ne.symm HN.out)).trans HF1.out)
  · exact (HK1.out.then_ (kept_setRow _ _ _) (fun k hk => .inl (.inl hk))).then_ (kept_setRow _ _ _) (fun k hk => .inl (.inr hk))
  · exact fun wa h h1 h2 => below_setRow (below_setRow (HW1.out wa h) h1 _) h2 _
end Go.Proofs.YtngedmioeodmfaaDoor.Ps
namespace Go.Proofs.YtngedmioeodmfaaDoor.Ps
open Go.RowKit Go.Proofs.YtngedmioeodmfaaDoor.Pr Go.Proofs.YtngedmioeodmfaaDoorW.PrintWords Go.Proofs.YtngedmioeodmfaaDoorW.PrintLast Go.Proofs.YtngedmioeodmfaaDoorW.PrintMore
set_option linter.unusedVariables false
set_option linter.unusedSimpArgs false
def shcells (s : Sh) (v1 v2 : Value) : Array Value := #[.string s.f0, v1, v2, .bool s.f3]
theorem size_sh : (Tryd.prog.info? 44).map (·.size) = some 4 := by kernel_rfl
def ShareQ (w0 W : World) (g : Nat) (T : List Tk) (b : Pb) (deep : Int) (okS : Nat → Prop) (shs : List Sh) (r : Res Sh) (e : Ending) (w' : World) : Prop :=
  match r with
  | .ok (s, q) => e = .returned (.tuple #[]) ∧ ∃ v4', PS w0 w' g T { b with v4 := v4' } q deep ∧ k44.R 44 w' w0.heap.size okS v4' (shs ++ [s]) ∧ Kept W w' (fun k => k = g ∨ b.v4.ownBlock = some k)
  | .error f => Failed w0 f e w'
theorem info_sh : (Tryd.prog.info? 44).map (fun i => (i.zero, i.size, i.bytes)) = some (some (.agg #[.string ⟨#[]⟩, .slice none 0 0, .slice none 0 0, .bool false]), k44.sz, 72) := by kernel_rfl
def shareM (T : List Tk) (e : Int) (f : Nat) (s : Sh) : Res ByteArray → Res Sh
  | .error x => .error x
  | .ok (t, r) => shareL T e f ⟨s.f0, s.f1 ++ [t], s.f2, s.f3⟩ r
def shareH (T : List Tk) (e : Int) (f : Nat) (s : Sh) : Res ByteArray → Res Sh
  | .error x => .error x
  | .ok (t, r) => shareL T e f ⟨s.f0, s.f1, s.f2 ++ [t], s.f3⟩ r
def shareK (T : List Tk) (e : Int) (f : Nat) (s : Sh) : Res ByteArray → Res Sh
  | .error x => .error x
  | .ok (w, q) => if w = wMethod then shareM T e f s (takeP T e 1 q) else if w = wHeader then shareH T e f s (takeP T e 1 q) else shareL T e f ⟨s.f0, s.f1, s.f2, true⟩ q
theorem shareL_succ (T : List Tk) (e : Int) (f : Nat) (s : Sh) (p : Nat) (h : true = isP T e [wMethod, wHeader, wCreds] p) : shareL T e (f + 1) s p = shareK T e f s (takeP T e 1 p) := by
  rw [shareL, ← h, if_pos rfl]
  cases takeP T e 1 p with
  | error x => rfl
  | ok x =>
    obtain ⟨w, q⟩ := x
    simp only [shareK]
    split
    · cases takeP T e 1 q <;> rfl
    · split
      · cases takeP T e 1 q <;> rfl
      · rfl
theorem info_str : (Tryd.prog.info? 9).map (fun i => (i.zero, i.size, i.bytes)) = some (some (.string ⟨#[]⟩), Kd.string.sz, 16) := by kernel_rfl
/-- A call that hands back or panics, in a region. -/
theorem goesP_ {P : Program} {ops : Array Oper} {Q : Exit → Act → World → Prop} {oi : Oper} {N : Option Tmp} {a : Act} {w : World} {K : Act → World → Prop} {f : FuncId} {fn : Func} {xs : Array Operand} {ts : Array TypeId} (hf : P.funcs[f]? = some fn) (hname : (fn.name == "runtime.NumGoroutine") = false) (hb : fn.body.isSome = true) (args : Array Value)
    (hw : Region.wanted oi (yielded ops a.tmps) = true) (hN : oi.dst = N) (hop : oi.op = .call { callee := .value (.func f), args := xs, argTypes := ts }) (hargs : xs.map a.eval = args)
    (h : Calls P f args w fun e w' => (∃ v, e = .returned v ∧ K (a.put N v) w') ∨ ∃ ch, e = .panicked ch ∧ Q (.panic ch) a w') : if Region.wanted oi (yielded ops a.tmps) = true then Oper.wp P oi a w K Q else K (a.put N undef) w := by
  have hrun : (execOp a.eval oi).run P w = .ok (.enter f args) w := by
    have he := enters_ hf hname hb args w
    unfold execOp
    simp [hop, resolve, Deferred.ofValue, invoke, Act.eval, hargs, he]
  rw [if_pos hw]
  subst hN
  unfold Oper.wp
  rw [hrun, Oper.upon_enter]
  refine h.mono fun e w'' hh => ?_
  rcases hh with ⟨v, rfl, hk⟩ | ⟨ch, rfl, hk⟩
  · exact hk
  · exact hk
theorem eq_word {w a : ByteArray} {l : List UInt8} (h : a.toList = l) : (w.toList == l) = decide (w = a) := by
  subst h
  rw [Bool.eq_iff_iff]
  simp [bytes_toList]
set_option maxHeartbeats 8000000 in
set_option maxRecDepth 100000 in
theorem share_calls (w0 W : World) (g : Nat) (T : List Tk) (b : Pb) (p : Nat) (deep : Int) (h : PS w0 W g T b p deep) (okS : Nat → Prop) (shs : List Sh) (hS : k44.R 44 W w0.heap.size okS b.v4 shs) (hokS : ∀ k, W.heap.size ≤ k → okS k) (hgS : ¬ okS g) (hls : shs.length ≤ 1000000) :
    Calls Tryd.prog 48 #[.pointer (some ⟨g, 0, none⟩)] W (ShareQ w0 W g T b deep okS shs (shareP T b.e p)) := by
  have H := Aside0.mk h
  have HSH := Aside0.mk hS
  have HOS := Aside0.mk hokS
  have HGS := Aside0.mk hgS
  have HLS := Aside0.mk hls
  obtain ⟨R, hR⟩ : ∃ R, R = shareP T b.e p := ⟨_, rfl⟩
  rw [← hR]
  have HR := Aside0.mk hR
  have h1 := take_calls w0 W g T b p deep 2 h (by decide)
  obtain ⟨r1, hr1⟩ : ∃ r1, r1 = takeP T b.e 2 p := ⟨_, rfl⟩
  rw [← hr1] at h1
  have H1 := Aside0.mk h1
  have HR1 := Aside0.mk hr1
  clear hR h1 hr1 h hS hokS hgS hls
  go_enter Tryd.func48, Tryd.ntmps48
  go_wp2_with fail
  refine H1.out.mono ?_
  cases r1 with
  | error f =>
    obtain rfl : R = .error f := by rw [HR.out, shareP, ← HR1.out]
    rintro e w1 ⟨rfl, hb⟩
    dsimp only
    exact ⟨rfl, rfl, hb⟩
  | ok x =>
    obtain ⟨o, q⟩ := x
    have HRK : Aside0 (R = shareL T b.e (T.length + 1 - q) ⟨o, [], [], false⟩ q) := ⟨by rw [HR.out, shareP, ← HR1.out]⟩
    rintro e w1 ⟨v, rfl, rfl, hs, hk⟩
    dsimp only
    have HS1 := Aside0.mk hs
    have HK1 := Aside0.mk hk
    have HB1 : Aside0 (w1.heap.size ≤ w1.heap.size) := ⟨Nat.le_refl _⟩
    clear hs hk HR HR1 H1
    go_wp2_with (refine wpList_store_row rfl 44 _ _ rfl w1.heap.size (shcells ⟨o, [], [], false⟩ (.slice none 0 0) (.slice none 0 0)) rfl rfl 44 #[.string ⟨#[]⟩, .slice none 0 0, .slice none 0 0, .bool false] (blk_new _ _) size_sh rfl (by simp [shcells, Value.oneCell']) ?_)
    obtain ⟨gs, hgs⟩ : ∃ gs, gs = w1.heap.size := ⟨_, rfl⟩
    obtain ⟨w2, hw2⟩ : ∃ w2, w2 = (w1.alloc (.cells #[.string ⟨#[]⟩, .slice none 0 0, .slice none 0 0, .bool false] 44)).setRow w1.heap.size (shcells ⟨o, [], [], false⟩ (.slice none 0 0) (.slice none 0 0)) := ⟨_, rfl⟩
    rw [← hw2]
    rw [← hgs] at hw2 ⊢
    have HX2 : Aside0 (w2.heap[gs]? = some (.cells (shcells ⟨o, [], [], false⟩ (.slice none 0 0) (.slice none 0 0)) 44 (0, 0))) := ⟨by rw [hw2, hgs]; exact setRow_heap _ _ _ _ _ _ (blk_new _ _)⟩
    have HGG : Aside0 (g < gs) := ⟨by rw [hgs]; exact blk_lt HS1.out.blk⟩
    have HWG : Aside0 (W.heap.size ≤ gs) := ⟨by rw [hgs]; exact HK1.out.1⟩
    have HS2 : Aside0 (PS w0 w2 g T b q deep) := ⟨by rw [hw2]; exact (HS1.out.below (below_alloc (Below.refl _ _) _)).row (by have := HGG.out; omega) (by have := HWG.out; have := H.out.bl.size; omega) _⟩
    have HK2 : Aside0 (Kept W w2 (fun k => k = g)) := ⟨by rw [hw2]; exact (HK1.out.alloc _).then_ (kept_setRow _ _ _) (fun k hk => .inr (by have := HWG.out; omega))⟩
    clear hw2 hgs HS1 HK1 HB1
    have hput : ∀ (a : Act) (v : Value), a.put none v = a := fun _ _ => rfl
    rw [hput]
    clear hput
    rename_i K1 hK1
    have HKK := Aside0.mk hK1
    clear hK1
    go_loopg [] T.length (fun gk wr => ∃ (f : Nat) (s : Sh) (q : Nat) (vM vH : Value), Aside0 (T.length + 1 - q ≤ f) ∧ Aside0 (T.length - q ≤ gk) ∧ Aside0 (R = shareL T b.e f s q) ∧ Aside0 (s.f1.length ≤ q) ∧ Aside0 (s.f2.length ≤ q) ∧ Aside0 (PS w0 wr g T b q deep) ∧ Aside0 (Kept W wr (fun k => k = g)) ∧ Aside0 (wr.heap[gs]? = some (.cells (shcells s vM vH) 44 (0, 0))) ∧
      Aside0 (Kd.string.R 9 wr w0.heap.size (fun k => gs < k) vM s.f1) ∧ Aside0 (Kd.string.R 9 wr w0.heap.size (fun k => gs < k) vH s.f2) ∧ Aside0 (∀ k, vM.ownBlock = some k → vH.ownBlock ≠ some k))
    case atStart => exact ⟨T.length + 1 - q, ⟨o, [], [], false⟩, q, .slice none 0 0, .slice none 0 0, ⟨Nat.le_refl _⟩, ⟨by omega⟩, HRK, ⟨by simp⟩, ⟨by simp⟩, HS2, HK2, HX2, ⟨Kd.R_nil _ _ _ _ _⟩, ⟨Kd.R_nil _ _ _ _ _⟩, ⟨fun k hk => by simp [Value.ownBlock] at hk⟩⟩
    case round =>
      clear HRK HS2 HK2 HX2
      obtain ⟨f, s, q, vM, vH, HFB, HGK, HFN, HL1, HL2, HS, HK, HX, HM, HH, HD⟩ := hrel
      have HIS := is_calls w0 _ g T b q deep (HS.out.below (below_alloc (Below.refl _ _) (.cells #[.string wMethod, .string wHeader, .string wCreds] 9))) (some ⟨wr.heap.size, 0, none⟩) 3 3 [wMethod, wHeader, wCreds] (lit_strs wr [wMethod, wHeader, wCreds] (by simp)) rfl (Nat.le_refl _) (by simp)
      obtain ⟨i, hi⟩ : ∃ i, i = isP T b.e [wMethod, wHeader, wCreds] q := ⟨_, rfl⟩
      rw [← hi] at HIS
      have HIS := Aside0.mk HIS
      have HI := Aside0.mk hi
      clear hi
      go_wp2_with fail
      refine HIS.out.mono ?_
      rintro e w4 ⟨rfl, hb⟩
      dsimp only
      have HB4 : Aside0 (Below wr.heap.size wr w4) := ⟨(below_alloc (Below.refl _ _) _).trans (hb.mono (below_alloc (Below.refl _ _) _).size)⟩
      have HS4 := Aside0.mk (HS.out.below HB4.out)
      have HK4 := Aside0.mk (HK.out.below HB4.out)
      have HX4 := Aside0.mk (blk_below HX.out HB4.out)
      have HM4 := Aside0.mk (Kd.R_below HM.out HB4.out)
      have HH4 := Aside0.mk (Kd.R_below HH.out HB4.out)
      clear hb HIS HS HK HX HM HH HB4
      cases i
      · have hfin : R = .ok (s, q) := by
          rw [HFN.out]
          cases f with
          | zero => rfl
          | succ f => rw [shareL, ← HI.out]; rfl
        clear HFN HI
        go_wp2_with fail
        refine HKK.out _ _ ?_
        subst hfin
        have HR4 : Aside0 (k44.R 44 w4.drew w0.heap.size okS b.v4 shs) := ⟨Kd.R_drew (Kd.R_kept HSH.out HK4.out (fun k hk he => HGS.out (he ▸ hk)))⟩
        have HMM : Aside0 (k44.M w4.drew w0.heap.size (fun k => gs < k) s [.string s.f0, vM, vH, .bool s.f3]) := ⟨k44_mkM _ _ _ _ (Kd.R_drew HM4.out) (Kd.R_drew HH4.out)⟩
        have HOK : Aside0 (∀ k, gs < k → okS k ∧ some k ≠ b.v4.ownBlock) := ⟨fun k hk => ⟨HOS.out k (by have := HWG.out; omega), fun he => by have := Kd.R_lt HSH.out k he.symm; have := HWG.out; omega⟩⟩
        have HFR : Aside0 (∀ k, w4.drew.heap.size ≤ k → okS k) := ⟨fun k hk => HOS.out k (by have := HK4.out.1; have : w4.heap.size ≤ k := hk; omega)⟩
        have HBB : Aside0 (Below w0.heap.size w0 w4.drew) := ⟨below_drew HS4.out.bl⟩
        have HLB : Aside0 ((shs.length + 1) * 72 ≤ 140737488355328) := ⟨by have := HLS.out; omega⟩
        have d0 : w4.drew.cell? ⟨g, 4, none⟩ = some b.v4 := HS4.out.cell 4
        have d1 : w4.drew.cell? ⟨gs, 0, none⟩ = some (.string s.f0) := blk_cell (show w4.drew.heap[gs]? = _ from HX4.out) 0
        have d2 : w4.drew.cell? ⟨gs, 1, none⟩ = some vM := blk_cell (show w4.drew.heap[gs]? = _ from HX4.out) 1
        have d3 : w4.drew.cell? ⟨gs, 2, none⟩ = some vH := blk_cell (show w4.drew.heap[gs]? = _ from HX4.out) 2
        have d4 : w4.drew.cell? ⟨gs, 3, none⟩ = some (.bool s.f3) := blk_cell (show w4.drew.heap[gs]? = _ from HX4.out) 3
        refine start_ (n := 13) (S := fun w' => w'.cell? ⟨g, 4, none⟩ = some b.v4 ∧ w'.cell? ⟨gs, 0, none⟩ = some (.string s.f0) ∧ w'.cell? ⟨gs, 1, none⟩ = some vM ∧ w'.cell? ⟨gs, 2, none⟩ = some vH ∧ w'.cell? ⟨gs, 3, none⟩ = some (.bool s.f3)) (ds := [8, 12]) #[false, false, false, false, false, false, false, false, false, false, false, false, false] (by kernel_rfl) rfl rfl ⟨d0, d1, d2, d3, d4⟩ (fun hHeld => ?_)
        refine pure_ (i := 0) (N := some 32) (v := ?_) (a' := ?_) #[true, false, false, false, false, false, false, false, false, false, false, false, false] rfl rfl (by kernel_rfl) (fun _ _ _ h => h) (Or.inl ⟨by rfl, ?_⟩) ?_ ?_
        rotate_left
        · intro w'
          go_simp
          with_reducible rfl
        rotate_left
        · simp only [Act.put, List.setIfInBounds_toArray, List.set_cons_zero, List.set_cons_succ, i64_w, i32_w]
          rfl
        refine pure_ (i := 1) (N := some 33) (v := ?_) (a' := ?_) #[true, true, false, false, false, false, false, false, false, false, false, false, false] rfl rfl (by kernel_rfl) (fun _ _ _ h => h) (Or.inl ⟨by rfl, ?_⟩) ?_ ?_
        rotate_left
        · intro w'
          go_simp
          with_reducible rfl
        rotate_left
        · simp only [Act.put, List.setIfInBounds_toArray, List.set_cons_zero, List.set_cons_succ, i64_w, i32_w]
          rfl
        refine pure_ (i := 2) (N := some 34) (v := ?_) (a' := ?_) #[true, true, true, false, false, false, false, false, false, false, false, false, false] rfl rfl (by kernel_rfl) (fun _ _ _ h => h) (Or.inl ⟨by rfl, ?_⟩) ?_ ?_
        rotate_left
        · intro w'
          go_simp
          with_reducible rfl
        rotate_left
        · simp only [Act.put, List.setIfInBounds_toArray, List.set_cons_zero, List.set_cons_succ, i64_w, i32_w]
          rfl
        refine pure_ (i := 3) (N := some 35) (v := ?_) (a' := ?_) #[true, true, true, true, false, false, false, false, false, false, false, false, false] rfl rfl (by kernel_rfl) (fun _ _ _ h => h) (Or.inl ⟨by rfl, ?_⟩) ?_ ?_
        rotate_left
        · intro w'
          go_simp
          with_reducible rfl
        rotate_left
        · simp only [Act.put, List.setIfInBounds_toArray, List.set_cons_zero, List.set_cons_succ, i64_w, i32_w]
          rfl
        refine pure_ (i := 4) (N := some 36) (v := ?_) (a' := ?_) #[true, true, true, true, true, false, false, false, false, false, false, false, false] rfl rfl (by kernel_rfl) (fun _ _ _ h => h) (Or.inl ⟨by rfl, ?_⟩) ?_ ?_
        rotate_left
        · intro w'
          go_simp
          with_reducible rfl
        rotate_left
        · simp only [Act.put, List.setIfInBounds_toArray, List.set_cons_zero, List.set_cons_succ, i64_w, i32_w]
          rfl
        refine take_ (i := 5) (N := some 37) (v := ?_) (a' := ?_) #[true, true, true, true, true, true, false, false, false, false, false, false, false] rfl rfl (by kernel_rfl) (fun _ _ _ h => h) (Or.inl ⟨by rfl, ?_⟩) hHeld ?_ ?_
        rotate_left
        · rintro w' ⟨s0, s1, s2, s3, s4⟩
          go_simp
          with_reducible rfl
        rotate_left
        · simp only [Act.put, List.setIfInBounds_toArray, List.set_cons_zero, List.set_cons_succ, i64_w, i32_w]
          rfl
        refine take_ (i := 6) (N := some 38) (v := ?_) (a' := ?_) #[true, true, true, true, true, true, true, false, false, false, false, false, false] rfl rfl (by kernel_rfl) (fun _ _ _ h => h) (Or.inl ⟨by rfl, ?_⟩) hHeld ?_ ?_
        rotate_left
        · rintro w' ⟨s0, s1, s2, s3, s4⟩
          go_simp
          with_reducible rfl
        rotate_left
        · simp only [Act.put, List.setIfInBounds_toArray, List.set_cons_zero, List.set_cons_succ, i64_w, i32_w]
          rfl
        refine one_ (i := 7) (N := some 39) #[true, true, true, true, true, true, true, true, false, false, false, false, false] rfl rfl (by kernel_rfl) (by decide) (fun K hK => ?_)
        refine value_ (w1 := ?_) (v := ?_) (by rfl) rfl ?_ ?_
        rotate_left 2
        · go_simp
          constructor
          · rfl
          · rfl
        refine hK.out _ _ ⟨(blk_cell (show (w4.drew.alloc _).heap[g]? = _ from blk_alloc (show w4.drew.heap[g]? = _ from HS4.out.blk) _) 4), (blk_cell (show (w4.drew.alloc _).heap[gs]? = _ from blk_alloc (show w4.drew.heap[gs]? = _ from HX4.out) _) 0), (blk_cell (show (w4.drew.alloc _).heap[gs]? = _ from blk_alloc (show w4.drew.heap[gs]? = _ from HX4.out) _) 1), (blk_cell (show (w4.drew.alloc _).heap[gs]? = _ from blk_alloc (show w4.drew.heap[gs]? = _ from HX4.out) _) 2), (blk_cell (show (w4.drew.alloc _).heap[gs]? = _ from blk_alloc (show w4.drew.heap[gs]? = _ from HX4.out) _) 3)⟩ (fun hHeld => ?_)
        clear hK K
        refine norm_ (a' := ?_) ?_ ?_
        rotate_left
        · show Act.put _ (some 39) _ = _
          simp only [Act.put, List.setIfInBounds_toArray, List.set_cons_zero, List.set_cons_succ, i64_w, i32_w]
          rfl
        refine last_ (i := 8) (N := some 40) #[true, true, true, true, true, true, true, true, true, false, false, false, false] rfl rfl (by kernel_rfl) (by decide) (fun K hK => ?_)
        refine Kd.R_append_step k44 (w0 := w0) (W := w4.drew) w0.heap.size (by rfl) _ _ 24 44 _ 72 rfl Tryd.underlying24 info_sh rfl (by decide) (by decide) b.v4 shs s [.string s.f0, vM, vH, .bool s.f3] okS (fun k => gs < k) rfl rfl HMM.out HOK.out HFR.out HR4.out HBB.out HBB.out.size HLB.out ?_
        intro v8 w8 hO8 hB8 hG8 hat8
        obtain ⟨A8, c8, e8⟩ := Kd.R_slice hO8
        obtain ⟨n8, hn8⟩ : ∃ n8, n8 = (shs ++ [s]).length := ⟨_, rfl⟩
        rw [← hn8] at e8
        subst e8
        have hp8 : w8.heap[g]? = some (.cells (pcells b q deep) 63 (0, 0)) := (hG8.block g (blk_lt HS4.out.blk) (fun he => HGS.out (HSH.out.1 g he.symm))).trans HS4.out.blk
        have e4 : w8.cell? ⟨g, 4, none⟩ = some b.v4 := blk_cell hp8 4
        have f4 := blk_frozen hp8 4
        have HP8 := Aside0.mk hp8
        have HO8 := Aside0.mk hO8
        have HG8 := Aside0.mk hG8
        have HB8 := Aside0.mk hB8
        clear hO8 hB8 hG8 hat8 hp8 hn8
        refine hK.out _ _ ?_
        clear hK K
        refine norm_ (a' := ?_) ?_ ?_
        rotate_left
        · show Act.put _ (some 40) _ = _
          simp only [Act.put, List.setIfInBounds_toArray, List.set_cons_zero, List.set_cons_succ, i64_w, i32_w]
          rfl
        refine pure_ (i := 9) (N := some 41) (v := ?_) (a' := ?_) #[true, true, true, true, true, true, true, true, true, true, false, false, false] rfl rfl (by kernel_rfl) (fun _ _ _ h => h) (Or.inl ⟨by rfl, ?_⟩) ?_ ?_
        rotate_left
        · intro w'
          go_simp
          with_reducible rfl
        rotate_left
        · simp only [Act.put, List.setIfInBounds_toArray, List.set_cons_zero, List.set_cons_succ, i64_w, i32_w]
          rfl
        refine pure_ (i := 10) (N := some 42) (v := ?_) (a' := ?_) #[true, true, true, true, true, true, true, true, true, true, true, false, false] rfl rfl (by kernel_rfl) (fun _ _ _ h => h) (Or.inl ⟨by rfl, ?_⟩) ?_ ?_
        rotate_left
        · intro w'
          go_simp
          with_reducible rfl
        rotate_left
        · simp only [Act.put, List.setIfInBounds_toArray, List.set_cons_zero, List.set_cons_succ, i64_w, i32_w]
          rfl
        refine pure_ (i := 11) (N := some 43) (v := ?_) (a' := ?_) #[true, true, true, true, true, true, true, true, true, true, true, true, false] rfl rfl (by kernel_rfl) (fun _ _ _ h => h) (Or.inl ⟨by rfl, ?_⟩) ?_ ?_
        rotate_left
        · intro w'
          go_simp
          with_reducible rfl
        rotate_left
        · simp only [Act.put, List.setIfInBounds_toArray, List.set_cons_zero, List.set_cons_succ, i64_w, i32_w]
          rfl
        refine last_ (i := 12) (N := none) #[true, true, true, true, true, true, true, true, true, true, true, true, true] rfl rfl (by kernel_rfl) (by decide) (fun K hK => ?_)
        refine skip_ (w1 := ?_) (by rfl) rfl ?_ ?_
        rotate_left
        · go_simp
          rfl
        refine hK.out _ _ ?_
        clear hK K
        refine done_ (by kernel_rfl) ?_

        go_wp2
        refine ⟨rfl, .tuple #[], by simp [results, Tryd.results48], rfl, .slice A8 n8 c8, ⟨blk_set HP8.out 4 _, HB8.out.setCell (p := ⟨g, 4, none⟩) HS4.out.gl _, HS4.out.gl, HS4.out.tC, HS4.out.tn, HS4.out.tc, HS4.out.tl, HS4.out.al⟩, ?_, ?_⟩
        · exact Kd.R_far HO8.out (p := ⟨g, 4, none⟩) (fun k hk (he : k = g) => HGS.out (he ▸ hk)) _
        · exact Kept.setCell (S := fun k => k = g ∨ b.v4.ownBlock = some k) (p := ⟨g, 4, none⟩) (Kept.of_grown HG8.out ((HK4.out : Kept W w4.drew (fun k => k = g)).mono (fun k hk => .inl hk)) (fun k hk => .inl (.inr hk))) (.inl (.inl rfl)) _
      · have hq : q < T.length := isP_lt HI.out.symm
        have HQ := Aside0.mk hq
        obtain ⟨f', rfl⟩ : ∃ f', f = f' + 1 := ⟨f - 1, by have := HFB.out; omega⟩
        have h5 := take_calls w0 w4 g T b q deep 1 HS4.out (by decide)
        obtain ⟨r2, hr2⟩ : ∃ r2, r2 = takeP T b.e 1 q := ⟨_, rfl⟩
        rw [← hr2] at h5
        have H5 := Aside0.mk h5
        have HR2 := Aside0.mk hr2
        have HFN2 : Aside0 (R = shareK T b.e f' s r2) := ⟨by rw [HFN.out, shareL_succ _ _ _ _ _ HI.out, ← HR2.out]⟩
        clear h5 hr2 hq
        go_wp2_with fail
        refine H5.out.mono ?_
        cases r2 with
        | error x =>
          obtain rfl : R = .error x := HFN2.out
          rintro e w6 ⟨rfl, hb⟩
          dsimp only
          exact ⟨rfl, rfl, hb⟩
        | ok x =>
          obtain ⟨w, q2⟩ := x
          rintro e w5 ⟨v, rfl, rfl, hs, hk⟩
          dsimp only
          have HS5 := Aside0.mk hs
          have HK5 := Aside0.mk (HK4.out.then_ hk (fun k hk => .inl hk))
          have HX5 := Aside0.mk (blk_kept HX4.out hk (by have := HGG.out; show gs ≠ g; omega))
          have HM5 := Aside0.mk (Kd.R_kept HM4.out hk (fun k hk => by have := HGG.out; show k ≠ g; omega))
          have HH5 := Aside0.mk (Kd.R_kept HH4.out hk (fun k hk => by have := HGG.out; show k ≠ g; omega))
          have HQ2 : Aside0 (q < q2) := ⟨by have := takeP_mono HR2.out.symm; omega⟩
          clear hs hk HS4 HK4 HX4 HM4 HH4 HFN H5 HI
          by_cases hw : w = wMethod
          · have HFN3 : Aside0 (R = shareM T b.e f' s (takeP T b.e 1 q2)) := ⟨by rw [HFN2.out, shareK, if_pos hw]⟩
            have t0 : (w.toList == [109, 101, 116, 104, 111, 100]) = true := (eq_word (w := w) (a := wMethod) (by decide +kernel)).trans (decide_eq_true hw)
            clear hw HFN2
            have h7 := take_calls w0 w5.drew g T b q2 deep 1 (HS5.out.below (below_drew (Below.refl _ _))) (by decide)
            obtain ⟨r3, hr3⟩ : ∃ r3, r3 = takeP T b.e 1 q2 := ⟨_, rfl⟩
            rw [← hr3] at h7 HFN3
            have H7 := Aside0.mk h7
            have HR3 := Aside0.mk hr3
            clear h7 hr3
            have d1 : w5.drew.cell? ⟨gs, 1, none⟩ = some vM := blk_cell (show w5.drew.heap[gs]? = _ from HX5.out) 1
            go_upto_region 5 with (fail)
            refine start_ (n := 8) (S := fun w' => w'.cell? ⟨gs, 1, none⟩ = some vM) (ds := [5, 7]) #[false, false, false, false, false, false, false, false] (by kernel_rfl) rfl rfl (d1) (fun hHeld => ?_)
            refine pure_ (i := 0) (N := some 16) (v := ?_) (a' := ?_) #[true, false, false, false, false, false, false, false] rfl rfl (by kernel_rfl) (fun _ _ _ h => h) (Or.inl ⟨by rfl, ?_⟩) ?_ ?_
            rotate_left
            · intro w'
              go_simp
              with_reducible rfl
            rotate_left
            · simp only [Act.put, List.setIfInBounds_toArray, List.set_cons_zero, List.set_cons_succ, i64_w, i32_w]
              rfl
            refine pure_ (i := 2) (N := some 18) (v := ?_) (a' := ?_) #[true, false, true, false, false, false, false, false] rfl rfl (by kernel_rfl) (fun _ _ _ h => h) (Or.inl ⟨by rfl, ?_⟩) ?_ ?_
            rotate_left
            · intro w'
              go_simp
              with_reducible rfl
            rotate_left
            · simp only [Act.put, List.setIfInBounds_toArray, List.set_cons_zero, List.set_cons_succ, i64_w, i32_w]
              rfl
            refine take_ (i := 1) (N := some 17) (v := ?_) (a' := ?_) #[true, true, true, false, false, false, false, false] rfl rfl (by kernel_rfl) (fun _ _ _ h => h) (Or.inl ⟨by rfl, ?_⟩) hHeld ?_ ?_
            rotate_left
            · intro w' s0
              go_simp
              with_reducible rfl
            rotate_left
            · simp only [Act.put, List.setIfInBounds_toArray, List.set_cons_zero, List.set_cons_succ, i64_w, i32_w]
              rfl
            refine one_ (i := 3) (N := some 19) #[true, true, true, true, false, false, false, false] rfl rfl (by kernel_rfl) (by decide) (fun K hK => ?_)
            refine goesP_ Tryd.func22 (by kernel_rfl) rfl #[.pointer (some ⟨g, 0, none⟩), .int .i64 1] (by rfl) rfl rfl (by simp only [List.map_toArray, List.map_cons, List.map_nil]; rfl) ?_
            refine H7.out.mono ?_
            rcases r3 with x | ⟨t, q3⟩
            · rintro e w7 ⟨rfl, hb⟩
              refine .inr ⟨_, rfl, ?_⟩
              obtain rfl : R = .error x := HFN3.out
              exact ⟨rfl, rfl, hb⟩
            rintro e w7 ⟨v7, rfl, rfl, hs7, hk7⟩
            refine .inl ⟨_, rfl, ?_⟩
            have HS7 := Aside0.mk hs7
            have HK7 := Aside0.mk ((show Kept W w5.drew (fun k => k = g) from HK5.out).then_ hk7 (fun k hk => .inl hk))
            have HX7 := Aside0.mk (blk_kept (show w5.drew.heap[gs]? = _ from HX5.out) hk7 (by have := HGG.out; show gs ≠ g; omega))
            have HM7 := Aside0.mk (Kd.R_kept (Kd.R_drew HM5.out) hk7 (fun k hk => by have := HGG.out; show k ≠ g; omega))
            have HH7 := Aside0.mk (Kd.R_kept (Kd.R_drew HH5.out) hk7 (fun k hk => by have := HGG.out; show k ≠ g; omega))
            have HQ3 : Aside0 (q3 = q2 + 1) := ⟨takeP_mono HR3.out.symm⟩
            have HFR7 : Aside0 (∀ k, w7.heap.size ≤ k → gs < k) := ⟨fun k hk => by have := blk_lt HX7.out; omega⟩
            have HLB7 : Aside0 ((s.f1.length + 1) * 16 ≤ 140737488355328) := ⟨by have := HL1.out; have := HQ.out; have := H.out.tl; omega⟩
            clear hs7 hk7 HS5 HK5 HX5 HM5 HH5
            refine hK.out _ _ ((blk_cell HX7.out 1)) (fun hHeld => ?_)
            clear hK K
            refine norm_ (a' := ?_) ?_ ?_
            rotate_left
            · show Act.put _ (some 19) _ = _
              simp only [Act.put, List.setIfInBounds_toArray, List.set_cons_zero, List.set_cons_succ, i64_w, i32_w]
              rfl
            refine one_ (i := 4) (N := some 20) #[true, true, true, true, true, false, false, false] rfl rfl (by kernel_rfl) (by decide) (fun K hK => ?_)
            refine value_ (w1 := ?_) (v := ?_) (by rfl) rfl ?_ ?_
            rotate_left 2
            · go_simp
              constructor
              · rfl
              · rfl
            refine hK.out _ _ ((blk_cell (show (w7.alloc _).heap[gs]? = _ from blk_alloc HX7.out _) 1)) (fun hHeld => ?_)
            clear hK K
            refine norm_ (a' := ?_) ?_ ?_
            rotate_left
            · show Act.put _ (some 20) _ = _
              simp only [Act.put, List.setIfInBounds_toArray, List.set_cons_zero, List.set_cons_succ, i64_w, i32_w]
              rfl
            refine last_ (i := 5) (N := some 21) #[true, true, true, true, true, true, false, false] rfl rfl (by kernel_rfl) (by decide) (fun K hK => ?_)
            refine Kd.R_append_step Kd.string (w0 := w0) (W := w7) w0.heap.size (by rfl) _ _ 23 9 (.string ⟨#[]⟩) 16 rfl Tryd.underlying23 info_str rfl (by decide) (by decide) vM s.f1 t [.string t] (fun k => gs < k) (fun _ => False) rfl rfl rfl (fun _ hk => hk.elim) HFR7.out HM7.out HS7.out.bl HS7.out.bl.size HLB7.out ?_
            intro v9 w9 hO9 hB9 hG9 hat9
            have HD9 : Aside0 (∀ k, v9.ownBlock = some k → vH.ownBlock ≠ some k) := ⟨fun k hk he => by
              rcases hat9 with h | ⟨b9, h, h2⟩
              · exact HD.out k (h ▸ hk) (he)
              · rw [h] at hk; cases hk; have := Kd.R_lt HH7.out _ he; omega⟩
            obtain ⟨A9, c9, e9⟩ := Kd.R_slice hO9
            obtain ⟨n9, hn9⟩ : ∃ n9, n9 = (s.f1 ++ [t]).length := ⟨_, rfl⟩
            rw [← hn9] at e9
            subst e9
            have hx9 : w9.heap[gs]? = some (.cells (shcells s vM vH) 44 (0, 0)) := (hG9.block gs (blk_lt HX7.out) (fun he => by have := HM7.out.1 gs he.symm; omega)).trans HX7.out
            have e4 : w9.cell? ⟨gs, 1, none⟩ = some vM := blk_cell hx9 1
            have f4 := blk_frozen hx9 1
            have HX9 := Aside0.mk hx9
            have HO9 := Aside0.mk hO9
            have HP9 : Aside0 (PS w0 w9 g T b q3 deep) := ⟨⟨(hG9.block g (blk_lt HS7.out.blk) (fun he => by have := HM7.out.1 g he.symm; have := HGG.out; omega)).trans HS7.out.blk, hB9, HS7.out.gl, HS7.out.tC, HS7.out.tn, HS7.out.tc, HS7.out.tl, HS7.out.al⟩⟩
            have HK9 : Aside0 (Kept W w9 (fun k => k = g)) := ⟨Kept.of_grown hG9 HK7.out (fun k hk => .inr (by have := HM7.out.1 k hk; have := HWG.out; omega))⟩
            have HH9 := Aside0.mk (Kd.R_grown2 HH7.out rfl hG9 (fun k hk he => HD.out k (hk) (he.symm)))
            clear hO9 hB9 hG9 hat9 hx9 hn9
            refine hK.out _ _ ?_
            clear hK K
            refine norm_ (a' := ?_) ?_ ?_
            rotate_left
            · show Act.put _ (some 21) _ = _
              simp only [Act.put, List.setIfInBounds_toArray, List.set_cons_zero, List.set_cons_succ, i64_w, i32_w]
              rfl
            refine pure_ (i := 6) (N := some 22) (v := ?_) (a' := ?_) #[true, true, true, true, true, true, true, false] rfl rfl (by kernel_rfl) (fun _ _ _ h => h) (Or.inl ⟨by rfl, ?_⟩) ?_ ?_
            rotate_left
            · intro w'
              go_simp
              with_reducible rfl
            rotate_left
            · simp only [Act.put, List.setIfInBounds_toArray, List.set_cons_zero, List.set_cons_succ, i64_w, i32_w]
              rfl
            refine last_ (i := 7) (N := none) #[true, true, true, true, true, true, true, true] rfl rfl (by kernel_rfl) (by decide) (fun K hK => ?_)
            refine skip_ (w1 := ?_) (by rfl) rfl ?_ ?_
            rotate_left
            · go_simp
              rfl
            refine hK.out _ _ ?_
            clear hK K
            refine done_ (by kernel_rfl) ?_

            go_wp2
            go_roundg (T.length - q3)
            case measure => have := HGK.out; have := HQ.out; have := HQ2.out; have := HQ3.out; omega
            case rel => exact ⟨f', ⟨s.f0, s.f1 ++ [t], s.f2, s.f3⟩, q3, .slice A9 n9 c9, vH, ⟨by have := HFB.out; have := HQ2.out; have := HQ3.out; omega⟩, ⟨Nat.le_refl _⟩, HFN3, ⟨by rw [List.length_append, List.length_singleton]; have := HL1.out; have := HQ2.out; have := HQ3.out; omega⟩, ⟨by have := HL2.out; have := HQ2.out; have := HQ3.out; show s.f2.length ≤ q3; omega⟩, ⟨HP9.out.far (by have := HGG.out; omega) (by have := HWG.out; have := H.out.bl.size; omega) 1 _⟩, ⟨Kept.setCell (S := fun k => k = g) (p := ⟨gs, 1, none⟩) HK9.out (.inr HWG.out) _⟩, ⟨blk_set HX9.out 1 _⟩, ⟨Kd.R_far HO9.out (p := ⟨gs, 1, none⟩) (fun k hk (he : k = gs) => by omega) _⟩, ⟨Kd.R_far HH9.out (p := ⟨gs, 1, none⟩) (fun k hk (he : k = gs) => by omega) _⟩, HD9⟩
          · have t0 : (w.toList == [109, 101, 116, 104, 111, 100]) = false := (eq_word (w := w) (a := wMethod) (by decide +kernel)).trans (decide_eq_false hw)
            by_cases hw2 : w = wHeader
            · have HFN3 : Aside0 (R = shareH T b.e f' s (takeP T b.e 1 q2)) := ⟨by rw [HFN2.out, shareK, if_neg hw, if_pos hw2]⟩
              have t1 : (w.toList == [104, 101, 97, 100, 101, 114]) = true := (eq_word (w := w) (a := wHeader) (by decide +kernel)).trans (decide_eq_true hw2)
              clear hw hw2 HFN2
              have h7 := take_calls w0 w5.drew g T b q2 deep 1 (HS5.out.below (below_drew (Below.refl _ _))) (by decide)
              obtain ⟨r3, hr3⟩ : ∃ r3, r3 = takeP T b.e 1 q2 := ⟨_, rfl⟩
              rw [← hr3] at h7 HFN3
              have H7 := Aside0.mk h7
              have HR3 := Aside0.mk hr3
              clear h7 hr3
              have d1 : w5.drew.cell? ⟨gs, 2, none⟩ = some vH := blk_cell (show w5.drew.heap[gs]? = _ from HX5.out) 2
              go_upto_region 7 with (fail)
              refine start_ (n := 8) (S := fun w' => w'.cell? ⟨gs, 2, none⟩ = some vH) (ds := [5, 7]) #[false, false, false, false, false, false, false, false] (by kernel_rfl) rfl rfl (d1) (fun hHeld => ?_)
              refine pure_ (i := 0) (N := some 25) (v := ?_) (a' := ?_) #[true, false, false, false, false, false, false, false] rfl rfl (by kernel_rfl) (fun _ _ _ h => h) (Or.inl ⟨by rfl, ?_⟩) ?_ ?_
              rotate_left
              · intro w'
                go_simp
                with_reducible rfl
              rotate_left
              · simp only [Act.put, List.setIfInBounds_toArray, List.set_cons_zero, List.set_cons_succ, i64_w, i32_w]
                rfl
              refine pure_ (i := 2) (N := some 27) (v := ?_) (a' := ?_) #[true, false, true, false, false, false, false, false] rfl rfl (by kernel_rfl) (fun _ _ _ h => h) (Or.inl ⟨by rfl, ?_⟩) ?_ ?_
              rotate_left
              · intro w'
                go_simp
                with_reducible rfl
              rotate_left
              · simp only [Act.put, List.setIfInBounds_toArray, List.set_cons_zero, List.set_cons_succ, i64_w, i32_w]
                rfl
              refine take_ (i := 1) (N := some 26) (v := ?_) (a' := ?_) #[true, true, true, false, false, false, false, false] rfl rfl (by kernel_rfl) (fun _ _ _ h => h) (Or.inl ⟨by rfl, ?_⟩) hHeld ?_ ?_
              rotate_left
              · intro w' s0
                go_simp
                with_reducible rfl
              rotate_left
              · simp only [Act.put, List.setIfInBounds_toArray, List.set_cons_zero, List.set_cons_succ, i64_w, i32_w]
                rfl
              refine one_ (i := 3) (N := some 28) #[true, true, true, true, false, false, false, false] rfl rfl (by kernel_rfl) (by decide) (fun K hK => ?_)
              refine goesP_ Tryd.func22 (by kernel_rfl) rfl #[.pointer (some ⟨g, 0, none⟩), .int .i64 1] (by rfl) rfl rfl (by simp only [List.map_toArray, List.map_cons, List.map_nil]; rfl) ?_
              refine H7.out.mono ?_
              rcases r3 with x | ⟨t, q3⟩
              · rintro e w7 ⟨rfl, hb⟩
                refine .inr ⟨_, rfl, ?_⟩
                obtain rfl : R = .error x := HFN3.out
                exact ⟨rfl, rfl, hb⟩
              rintro e w7 ⟨v7, rfl, rfl, hs7, hk7⟩
              refine .inl ⟨_, rfl, ?_⟩
              have HS7 := Aside0.mk hs7
              have HK7 := Aside0.mk ((show Kept W w5.drew (fun k => k = g) from HK5.out).then_ hk7 (fun k hk => .inl hk))
              have HX7 := Aside0.mk (blk_kept (show w5.drew.heap[gs]? = _ from HX5.out) hk7 (by have := HGG.out; show gs ≠ g; omega))
              have HM7 := Aside0.mk (Kd.R_kept (Kd.R_drew HM5.out) hk7 (fun k hk => by have := HGG.out; show k ≠ g; omega))
              have HH7 := Aside0.mk (Kd.R_kept (Kd.R_drew HH5.out) hk7 (fun k hk => by have := HGG.out; show k ≠ g; omega))
              have HQ3 : Aside0 (q3 = q2 + 1) := ⟨takeP_mono HR3.out.symm⟩
              have HFR7 : Aside0 (∀ k, w7.heap.size ≤ k → gs < k) := ⟨fun k hk => by have := blk_lt HX7.out; omega⟩
              have HLB7 : Aside0 ((s.f2.length + 1) * 16 ≤ 140737488355328) := ⟨by have := HL2.out; have := HQ.out; have := H.out.tl; omega⟩
              clear hs7 hk7 HS5 HK5 HX5 HM5 HH5
              refine hK.out _ _ ((blk_cell HX7.out 2)) (fun hHeld => ?_)
              clear hK K
              refine norm_ (a' := ?_) ?_ ?_
              rotate_left
              · show Act.put _ (some 28) _ = _
                simp only [Act.put, List.setIfInBounds_toArray, List.set_cons_zero, List.set_cons_succ, i64_w, i32_w]
                rfl
              refine one_ (i := 4) (N := some 29) #[true, true, true, true, true, false, false, false] rfl rfl (by kernel_rfl) (by decide) (fun K hK => ?_)
              refine value_ (w1 := ?_) (v := ?_) (by rfl) rfl ?_ ?_
              rotate_left 2
              · go_simp
                constructor
                · rfl
                · rfl
              refine hK.out _ _ ((blk_cell (show (w7.alloc _).heap[gs]? = _ from blk_alloc HX7.out _) 2)) (fun hHeld => ?_)
              clear hK K
              refine norm_ (a' := ?_) ?_ ?_
              rotate_left
              · show Act.put _ (some 29) _ = _
                simp only [Act.put, List.setIfInBounds_toArray, List.set_cons_zero, List.set_cons_succ, i64_w, i32_w]
                rfl
              refine last_ (i := 5) (N := some 30) #[true, true, true, true, true, true, false, false] rfl rfl (by kernel_rfl) (by decide) (fun K hK => ?_)
              refine Kd.R_append_step Kd.string (w0 := w0) (W := w7) w0.heap.size (by rfl) _ _ 23 9 (.string ⟨#[]⟩) 16 rfl Tryd.underlying23 info_str rfl (by decide) (by decide) vH s.f2 t [.string t] (fun k => gs < k) (fun _ => False) rfl rfl rfl (fun _ hk => hk.elim) HFR7.out HH7.out HS7.out.bl HS7.out.bl.size HLB7.out ?_
              intro v9 w9 hO9 hB9 hG9 hat9
              have HD9 : Aside0 (∀ k, v9.ownBlock = some k → vM.ownBlock ≠ some k) := ⟨fun k hk he => by
                rcases hat9 with h | ⟨b9, h, h2⟩
                · exact HD.out k (he) (h ▸ hk)
                · rw [h] at hk; cases hk; have := Kd.R_lt HM7.out _ he; omega⟩
              obtain ⟨A9, c9, e9⟩ := Kd.R_slice hO9
              obtain ⟨n9, hn9⟩ : ∃ n9, n9 = (s.f2 ++ [t]).length := ⟨_, rfl⟩
              rw [← hn9] at e9
              subst e9
              have hx9 : w9.heap[gs]? = some (.cells (shcells s vM vH) 44 (0, 0)) := (hG9.block gs (blk_lt HX7.out) (fun he => by have := HH7.out.1 gs he.symm; omega)).trans HX7.out
              have e4 : w9.cell? ⟨gs, 2, none⟩ = some vH := blk_cell hx9 2
              have f4 := blk_frozen hx9 2
              have HX9 := Aside0.mk hx9
              have HO9 := Aside0.mk hO9
              have HP9 : Aside0 (PS w0 w9 g T b q3 deep) := ⟨⟨(hG9.block g (blk_lt HS7.out.blk) (fun he => by have := HH7.out.1 g he.symm; have := HGG.out; omega)).trans HS7.out.blk, hB9, HS7.out.gl, HS7.out.tC, HS7.out.tn, HS7.out.tc, HS7.out.tl, HS7.out.al⟩⟩
              have HK9 : Aside0 (Kept W w9 (fun k => k = g)) := ⟨Kept.of_grown hG9 HK7.out (fun k hk => .inr (by have := HH7.out.1 k hk; have := HWG.out; omega))⟩
              have HM9 := Aside0.mk (Kd.R_grown2 HM7.out rfl hG9 (fun k hk he => HD.out k (he.symm) (hk)))
              clear hO9 hB9 hG9 hat9 hx9 hn9
              refine hK.out _ _ ?_
              clear hK K
              refine norm_ (a' := ?_) ?_ ?_
              rotate_left
              · show Act.put _ (some 30) _ = _
                simp only [Act.put, List.setIfInBounds_toArray, List.set_cons_zero, List.set_cons_succ, i64_w, i32_w]
                rfl
              refine pure_ (i := 6) (N := some 31) (v := ?_) (a' := ?_) #[true, true, true, true, true, true, true, false] rfl rfl (by kernel_rfl) (fun _ _ _ h => h) (Or.inl ⟨by rfl, ?_⟩) ?_ ?_
              rotate_left
              · intro w'
                go_simp
                with_reducible rfl
              rotate_left
              · simp only [Act.put, List.setIfInBounds_toArray, List.set_cons_zero, List.set_cons_succ, i64_w, i32_w]
                rfl
              refine last_ (i := 7) (N := none) #[true, true, true, true, true, true, true, true] rfl rfl (by kernel_rfl) (by decide) (fun K hK => ?_)
              refine skip_ (w1 := ?_) (by rfl) rfl ?_ ?_
              rotate_left
              · go_simp
                rfl
              refine hK.out _ _ ?_
              clear hK K
              refine done_ (by kernel_rfl) ?_

              go_wp2
              go_roundg (T.length - q3)
              case measure => have := HGK.out; have := HQ.out; have := HQ2.out; have := HQ3.out; omega
              case rel => exact ⟨f', ⟨s.f0, s.f1, s.f2 ++ [t], s.f3⟩, q3, vM, .slice A9 n9 c9, ⟨by have := HFB.out; have := HQ2.out; have := HQ3.out; omega⟩, ⟨Nat.le_refl _⟩, HFN3, ⟨by have := HL1.out; have := HQ2.out; have := HQ3.out; show s.f1.length ≤ q3; omega⟩, ⟨by rw [List.length_append, List.length_singleton]; have := HL2.out; have := HQ2.out; have := HQ3.out; omega⟩, ⟨HP9.out.far (by have := HGG.out; omega) (by have := HWG.out; have := H.out.bl.size; omega) 2 _⟩, ⟨Kept.setCell (S := fun k => k = g) (p := ⟨gs, 2, none⟩) HK9.out (.inr HWG.out) _⟩, ⟨blk_set HX9.out 2 _⟩, ⟨Kd.R_far HM9.out (p := ⟨gs, 2, none⟩) (fun k hk (he : k = gs) => by omega) _⟩, ⟨Kd.R_far HO9.out (p := ⟨gs, 2, none⟩) (fun k hk (he : k = gs) => by omega) _⟩, ⟨fun k hk he => HD9.out k he hk⟩⟩
            · have HFN3 : Aside0 (R = shareL T b.e f' ⟨s.f0, s.f1, s.f2, true⟩ q2) := ⟨by rw [HFN2.out, shareK, if_neg hw, if_neg hw2]⟩
              have t1 : (w.toList == [104, 101, 97, 100, 101, 114]) = false := (eq_word (w := w) (a := wHeader) (by decide +kernel)).trans (decide_eq_false hw2)
              clear hw hw2 HFN2
              have e4 : w5.cell? ⟨gs, 3, none⟩ = some (.bool s.f3) := blk_cell HX5.out 3
              have f4 := blk_frozen HX5.out 3
              go_wp2
              go_roundg (T.length - q2)
              case measure => have := HGK.out; have := HQ.out; have := HQ2.out; omega
              case rel => exact ⟨f', ⟨s.f0, s.f1, s.f2, true⟩, q2, vM, vH, ⟨by have := HFB.out; have := HQ2.out; omega⟩, ⟨Nat.le_refl _⟩, HFN3, ⟨by have := HL1.out; have := HQ2.out; show s.f1.length ≤ q2; omega⟩, ⟨by have := HL2.out; have := HQ2.out; show s.f2.length ≤ q2; omega⟩, ⟨HS5.out.far (by have := HGG.out; omega) (by have := HWG.out; have := H.out.bl.size; omega) 3 _⟩, ⟨Kept.setCell (S := fun k => k = g) (p := ⟨gs, 3, none⟩) HK5.out (.inr HWG.out) _⟩, ⟨blk_set HX5.out 3 _⟩, ⟨Kd.R_far HM5.out (p := ⟨gs, 3, none⟩) (fun k hk (he : k = gs) => by omega) _⟩, ⟨Kd.R_far HH5.out (p := ⟨gs, 3, none⟩) (fun k hk (he : k = gs) => by omega) _⟩, HD⟩
end Go.Proofs.YtngedmioeodmfaaDoor.Ps
namespace Go.Proofs.YtngedmioeodmfaaDoor.Ps
open Go.RowKit Go.Proofs.YtngedmioeodmfaaDoor.Pr Go.Proofs.YtngedmioeodmfaaDoorW.PrintWords Go.Proofs.YtngedmioeodmfaaDoorW.PrintLast Go.Proofs.YtngedmioeodmfaaDoorW.PrintMore
set_option linter.unusedVariables false
set_option linter.unusedSimpArgs false
def litW (s : ByteArray) : Lit := .string s.data.toList
theorem key_mixed : keyOf Tryd.prog 9 (.string wMixed) = some (litW wMixed) := by kernel_rfl
theorem key_default : keyOf Tryd.prog 9 (.string wDefault) = some (litW wDefault) := by kernel_rfl
/-- How often mixed and default were met: a map of at most n entries. -/
def Met (W : World) (gm n : Nat) (mM mD : Nat) : Prop :=
  ∃ D : DataW Unit, W.ownsMap Tryd.prog 9 (plainElem Tryd.prog 3) gm n D ∧ D.atKey (litW wMixed) (.lit (.int .i64 0)) = .lit (.int .i64 mM) ∧ D.atKey (litW wDefault) (.lit (.int .i64 0)) = .lit (.int .i64 mD)
theorem met_made (W : World) : Met (W.alloc (.map #[] 0)) W.heap.size 0 0 0 := ⟨.map [], World.ownsMap_made _ _ _ _, rfl, rfl⟩
theorem Met.kept {W W2 : World} {gm n mM mD : Nat} (h : Met W gm n mM mD) {S : Nat → Prop} (hk : Kept W W2 S) (hs : ¬ S gm) : Met W2 gm n mM mD := by
  obtain ⟨D, hD, h1, h2⟩ := h
  have hlt := hD.lt
  obtain ⟨es, clock, hb, F, hn, he⟩ := hD
  exact ⟨D, ⟨es, clock, (hk.2 gm hlt hs).trans hb, F, hn, he⟩, h1, h2⟩
theorem Met.lt {W : World} {gm n mM mD : Nat} (h : Met W gm n mM mD) : gm < W.heap.size := by
  obtain ⟨D, hD, _⟩ := h
  exact hD.lt
theorem plain_int (m : Nat) (h : m ≤ 2) : plainElem (H := Unit) Tryd.prog 3 (.int .i64 (m : Int)) = some (.lit (.int .i64 (m : Int)), []) := by
  obtain rfl | rfl | rfl : m = 0 ∨ m = 1 ∨ m = 2 := by omega
  · kernel_rfl
  · kernel_rfl
  · kernel_rfl
theorem zero_int (w : World) : (zeroValue 3).run Tryd.prog w = .ok (.int .i64 0) w := by kernel_rfl
/-- The rows of a policy under way, each on blocks of its own. -/
structure IS (w0 W : World) (lo g : Nat) (b : Pb) (st : Pst) (gm : Nat) (okS okR : Nat → Prop) : Prop where
  rC : Kd.string.R 9 W w0.heap.size (fun _ => True) b.v3 st.csp
  rS : k44.R 44 W w0.heap.size okS b.v4 st.shares
  rR : k51.R 51 W w0.heap.size okR b.v6 st.rules
  dC : ∀ k, b.v3.ownBlock = some k → lo ≤ k ∧ k ≠ g ∧ k ≠ gm ∧ ¬ okS k ∧ ¬ okR k
  bS : ∀ k, okS k → k < W.heap.size ∧ lo ≤ k ∧ k ≠ g ∧ k ≠ gm ∧ ¬ okR k
  bR : ∀ k, okR k → k < W.heap.size ∧ lo ≤ k ∧ k ≠ g ∧ k ≠ gm
  ng : gm ≠ g
  l0 : w0.heap.size ≤ lo
  lg : lo ≤ g
  lm : lo ≤ gm
  e5 : b.v5 = .string st.mixed
  e7 : b.v7 = .bool st.allow
  e8 : b.v8 = .int .i64 st.items
  e9 : b.v9 = .map (some gm)
  mt : Met W gm (st.metM + st.metD) st.metM st.metD
  lC : st.csp.length ≤ st.items
  lS : st.shares.length ≤ st.items
  lR : st.rules.length ≤ st.items
  lI : st.items ≤ 60
  lM : st.metM ≤ 1
  lD : st.metD ≤ 1
/-- Behind what writes the parser's own block and new ones only. -/
theorem IS.kept {w0 W W2 : World} {lo g : Nat} {b : Pb} {st : Pst} {gm : Nat} {okS okR : Nat → Prop} (h : IS w0 W lo g b st gm okS okR) (hk : Kept W W2 (fun k => k = g)) : IS w0 W2 lo g b st gm okS okR :=
  { h with
    rC := Kd.R_mono (Kd.R_kept (Kd.R_tight rfl h.rC) hk (fun k he hg => (h.dC k he.symm).2.1 hg)) (fun _ _ => trivial)
    rS := Kd.R_kept h.rS hk (fun k ho hg => (h.bS k ho).2.2.1 hg)
    rR := Kd.R_kept h.rR hk (fun k ho hg => (h.bR k ho).2.2.1 hg)
    bS := fun k ho => ⟨by have := (h.bS k ho).1; have := hk.1; omega, (h.bS k ho).2⟩
    bR := fun k ho => ⟨by have := (h.bR k ho).1; have := hk.1; omega, (h.bR k ho).2⟩
    mt := h.mt.kept hk h.ng }
/-- What an item asks behind the words that may stand once. -/
def restP (T : List Tk) (e : Int) (s1 : Pst) (p : Nat) : Res Pst :=
  if s1.items + 1 > 60 then .error (2, (nxt T e p).f1) else match takeP T e 1 p with
    | .error x => .error x
    | .ok (w, q) => itemK T e { s1 with items := s1.items + 1 } w q
def ItemQ (w0 W : World) (lo g : Nat) (T : List Tk) (b : Pb) (gm : Nat) (r : Res Pst) (e : Ending) (w' : World) : Prop :=
  match r with
  | .ok (st', q) => e = .returned (.tuple #[]) ∧ ∃ b' okS' okR', b'.A = b.A ∧ b'.n = b.n ∧ b'.c = b.c ∧ b'.e = b.e ∧ PS w0 w' g T b' q 0 ∧ IS w0 w' lo g b' st' gm okS' okR' ∧ Kept W w' (fun k => lo ≤ k)
  | .error f => Failed w0 f e w'
/-- How often a word was met, and the state in which it was met once more. -/
def metN (st : Pst) (wd : ByteArray) : Nat := if wd = wMixed then st.metM else st.metD
def raise (st : Pst) (wd : ByteArray) : Pst := if wd = wMixed then { st with metM := st.metM + 1 } else { st with metD := st.metD + 1 }
theorem key_met {wd : ByteArray} (h : wd = wMixed ∨ wd = wDefault) : keyOf Tryd.prog 9 (.string wd) = some (litW wd) := by
  rcases h with rfl | rfl
  · exact key_mixed
  · exact key_default
theorem lit_ne {a b : ByteArray} (h : a ≠ b) : litW a ≠ litW b := fun he => h (by
  have h2 : a.data.toList = b.data.toList := by injection he
  exact ByteArray.ext (Array.ext' h2))
theorem Met.at_ {W : World} {gm : Nat} {st : Pst} (h : Met W gm (st.metM + st.metD) st.metM st.metD) {wd : ByteArray} (hw : wd = wMixed ∨ wd = wDefault) :
    ∃ D : DataW Unit, W.ownsMap Tryd.prog 9 (plainElem Tryd.prog 3) gm (st.metM + st.metD) D ∧ D.atKey (litW wd) (.lit (.int .i64 0)) = .lit (.int .i64 (metN st wd)) ∧
      ∀ W2 : World, W2.ownsMap Tryd.prog 9 (plainElem Tryd.prog 3) gm (st.metM + st.metD + 1) (D.put (litW wd) (.lit (.int .i64 ((metN st wd : Int) + 1)))) → Met W2 gm ((raise st wd).metM + (raise st wd).metD) (raise st wd).metM (raise st wd).metD ∧
        (D.put (litW wd) (.lit (.int .i64 ((metN st wd : Int) + 1)))).atKey (litW wd) (.lit (.int .i64 0)) = .lit (.int .i64 ((metN st wd : Int) + 1)) := by
  obtain ⟨D, hD, h1, h2⟩ := h
  have hM : Go.Maps.IsMap D := by obtain ⟨es, _, _, _, _, rfl⟩ := hD; exact ⟨_, rfl⟩
  have hne : wDefault ≠ wMixed := by decide +kernel
  have k1 : ∀ w : ByteArray, WideAt.IsKeyLit (litW w) := fun w => trivial
  refine ⟨D, hD, ?_, fun W2 h3 => ⟨?_, Go.Maps.atKey_put_same hM (k1 _) _ _⟩⟩
  · rcases hw with rfl | rfl
    · rw [metN, if_pos rfl]; exact h1
    · rw [metN, if_neg hne]; exact h2
  · rcases hw with rfl | rfl
    · simp only [metN, raise, if_true] at h3 ⊢
      refine ⟨_, h3.mono (by omega), ?_, ?_⟩
      · rw [Go.Maps.atKey_put_same hM (k1 _)]; rfl
      · rw [Go.Maps.atKey_put_other (lit_ne hne)]; exact h2
    · simp only [metN, raise, if_neg hne] at h3 ⊢
      refine ⟨_, h3.mono (by omega), ?_, ?_⟩
      · rw [Go.Maps.atKey_put_other (lit_ne (Ne.symm hne))]; exact h1
      · rw [Go.Maps.atKey_put_same hM (k1 _)]; rfl
theorem metN_le {w0 W : World} {lo g : Nat} {b : Pb} {st : Pst} {gm : Nat} {okS okR : Nat → Prop} (h : IS w0 W lo g b st gm okS okR) (wd : ByteArray) : metN st wd ≤ 1 := by
  unfold metN; split
  · exact h.lM
  · exact h.lD
/-- Behind a word that was met once more, for the first time. -/
theorem IS.raise {w0 W W2 : World} {lo g : Nat} {b : Pb} {st : Pst} {gm : Nat} {okS okR : Nat → Prop} (h : IS w0 W lo g b st gm okS okR) (wd : ByteArray) (hz : metN st wd = 0) (hk : Kept W W2 (fun k => k = gm))
    (hm : Met W2 gm ((Ps.raise st wd).metM + (Ps.raise st wd).metD) (Ps.raise st wd).metM (Ps.raise st wd).metD) : IS w0 W2 lo g b (Ps.raise st wd) gm okS okR := by
  have h2 : IS w0 W2 lo g b { st with metM := (Ps.raise st wd).metM, metD := (Ps.raise st wd).metD } gm okS okR :=
    { h with
      rC := Kd.R_mono (Kd.R_kept (Kd.R_tight rfl h.rC) hk (fun k he hg => (h.dC k he.symm).2.2.1 hg)) (fun _ _ => trivial)
      rS := Kd.R_kept h.rS hk (fun k ho hg => (h.bS k ho).2.2.2.1 hg)
      rR := Kd.R_kept h.rR hk (fun k ho hg => (h.bR k ho).2.2.2 hg)
      bS := fun k ho => ⟨by have := (h.bS k ho).1; have := hk.1; omega, (h.bS k ho).2⟩
      bR := fun k ho => ⟨by have := (h.bR k ho).1; have := hk.1; omega, (h.bR k ho).2⟩
      mt := hm
      lM := by
        show (Ps.raise st wd).metM ≤ 1
        have := h.lM
        unfold metN at hz; unfold Ps.raise
        split
        · rename_i he; rw [if_pos he] at hz; show st.metM + 1 ≤ 1; omega
        · exact h.lM
      lD := by
        show (Ps.raise st wd).metD ≤ 1
        unfold metN at hz; unfold Ps.raise
        split
        · exact h.lD
        · rename_i he; rw [if_neg he] at hz; show st.metD + 1 ≤ 1; omega }
  have e : ({ st with metM := (Ps.raise st wd).metM, metD := (Ps.raise st wd).metD } : Pst) = Ps.raise st wd := by
    unfold Ps.raise; split <;> rfl
  rw [← e]; exact h2
end Go.Proofs.YtngedmioeodmfaaDoor.Ps
