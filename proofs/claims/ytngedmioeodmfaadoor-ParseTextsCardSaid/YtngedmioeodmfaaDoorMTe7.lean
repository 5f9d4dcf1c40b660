/- 11 texts of the proof, put together, less what is not used; what a tool printed stands among them. -/
import Derived.Test.YtngedmioeodmfaaDoorMTe6
set_option maxRecDepth 100000
namespace Go.Proofs
open Go.RowKit
theorem nTe7_ {p_ : Prop} (h_ : p_ := by
 simp only [Act.put, List.setIfInBounds_toArray, List.set_cons_zero, List.set_cons_succ, i64_w, i32_w]
 rfl) : p_ := h_
theorem sTe7_0 {p_ : Prop} (h_ : p_ := by
 go_enter Tryd.func40, Tryd.ntmps40
 go_upto_region 1 with (fail)
 rw [← HW1.out]
 go_upto_region 13 with (refine wpList_store_row rfl 46 _ _ rfl w1.heap.size #[.string a0, .string a1] rfl rfl 46 #[.string ⟨#[]⟩, .string ⟨#[]⟩] (blk_new _ _) size_at rfl (by simp [Value.oneCell']) ?_)
 rw [← HWA.out]
 have u0 : wa.cell? ⟨w1.heap.size, 0, none⟩ = some (.string a0) := blk_cell HXA.out 0
 have u1 : wa.cell? ⟨w1.heap.size, 1, none⟩ = some (.string a1) := blk_cell HXA.out 1
 clear t0 t1 t2
 have HZQ2 := HZQ.out
 go_upto_region 17 with (fail)
 have d0 : wa.drew.cell? ⟨w1.heap.size, 0, none⟩ = some (.string a0) := u0
 have d1 : wa.drew.cell? ⟨w1.heap.size, 1, none⟩ = some (.string a1) := u1
 clear u0 u1
 have HQD := Aside0.mk (HQ wa.drew)
 clear HQ
 refine start_ (n := 8) (S := fun w' => w'.cell? ⟨w1.heap.size, 0, none⟩ = some (.string a0) ∧ w'.cell? ⟨w1.heap.size, 1, none⟩ = some (.string a1)) (ds := []) #[false, false, false, false, false, false, false, false] (by kernel_rfl) rfl rfl ⟨d0, d1⟩ (fun hHeld => ?_)
 refine pure_ (i := 0) (N := some 35) (v := ?_) (a' := ?_) #[true, false, false, false, false, false, false, false] rfl rfl (by kernel_rfl) (fun _ _ _ h => h) (Or.inl ⟨by rfl, ?_⟩) ?_ ?_
 rotate_left
 ·intro w'
  go_simp
  with_reducible rfl
 rotate_left
 ·exact nTe7_
 refine pure_ (i := 3) (N := some 38) (v := ?_) (a' := ?_) #[true, false, false, true, false, false, false, false] rfl rfl (by kernel_rfl) (fun _ _ _ h => h) (Or.inl ⟨by rfl, ?_⟩) ?_ ?_
 rotate_left
 ·intro w'
  go_simp
  with_reducible rfl
 rotate_left
 ·exact nTe7_
 refine take_ (i := 1) (N := some 36) (v := ?_) (a' := ?_) #[true, true, false, true, false, false, false, false] rfl rfl (by kernel_rfl) (fun _ _ _ h => h) (Or.inl ⟨by rfl, ?_⟩) hHeld ?_ ?_
 rotate_left
 ·rintro w' ⟨s0, s1⟩
  go_simp
  with_reducible rfl
 rotate_left
 ·exact nTe7_
 refine pure_ (i := 2) (N := some 37) (v := ?_) (a' := ?_) #[true, true, true, true, false, false, false, false] rfl rfl (by kernel_rfl) (fun _ _ _ h => h) (Or.inl ⟨by rfl, ?_⟩) ?_ ?_
 rotate_left
 ·intro w'
  go_simp
  rw [if_neg (by omega)]
 rotate_left
 ·exact nTe7_
 refine take_ (i := 4) (N := some 39) (v := ?_) (a' := ?_) #[true, true, true, true, true, false, false, false] rfl rfl (by kernel_rfl) (fun _ _ _ h => h) (Or.inl ⟨by rfl, ?_⟩) hHeld ?_ ?_
 rotate_left
 ·rintro w' ⟨s0, s1⟩
  go_simp
  with_reducible rfl
 rotate_left
 ·exact nTe7_
 refine one_ (i := 5) (N := some 40) #[true, true, true, true, true, true, false, false] rfl rfl (by kernel_rfl) (by decide) (fun K hK => ?_)
 refine goes_ Tryd.func38 (by kernel_rfl) rfl #[.string a1] (by rfl) rfl rfl (by simp only [List.map_toArray, List.map_cons, List.map_nil]; rfl) ?_
 refine HQD.out.mono ?_
 rintro e w6 ⟨rfl, hb6⟩
 refine ⟨_, rfl, ?_⟩
 have HB6 : Aside0 (Below w.heap.size w w6) := ⟨(below_drew HBA.out).trans (hb6.mono HBA.out.size)⟩
 have HX6 : Aside0 (w6.heap[w1.heap.size]? = some (.cells #[.string a0, .string a1] 46 (0, 0))) := ⟨blk_below (show wa.drew.heap[w1.heap.size]? = _ from HXA.out) hb6⟩
 clear hb6
 refine hK.out _ _ ⟨(blk_cell HX6.out 0), (blk_cell HX6.out 1)⟩ (fun hHeld => ?_)
 clear hK K
 refine norm_ (a' := ?_) ?_ ?_
 rotate_left
 ·show Act.put _ (some 40) _ = _
  exact nTe7_
 refine pure_ (i := 6) (N := some 41) (v := ?_) (a' := ?_) #[true, true, true, true, true, true, true, false] rfl rfl (by kernel_rfl) (fun _ _ _ h => h) (Or.inl ⟨by rfl, ?_⟩) ?_ ?_
 rotate_left
 ·intro w'
  go_simp
  rw [if_neg (by omega)]
 rotate_left
 ·exact nTe7_
 refine pure_ (i := 7) (N := some 2) (v := ?_) (a' := ?_) #[true, true, true, true, true, true, true, true] rfl rfl (by kernel_rfl) (fun _ _ _ h => h) (Or.inl ⟨by rfl, ?_⟩) ?_ ?_
 rotate_left
 ·intro w'
  go_simp
  with_reducible rfl
 rotate_left
 ·exact nTe7_
 refine done_ (by kernel_rfl) ?_
 
 go_wp2
 go_ret
 exact ⟨by rw [HT.out]; rfl, HB6.out⟩) : p_ := h_
theorem sTe7_1 {p_ : Prop} (h_ : p_ := by
 go_enter Tryd.func44, Tryd.ntmps44
 go_upto_region 1 with (fail)
 rw [← HW1.out]
 go_upto_region 15 with (refine wpList_store_row rfl 46 _ _ rfl w1.heap.size #[.string a0, .string a1] rfl rfl 46 #[.string ⟨#[]⟩, .string ⟨#[]⟩] (blk_new _ _) size_at rfl (by simp [Value.oneCell']) ?_)
 rw [← HWA.out]
 have u0 : wa.cell? ⟨w1.heap.size, 0, none⟩ = some (.string a0) := blk_cell HXA.out 0
 have u1 : wa.cell? ⟨w1.heap.size, 1, none⟩ = some (.string a1) := blk_cell HXA.out 1
 clear t0 t1 t2 t3
 go_upto_region 18 with (fail)
 have d0 : wa.drew.cell? ⟨w1.heap.size, 0, none⟩ = some (.string a0) := u0
 have d1 : wa.drew.cell? ⟨w1.heap.size, 1, none⟩ = some (.string a1) := u1
 clear u0 u1
 have HQD := Aside0.mk (HQ wa.drew)
 clear HQ
 refine start_ (n := 8) (S := fun w' => w'.cell? ⟨w1.heap.size, 0, none⟩ = some (.string a0) ∧ w'.cell? ⟨w1.heap.size, 1, none⟩ = some (.string a1)) (ds := []) #[false, false, false, false, false, false, false, false] (by kernel_rfl) rfl rfl ⟨d0, d1⟩ (fun hHeld => ?_)
 refine pure_ (i := 0) (N := some 41) (v := ?_) (a' := ?_) #[true, false, false, false, false, false, false, false] rfl rfl (by kernel_rfl) (fun _ _ _ h => h) (Or.inl ⟨by rfl, ?_⟩) ?_ ?_
 rotate_left
 ·intro w'
  go_simp
  with_reducible rfl
 rotate_left
 ·exact nTe7_
 refine pure_ (i := 3) (N := some 44) (v := ?_) (a' := ?_) #[true, false, false, true, false, false, false, false] rfl rfl (by kernel_rfl) (fun _ _ _ h => h) (Or.inl ⟨by rfl, ?_⟩) ?_ ?_
 rotate_left
 ·intro w'
  go_simp
  with_reducible rfl
 rotate_left
 ·exact nTe7_
 refine take_ (i := 1) (N := some 42) (v := ?_) (a' := ?_) #[true, true, false, true, false, false, false, false] rfl rfl (by kernel_rfl) (fun _ _ _ h => h) (Or.inl ⟨by rfl, ?_⟩) hHeld ?_ ?_
 rotate_left
 ·rintro w' ⟨s0, s1⟩
  go_simp
  with_reducible rfl
 rotate_left
 ·exact nTe7_
 refine pure_ (i := 2) (N := some 43) (v := ?_) (a' := ?_) #[true, true, true, true, false, false, false, false] rfl rfl (by kernel_rfl) (fun _ _ _ h => h) (Or.inl ⟨by rfl, ?_⟩) ?_ ?_
 rotate_left
 ·intro w'
  go_simp
  rw [if_neg (by omega)]
 rotate_left
 ·exact nTe7_
 refine take_ (i := 4) (N := some 45) (v := ?_) (a' := ?_) #[true, true, true, true, true, false, false, false] rfl rfl (by kernel_rfl) (fun _ _ _ h => h) (Or.inl ⟨by rfl, ?_⟩) hHeld ?_ ?_
 rotate_left
 ·rintro w' ⟨s0, s1⟩
  go_simp
  with_reducible rfl
 rotate_left
 ·exact nTe7_
 refine one_ (i := 5) (N := some 46) #[true, true, true, true, true, true, false, false] rfl rfl (by kernel_rfl) (by decide) (fun K hK => ?_)
 refine goes_ Tryd.func42 (by kernel_rfl) rfl #[.string a1] (by rfl) rfl rfl (by simp only [List.map_toArray, List.map_cons, List.map_nil]; rfl) ?_
 refine HQD.out.mono ?_
 rintro e w6 ⟨rfl, hb6⟩
 refine ⟨_, rfl, ?_⟩
 have HB6 : Aside0 (Below w.heap.size w w6) := ⟨(below_drew HBA.out).trans (hb6.mono HBA.out.size)⟩
 have HX6 : Aside0 (w6.heap[w1.heap.size]? = some (.cells #[.string a0, .string a1] 46 (0, 0))) := ⟨blk_below (show wa.drew.heap[w1.heap.size]? = _ from HXA.out) hb6⟩
 clear hb6
 refine hK.out _ _ ⟨(blk_cell HX6.out 0), (blk_cell HX6.out 1)⟩ (fun hHeld => ?_)
 clear hK K
 refine norm_ (a' := ?_) ?_ ?_
 rotate_left
 ·show Act.put _ (some 46) _ = _
  exact nTe7_
 refine pure_ (i := 6) (N := some 47) (v := ?_) (a' := ?_) #[true, true, true, true, true, true, true, false] rfl rfl (by kernel_rfl) (fun _ _ _ h => h) (Or.inl ⟨by rfl, ?_⟩) ?_ ?_
 rotate_left
 ·intro w'
  go_simp
  rw [if_neg (by omega)]
 rotate_left
 ·exact nTe7_
 refine pure_ (i := 7) (N := some 2) (v := ?_) (a' := ?_) #[true, true, true, true, true, true, true, true] rfl rfl (by kernel_rfl) (fun _ _ _ h => h) (Or.inl ⟨by rfl, ?_⟩) ?_ ?_
 rotate_left
 ·intro w'
  go_simp
  with_reducible rfl
 rotate_left
 ·exact nTe7_
 refine done_ (by kernel_rfl) ?_
 
 go_wp2_with fail
 go_ret
 exact ⟨rfl, HB6.out⟩) : p_ := h_
theorem sTe7_2 {p_ : Prop} (h_ : p_ := by
 go_enter Tryd.func40, Tryd.ntmps40
 go_upto_region 1 with (fail)
 rw [← HW1.out]
 go_upto_region 13 with (refine wpList_store_row rfl 46 _ _ rfl w1.heap.size #[.string a0, .string a1] rfl rfl 46 #[.string ⟨#[]⟩, .string ⟨#[]⟩] (blk_new _ _) size_at rfl (by simp [Value.oneCell']) ?_)
 rw [← HWA.out]
 have u0 : wa.cell? ⟨w1.heap.size, 0, none⟩ = some (.string a0) := blk_cell HXA.out 0
 have u1 : wa.cell? ⟨w1.heap.size, 1, none⟩ = some (.string a1) := blk_cell HXA.out 1
 clear t0 t1 t2
 go_wp2
 go_ret
 exact ⟨by rw [HT.out]; rfl, HBA.out⟩) : p_ := h_
theorem sTe7_3 {p_ : Prop} (h_ : p_ := by
 go_enter Tryd.func44, Tryd.ntmps44
 go_upto_region 1 with (fail)
 rw [← HW1.out]
 go_upto_region 15 with (refine wpList_store_row rfl 46 _ _ rfl w1.heap.size #[.string a0, .string a1] rfl rfl 46 #[.string ⟨#[]⟩, .string ⟨#[]⟩] (blk_new _ _) size_at rfl (by simp [Value.oneCell']) ?_)
 rw [← HWA.out]
 have u0 : wa.cell? ⟨w1.heap.size, 0, none⟩ = some (.string a0) := blk_cell HXA.out 0
 have u1 : wa.cell? ⟨w1.heap.size, 1, none⟩ = some (.string a1) := blk_cell HXA.out 1
 clear t0 t1 t2 t3
 go_wp2_with fail
 go_ret
 exact ⟨rfl, HBA.out⟩) : p_ := h_
theorem sTe7_4 {p_ : Prop} (h_ : p_ := by
 go_enter Tryd.func68, Tryd.ntmps68
 go_upto_region 1 with (fail)
 rw [← HW1.out]
 go_wp2_with (refine wpList_load_row rfl 49 _ rfl w.heap.size rfl 49 #[.int .i64 k, .string a0, .string a1, .slice A n c3] (0, 0) _ HX.out Tryd.underlying49 rfl size_cd ?_)
 refine H1.out.mono ?_
 rintro e w2 ⟨rfl, hb⟩
 dsimp only
 have HB2 : Aside0 (Below w.heap.size w w2) := ⟨HB1.out.trans (hb.mono HB1.out.size)⟩
 clear hb
 go_wp2
 go_ret
 exact ⟨rfl, HB2.out⟩) : p_ := h_
theorem sTe7_5 {p_ : Prop} (h_ : p_ := by
 go_enter Tryd.func40, Tryd.ntmps40
 go_upto_region 1 with (fail)
 rw [← HW1.out]
 go_wp2_with fail
 refine HJ.out.mono ?_
 rintro e w2 ⟨rfl, hb2⟩
 dsimp only
 have HB2 : Aside0 (Below w.heap.size w w2) := ⟨HB1.out.trans (hb2.mono HB1.out.size)⟩
 clear hb2
 obtain ⟨j, hj⟩ : ∃ j, j = joinB (amongsT l) bAnd := ⟨_, rfl⟩
 rw [← hj] at HT HZJ ⊢
 have hjs := HZJ.out
 clear hj
 go_wp2
 go_ret
 exact ⟨by rw [HT.out]; rfl, HB2.out⟩) : p_ := h_
theorem sTe7_6 {p_ : Prop} (h_ : p_ := by
 go_enter Tryd.func44, Tryd.ntmps44
 go_upto_region 1 with (fail)
 rw [← HW1.out]
 go_wp2_with fail
 refine HJ.out.mono ?_
 rintro e w2 ⟨rfl, hb2⟩
 dsimp only
 have HB2 : Aside0 (Below w.heap.size w w2) := ⟨HB1.out.trans (hb2.mono HB1.out.size)⟩
 clear hb2
 go_wp2_with fail
 go_ret
 exact ⟨rfl, HB2.out⟩) : p_ := h_
end Go.Proofs
namespace Go.Proofs.YtngedmioeodmfaaDoor.Pu
open Go.RowKit Go.Proofs.YtngedmioeodmfaaDoor.Pr Go.Proofs.YtngedmioeodmfaaDoorW.PrintWords Go.Proofs.YtngedmioeodmfaaDoorW.PrintLast Go.Proofs.YtngedmioeodmfaaDoorW.PrintMore Go.Proofs.YtngedmioeodmfaaDoor.Lx
open Go.Proofs.YtngedmioeodmfaaDoor.Ps hiding Tk
inductive OkT : Cd → Prop
 | mk (c : Cd) (hk : ∀ k ∈ c.f2, OkT k) (h0 : c.f0 = 4 ∨ c.f0 = 5 ∨ c.f0 = 6 → 0 < c.f2.length) (hl : c.f2.length ≤ 1000000) (ha : c.f1.f0.size ≤ 1000000) (hb : c.f1.f1.size ≤ 1000000) (hz : (condT c).size ≤ 1000000000) : OkT c
theorem OkT.size {c : Cd} (h : OkT c) : (condT c).size ≤ 1000000000 := by cases h; assumption
theorem and_join : bSp ++ (⟨#[97, 110, 100]⟩ : ByteArray) ++ bSp = bAnd := by decide +kernel
theorem or_join : bSp ++ (⟨#[111, 114]⟩ : ByteArray) ++ bSp = bOr := by decide +kernel
set_option maxHeartbeats 16000000
set_option maxRecDepth 100000
theorem condition_calls {c : Cd} (h : OkT c) : TxC c := by
 induction h with
 | mk c hkk h0 hl ha hb hz ih =>
 intro A c3 w hC hcap
 have hall : ∀ k ∈ c.f2, TxC k ∧ (condT k).size ≤ 1000000000 := fun k hk => ⟨ih k hk, (hkk k hk).size⟩
 have hE := condT_eq c
 obtain ⟨n, hn⟩ : ∃ n, n = c.f2.length := ⟨_, rfl⟩
 obtain ⟨l, hll⟩ : ∃ l, l = c.f2 := ⟨_, rfl⟩
 obtain ⟨t, ht⟩ : ∃ t, t = condT c := ⟨_, rfl⟩
 unfold cdV
 rw [← hn]
 rw [← hll] at hn hC h0 hl hall hE hcap
 rw [← hn] at hcap
 rw [← ht] at hE hz ⊢
 obtain ⟨k, hk⟩ : ∃ k, k = c.f0 := ⟨_, rfl⟩
 obtain ⟨a0, ha0⟩ : ∃ a, a = c.f1.f0 := ⟨_, rfl⟩
 obtain ⟨a1, ha1⟩ : ∃ a, a = c.f1.f1 := ⟨_, rfl⟩
 rw [← hk, ← ha0, ← ha1] at hE ⊢
 rw [← ha0] at ha
 rw [← ha1] at hb
 rw [← hk] at h0
 clear ht hll hk ha0 ha1 hkk ih
 obtain ⟨w1, hw1⟩ : ∃ w1, w1 = w.alloc (.cells #[.int .i64 k, .string a0, .string a1, .slice A n c3] 49) := ⟨_, rfl⟩
 have HX : Aside0 (w1.heap[w.heap.size]? = some (.cells #[.int .i64 k, .string a0, .string a1, .slice A n c3] 49 (0, 0))) := ⟨by rw [hw1]; exact blk_new _ _⟩
 have HB1 : Aside0 (Below w.heap.size w w1) := ⟨by rw [hw1]; exact below_alloc (Below.refl _ _) _⟩
 have HC1 : Aside0 (k49.C w1 A l.length l) := ⟨by rw [hw1]; exact Kd.C_alloc hC _⟩
 have HW1 := Aside0.mk hw1
 have HE := Aside0.mk hE
 have H0 := Aside0.mk h0
 have HL := Aside0.mk hl
 have HALL := Aside0.mk hall
 have HN := Aside0.mk hn
 have HZ := Aside0.mk hz
 have HWS : w.heap.size < w1.heap.size := blk_lt HX.out
 have t0 : w1.cell? ⟨w.heap.size, 0, none⟩ = some (.int .i64 k) := blk_cell HX.out 0
 have t1 : w1.cell? ⟨w.heap.size, 1, none⟩ = some (.string a0) := blk_cell HX.out 1
 have t2 : w1.cell? ⟨w.heap.size, 2, none⟩ = some (.string a1) := blk_cell HX.out 2
 have t3 : w1.cell? ⟨w.heap.size, 3, none⟩ = some (.slice A n c3) := blk_cell HX.out 3
 clear hw1 hE h0 hl hall hn hz hC
 by_cases hk : k = 1
 ·have HT : Aside0 (t = wTrue) := ⟨by have h := HE.out; subst hk; simpa using h⟩
  subst hk
  go_enter Tryd.func40, Tryd.ntmps40
  go_upto_region 1 with (fail)
  rw [← HW1.out]
  go_wp2
  go_ret
  exact ⟨by rw [HT.out]; rfl, HB1.out⟩
 ·have l1 : (k == (1 : Int)) = false := by simp [hk]
  have HK1 := Aside0.mk hk
  clear hk
  by_cases hk : k = 2
  ·have HT : Aside0 (t = wFalse) := ⟨by have h := HE.out; subst hk; simpa using h⟩
   subst hk
   go_enter Tryd.func40, Tryd.ntmps40
   go_upto_region 1 with (fail)
   rw [← HW1.out]
   go_wp2
   go_ret
   exact ⟨by rw [HT.out]; rfl, HB1.out⟩
  ·have l2 : (k == (2 : Int)) = false := by simp [hk]
   have HK2 := Aside0.mk hk
   clear hk
   by_cases hk : k = 4
   ·have HT : Aside0 (t = bNot ++ joinB (amongsT l) bAnd) := ⟨by have h := HE.out; subst hk; simpa using h⟩
    have hne : 0 < l.length := H0.out (by simp [hk])
    have HZJ : Aside0 ((joinB (amongsT l) bAnd).size ≤ 1000000000) := ⟨by
     have h := HZ.out
     rw [HT.out] at h
     rw [ByteArray.size_append] at h; omega⟩
    have HJ : Aside0 (Calls Tryd.prog 64 #[.slice A n c3, .string ⟨#[97, 110, 100]⟩] w1 fun e w' => e = .returned (.string (joinB (amongsT l) bAnd)) ∧ Below w1.heap.size w1 w') := ⟨by
     have h := joined_calls l HALL.out hne HL.out ⟨#[97, 110, 100]⟩ (by decide) (by rw [and_join]; have := HZJ.out; omega) A n c3 w1 HC1.out HN.out hcap
     rw [and_join] at h
     exact h⟩
    clear hne
    subst hk
    exact sTe7_5
   ·have l4 : (k == (4 : Int)) = false := by simp [hk]
    have HK4 := Aside0.mk hk
    clear hk
    by_cases hk : k = 5
    ·have HT : Aside0 (t = joinB (amongsT l) bAnd) := ⟨by have h := HE.out; subst hk; simpa using h⟩
     have hne : 0 < l.length := H0.out (by simp [hk])
     have HZJ : Aside0 ((joinB (amongsT l) bAnd).size ≤ 1000000000) := ⟨by
      have h := HZ.out
      rw [HT.out] at h
      exact h⟩
     have HJ : Aside0 (Calls Tryd.prog 64 #[.slice A n c3, .string ⟨#[97, 110, 100]⟩] w1 fun e w' => e = .returned (.string (joinB (amongsT l) bAnd)) ∧ Below w1.heap.size w1 w') := ⟨by
      have h := joined_calls l HALL.out hne HL.out ⟨#[97, 110, 100]⟩ (by decide) (by rw [and_join]; have := HZJ.out; omega) A n c3 w1 HC1.out HN.out hcap
      rw [and_join] at h
      exact h⟩
     clear hne
     subst hk
     exact sTe7_5
    ·have l5 : (k == (5 : Int)) = false := by simp [hk]
     have HK5 := Aside0.mk hk
     clear hk
     by_cases hk : k = 6
     ·have HT : Aside0 (t = joinB (amongsT l) bOr) := ⟨by have h := HE.out; subst hk; simpa using h⟩
      have hne : 0 < l.length := H0.out (by simp [hk])
      have HZJ : Aside0 ((joinB (amongsT l) bOr).size ≤ 1000000000) := ⟨by
       have h := HZ.out
       rw [HT.out] at h
       exact h⟩
      have HJ : Aside0 (Calls Tryd.prog 64 #[.slice A n c3, .string ⟨#[111, 114]⟩] w1 fun e w' => e = .returned (.string (joinB (amongsT l) bOr)) ∧ Below w1.heap.size w1 w') := ⟨by
       have h := joined_calls l HALL.out hne HL.out ⟨#[111, 114]⟩ (by decide) (by rw [or_join]; have := HZJ.out; omega) A n c3 w1 HC1.out HN.out hcap
       rw [or_join] at h
       exact h⟩
      clear hne
      subst hk
      go_enter Tryd.func40, Tryd.ntmps40
      go_upto_region 1 with (fail)
      rw [← HW1.out]
      go_wp2_with fail
      refine HJ.out.mono ?_
      rintro e w2 ⟨rfl, hb2⟩
      dsimp only
      have HB2 : Aside0 (Below w.heap.size w w2) := ⟨HB1.out.trans (hb2.mono HB1.out.size)⟩
      clear hb2
      obtain ⟨j, hj⟩ : ∃ j, j = joinB (amongsT l) bOr := ⟨_, rfl⟩
      rw [← hj] at HT HZJ ⊢
      have hjs := HZJ.out
      clear hj
      go_wp2
      go_ret
      exact ⟨by rw [HT.out]; rfl, HB2.out⟩
     ·have l6 : (k == (6 : Int)) = false := by simp [hk]
      have HK6 := Aside0.mk hk
      clear hk
      have HE2 : Aside0 (t = if a0 = wHost ∨ a0 = wPath then a0 ++ bSp ++ quoteB a1 else if a0 = wMethod ∨ a0 = wDest ∨ a0 = wScheme ∨ a0 = wHeader then a0 ++ bSp ++ a1 else a0) := ⟨by
       have h := HE.out
       rwa [if_neg HK1.out, if_neg HK2.out, if_neg HK4.out, if_neg HK5.out, if_neg HK6.out] at h⟩
      clear HE H0 HK1 HK2 HK4 HK5 HK6 t3
      obtain ⟨wa, hwa⟩ : ∃ wa, wa = (w1.alloc (.cells #[.string ⟨#[]⟩, .string ⟨#[]⟩] 46)).setRow w1.heap.size #[.string a0, .string a1] := ⟨_, rfl⟩
      have HBA : Aside0 (Below w.heap.size w wa) := ⟨by rw [hwa]; exact HB1.out.trans ((below_setRow (below_alloc (Below.refl _ _) _) (Nat.le_refl _) _).mono HB1.out.size)⟩
      have HXA : Aside0 (wa.heap[w1.heap.size]? = some (.cells #[.string a0, .string a1] 46 (0, 0))) := ⟨by rw [hwa]; exact setRow_heap _ _ _ _ _ _ (blk_new w1 (.cells #[.string ⟨#[]⟩, .string ⟨#[]⟩] 46))⟩
      have HWA := Aside0.mk hwa
      have HQ := quote_calls a1 hb
      clear hwa
      by_cases hw0 : a0 = wHost
      ·have s0 : (a0.toList == [104, 111, 115, 116]) = true := (eq_word (w := a0) (a := wHost) (by decide +kernel)).trans (decide_eq_true hw0)
       have HT : Aside0 (t = a0 ++ bSp ++ quoteB a1) := ⟨by have h := HE2.out; rwa [if_pos (by simp [hw0])] at h⟩
       clear hw0
       have HZQ : Aside0 ((quoteB a1).size ≤ 1000000000) := ⟨by have h := HZ.out; rw [HT.out, ByteArray.size_append] at h; omega⟩
       exact sTe7_0
      ·have s0 : (a0.toList == [104, 111, 115, 116]) = false := (eq_word (w := a0) (a := wHost) (by decide +kernel)).trans (decide_eq_false hw0)
       have HW0N := Aside0.mk hw0
       clear hw0
       by_cases hw1 : a0 = wPath
       ·have s1 : (a0.toList == [112, 97, 116, 104]) = true := (eq_word (w := a0) (a := wPath) (by decide +kernel)).trans (decide_eq_true hw1)
        have HT : Aside0 (t = a0 ++ bSp ++ quoteB a1) := ⟨by have h := HE2.out; rwa [if_pos (by simp [hw1])] at h⟩
        clear hw1 HW0N
        have HZQ : Aside0 ((quoteB a1).size ≤ 1000000000) := ⟨by have h := HZ.out; rw [HT.out, ByteArray.size_append] at h; omega⟩
        exact sTe7_0
       ·have s1 : (a0.toList == [112, 97, 116, 104]) = false := (eq_word (w := a0) (a := wPath) (by decide +kernel)).trans (decide_eq_false hw1)
        have HW1N := Aside0.mk hw1
        clear hw1
        by_cases hw2 : a0 = wMethod
        ·have s2 : (a0.toList == [109, 101, 116, 104, 111, 100]) = true := (eq_word (w := a0) (a := wMethod) (by decide +kernel)).trans (decide_eq_true hw2)
         have HT : Aside0 (t = a0 ++ bSp ++ a1) := ⟨by have h := HE2.out; rwa [if_neg (fun h => h.elim HW0N.out HW1N.out), if_pos (by simp [hw2])] at h⟩
         clear hw2
         exact sTe7_2
        ·have s2 : (a0.toList == [109, 101, 116, 104, 111, 100]) = false := (eq_word (w := a0) (a := wMethod) (by decide +kernel)).trans (decide_eq_false hw2)
         have HW2N := Aside0.mk hw2
         clear hw2
         by_cases hw3 : a0 = wDest
         ·have s3 : (a0.toList == [100, 101, 115, 116]) = true := (eq_word (w := a0) (a := wDest) (by decide +kernel)).trans (decide_eq_true hw3)
          have HT : Aside0 (t = a0 ++ bSp ++ a1) := ⟨by have h := HE2.out; rwa [if_neg (fun h => h.elim HW0N.out HW1N.out), if_pos (by simp [hw3])] at h⟩
          clear hw3
          exact sTe7_2
         ·have s3 : (a0.toList == [100, 101, 115, 116]) = false := (eq_word (w := a0) (a := wDest) (by decide +kernel)).trans (decide_eq_false hw3)
          have HW3N := Aside0.mk hw3
          clear hw3
          by_cases hw4 : a0 = wScheme
          ·have s4 : (a0.toList == [115, 99, 104, 101, 109, 101]) = true := (eq_word (w := a0) (a := wScheme) (by decide +kernel)).trans (decide_eq_true hw4)
           have HT : Aside0 (t = a0 ++ bSp ++ a1) := ⟨by have h := HE2.out; rwa [if_neg (fun h => h.elim HW0N.out HW1N.out), if_pos (by simp [hw4])] at h⟩
           clear hw4
           exact sTe7_2
          ·have s4 : (a0.toList == [115, 99, 104, 101, 109, 101]) = false := (eq_word (w := a0) (a := wScheme) (by decide +kernel)).trans (decide_eq_false hw4)
           have HW4N := Aside0.mk hw4
           clear hw4
           by_cases hw5 : a0 = wHeader
           ·have s5 : (a0.toList == [104, 101, 97, 100, 101, 114]) = true := (eq_word (w := a0) (a := wHeader) (by decide +kernel)).trans (decide_eq_true hw5)
            have HT : Aside0 (t = a0 ++ bSp ++ a1) := ⟨by have h := HE2.out; rwa [if_neg (fun h => h.elim HW0N.out HW1N.out), if_pos (by simp [hw5])] at h⟩
            clear hw5
            exact sTe7_2
           ·have s5 : (a0.toList == [104, 101, 97, 100, 101, 114]) = false := (eq_word (w := a0) (a := wHeader) (by decide +kernel)).trans (decide_eq_false hw5)
            have HW5N := Aside0.mk hw5
            clear hw5
            have HT : Aside0 (t = a0) := ⟨by
             have h := HE2.out
             rwa [if_neg (fun h => h.elim HW0N.out HW1N.out), if_neg (fun h => h.elim HW2N.out fun h => h.elim HW3N.out fun h => h.elim HW4N.out HW5N.out)] at h⟩
            exact sTe7_2
def bCsp : ByteArray := ⟨#[99, 115, 112, 32]⟩
def bShare : ByteArray := ⟨#[115, 104, 97, 114, 101, 32]⟩
def bMeth : ByteArray := ⟨#[32, 109, 101, 116, 104, 111, 100, 32]⟩
def bHead : ByteArray := ⟨#[32, 104, 101, 97, 100, 101, 114, 32]⟩
def bCred : ByteArray := ⟨#[32, 99, 114, 101, 100, 115]⟩
def bMix : ByteArray := ⟨#[109, 105, 120, 101, 100, 32]⟩
def bDef : ByteArray := ⟨#[100, 101, 102, 97, 117, 108, 116, 32]⟩
def bIf : ByteArray := ⟨#[32, 105, 102, 32]⟩
def bSemi : ByteArray := ⟨#[59, 10]⟩
def sayB (b : Bool) : ByteArray := if b then wAllow else wDeny
def addAll (pre a : ByteArray) (l : List ByteArray) : ByteArray := l.foldl (fun a m => a ++ (pre ++ m)) a
def cspT (s : ByteArray) : ByteArray := bCsp ++ quoteB s
def shareT (s : S44) : ByteArray :=
 let x := addAll bHead (addAll bMeth (bShare ++ quoteB s.f0) s.f1) s.f2
 if s.f3 then x ++ bCred else x
def ruleT (r : S51) : ByteArray := sayB r.f0 ++ bIf ++ condT r.f1
def linesT (csp : List ByteArray) (sh : List (S44)) (mixed : ByteArray) (rules : List (S51)) (allow : Bool) : List ByteArray :=
 csp.map cspT ++ sh.map shareT ++ [bMix ++ mixed] ++ rules.map ruleT ++ [bDef ++ sayB allow]
def polText (csp : List ByteArray) (sh : List (S44)) (mixed : ByteArray) (rules : List (S51)) (allow : Bool) : ByteArray := joinB (linesT csp sh mixed rules allow) bSemi ++ bSemi
structure OkP (csp : List ByteArray) (sh : List (S44)) (mixed : ByteArray) (rules : List (S51)) (allow : Bool) : Prop where
 cl : csp.length ≤ 100000
 cs : ∀ s ∈ csp, s.size ≤ 1000000 ∧ (quoteB s).size ≤ 10000000
 sl : sh.length ≤ 100000
 ss : ∀ s ∈ sh, s.f0.size ≤ 1000000 ∧ (quoteB s.f0).size ≤ 10000000
 sm : ∀ s ∈ sh, s.f1.length ≤ 1000000 ∧ ∀ m ∈ s.f1, m.size ≤ 1000000
 sn : ∀ s ∈ sh, s.f2.length ≤ 1000000 ∧ ∀ m ∈ s.f2, m.size ≤ 1000000
 mx : mixed.size ≤ 1000000
 rl : rules.length ≤ 100000
 rr : ∀ r ∈ rules, OkT r.f1
 zz : (joinB (linesT csp sh mixed rules allow) bSemi).size ≤ 100000000000000
theorem take_map {α β : Type} (f : α → β) (l : List α) {i : Nat} (h : i < l.length) : (l.map f).take (i + 1) = (l.map f).take i ++ [f l[i]] := by
 rw [List.take_add_one, List.getElem?_map, List.getElem?_eq_getElem h]; rfl
theorem addAll_next (pre a : ByteArray) (l : List ByteArray) {i : Nat} (h : i < l.length) : addAll pre a (l.take (i + 1)) = addAll pre a (l.take i) ++ (pre ++ l[i]) := by
 simp only [addAll, List.take_add_one, List.getElem?_eq_getElem h, Option.toList_some, List.foldl_append, List.foldl_cons, List.foldl_nil]
theorem rd_str {l : List ByteArray} {i : Nat} (h : i < l.length) : rdOf ByteArray.empty l (i : Int) = l[i] := by simp [rdOf, h]
theorem goesV_ {P : Program} {ops : Array Oper} {Q : Exit → Act → World → Prop} {oi : Oper} {N : Option Tmp} {a : Act} {w : World} {K : Act → World → Prop} {f : FuncId} {fn : Func} {x : Operand} {as_ : Array Operand} {ts : Array TypeId} (hf : P.funcs[f]? = some fn) (hname : (fn.name == "runtime.NumGoroutine") = false) (hb : fn.body.isSome = true) (args : Array Value)
  (hw : Region.wanted oi (yielded ops a.tmps) = true) (hN : oi.dst = N) (hop : oi.op = .call { callee := .value x, args := as_, argTypes := ts }) (hx : a.eval x = a.eval (.func f)) (hargs : as_.map a.eval = args)
  (h : Calls P f args w fun e w' => ∃ v, e = .returned v ∧ K (a.put N v) w') : if Region.wanted oi (yielded ops a.tmps) = true then Oper.wp P oi a w K Q else K (a.put N undef) w := by
 refine call_ f args hw hN ?_ h
 have he := enters_ hf hname hb args w
 have hx2 : a.eval x = .func (.func f) #[] #[] := hx
 unfold execOp
 simp [hop, resolve, Deferred.ofValue, invoke, hx2, hargs, he]
theorem size_rule : (Tryd.prog.info? 51).map (·.size) = some 5 := by kernel_rfl
theorem says_calls (b : Bool) (w : World) : Calls Tryd.prog 39 #[.bool b] w fun e w' => e = .returned (.string (sayB b)) ∧ Below w.heap.size w w' := by
 cases b
 ·go_enter Tryd.func39, Tryd.ntmps39
  go_wp2
  go_ret
  exact ⟨rfl, Below.refl _ _⟩
 ·go_enter Tryd.func39, Tryd.ntmps39
  go_wp2
  go_ret
  exact ⟨rfl, Below.refl _ _⟩
end Go.Proofs.YtngedmioeodmfaaDoor.Pu
namespace Go.Proofs.YtngedmioeodmfaaDoor.Pu
open Go.RowKit Go.Proofs.YtngedmioeodmfaaDoor.Pr Go.Proofs.YtngedmioeodmfaaDoorW.PrintWords Go.Proofs.YtngedmioeodmfaaDoor.Lx
open Go.Proofs.YtngedmioeodmfaaDoor.Ps hiding Tk
def WordT (w : ByteArray) : Prop := (∃ c l, bytesOf w = c :: l ∧ pBlank c = false ∧ c ≠ 35 ∧ pLetter c = true ∧ ∀ x ∈ l, pWord x = true) ∧ w.size ≤ 3000
def StrT (s : ByteArray) : Prop := (∀ x ∈ bytesOf s, x ≠ 10) ∧ V (bytesOf s) ∧ s.size ≤ 3000
theorem bytes_quote (s : ByteArray) : bytesOf (quoteB s) = quoteL (bytesOf s) := by
 exact bytesOf_str _ (quoteL_rng (bytesOf_range s))
inductive Shape : Cd → Prop
 | true_ : Shape (cond0 1 [])
 | false_ : Shape (cond0 2 [])
 | bare (w : ByteArray) (hw : w ∈ [wSame, wTrusted, wCreds, wCors]) : Shape ⟨3, ⟨w, ⟨#[]⟩⟩, []⟩
 | wordA (w t : ByteArray) (hw : w ∈ [wMethod, wDest, wScheme, wHeader]) (ht : WordT t) (hlow : w ≠ wMethod → lowB t = t) : Shape ⟨3, ⟨w, t⟩, []⟩
 | strA (w t : ByteArray) (hw : w ∈ [wHost, wPath]) (ht : StrT t) : Shape ⟨3, ⟨w, t⟩, []⟩
 | not_ (c : Cd) (h : Shape c) : Shape (cond0 4 [c])
 | many (k : Int) (hk : k = 5 ∨ k = 6) (l : List Cd) (hl : 2 ≤ l.length) (h : ∀ c ∈ l, Shape c) : Shape (cond0 k l)
theorem join_two (x y : ByteArray) (l : List ByteArray) (sep : ByteArray) : bytesOf (joinB (x :: y :: l) sep) = bytesOf x ++ (bytesOf sep ++ bytesOf (joinB (y :: l) sep)) := by
 rw [← bytesOf_app, ← bytesOf_app]
 congr 1
structure ShareOk (s : Sh) : Prop where
 o : StrT s.f0
 m : ∀ t ∈ s.f1, WordT t
 h : ∀ t ∈ s.f2, WordT t
end Go.Proofs.YtngedmioeodmfaaDoor.Pu
namespace Go.Proofs.YtngedmioeodmfaaDoor.Pu
open Go.RowKit Go.Proofs.YtngedmioeodmfaaDoor.Pr Go.Proofs.YtngedmioeodmfaaDoorW.PrintWords Go.Proofs.YtngedmioeodmfaaDoor.Lx
open Go.Proofs.YtngedmioeodmfaaDoor.Ps hiding Tk
structure AllP (A : ByteArray → Prop) (S : Sh → Prop) (C : Cd → Prop) (st : Pst) : Prop where
 c : ∀ t ∈ st.csp, A t
 s : ∀ h ∈ st.shares, S h
 r : ∀ x ∈ st.rules, C x.f1
 m : st.mixed = wBlock ∨ st.mixed = wUpgrade ∨ st.mixed = wAllow
 n : st.csp.length + st.shares.length + st.rules.length ≤ st.items
 i : st.items ≤ 60
section
variable {T : List Tk} {e : Int} {A : ByteArray → Prop} {S : Sh → Prop} {C : Cd → Prop}
theorem wordP_mem {ws : List ByteArray} {p : Nat} {t : ByteArray} {q : Nat} (h : wordP T e ws p = .ok (t, q)) : memB t ws = true := by
 rw [wordP] at h
 split at h
 ·rename_i hi
  rw [isP, Bool.and_eq_true] at hi
  rw [takeP] at h
  split at h
  ·cases h; exact hi.2
  ·cases h
 ·cases h
theorem itemK_all (hA : ∀ p t q, takeP T e 2 p = .ok (t, q) → A t) (hS : ∀ p h q, shareP T e p = .ok (h, q) → S h) (hC : ∀ p c q, condP T e p = .ok (c, q) → C c) {s st' : Pst} {w : ByteArray} {p q : Nat} (hc : ∀ t ∈ s.csp, A t) (hs : ∀ h ∈ s.shares, S h) (hr : ∀ x ∈ s.rules, C x.f1)
  (hm : s.mixed = wBlock ∨ s.mixed = wUpgrade ∨ s.mixed = wAllow) (hn : s.csp.length + s.shares.length + s.rules.length + 1 ≤ s.items) (hi : s.items ≤ 60) (h : itemK T e s w p = .ok (st', q)) : AllP A S C st' := by
 by_cases h0 : w = wCsp
 ·rw [itemK_csp h0] at h
  cases ht : takeP T e 2 p with
  | error x => rw [ht] at h; cases h
  | ok x =>
   obtain ⟨t, q2⟩ := x
   rw [ht] at h; cases h
   exact ⟨fun t' ht' => by
    rcases List.mem_append.1 ht' with h1 | h1
    ·exact hc t' h1
    ·rw [List.mem_singleton.1 h1]; exact hA _ _ _ ht, hs, hr, hm, by show (s.csp ++ [t]).length + s.shares.length + s.rules.length ≤ s.items; rw [List.length_append, List.length_singleton]; omega, hi⟩
 by_cases h1 : w = wShare
 ·rw [itemK_share h0 h1] at h
  cases ht : shareP T e p with
  | error x => rw [ht] at h; cases h
  | ok x =>
   obtain ⟨t, q2⟩ := x
   rw [ht] at h; cases h
   exact ⟨hc, fun t' ht' => by
    rcases List.mem_append.1 ht' with h1 | h1
    ·exact hs t' h1
    ·rw [List.mem_singleton.1 h1]; exact hS _ _ _ ht, hr, hm, by show s.csp.length + (s.shares ++ [t]).length + s.rules.length ≤ s.items; rw [List.length_append, List.length_singleton]; omega, hi⟩
 by_cases h2 : w = wMixed
 ·rw [itemK_mixed h0 h1 h2] at h
  cases ht : wordP T e [wBlock, wUpgrade, wAllow] p with
  | error x => rw [ht] at h; cases h
  | ok x =>
   obtain ⟨t, q2⟩ := x
   rw [ht] at h; cases h
   refine ⟨hc, hs, hr, ?_, by show s.csp.length + s.shares.length + s.rules.length ≤ s.items; omega, hi⟩
   have := wordP_mem ht
   simp only [memB, List.any_cons, List.any_nil, Bool.or_eq_true, decide_eq_true_eq, Bool.or_false] at this
   exact this
 by_cases h3 : w = wDefault
 ·rw [itemK_default h0 h1 h2 h3] at h
  cases ht : wordP T e [wAllow, wDeny] p with
  | error x => rw [ht] at h; cases h
  | ok x =>
   obtain ⟨t, q2⟩ := x
   rw [ht] at h; cases h
   exact ⟨hc, hs, hr, hm, by show s.csp.length + s.shares.length + s.rules.length ≤ s.items; omega, hi⟩
 ·rw [itemK_rule h0 h1 h2 h3] at h
  cases ht : wordP T e [wIf] p with
  | error x => rw [ht] at h; cases h
  | ok x =>
   obtain ⟨t, q2⟩ := x
   rw [ht] at h
   simp only [ifK] at h
   cases ht2 : condP T e q2 with
   | error x => rw [ht2] at h; cases h
   | ok x =>
    obtain ⟨c, q3⟩ := x
    rw [ht2] at h; cases h
    exact ⟨hc, hs, fun x hx => by
     rcases List.mem_append.1 hx with h1 | h1
     ·exact hr x h1
     ·rw [List.mem_singleton.1 h1]; exact hC _ _ _ ht2, hm, by show s.csp.length + s.shares.length + (s.rules ++ [_]).length ≤ s.items; rw [List.length_append, List.length_singleton]; omega, hi⟩
theorem onceP_same {st s1 : Pst} {p : Nat} (h : onceP T e st p = .ok s1) : s1.csp = st.csp ∧ s1.shares = st.shares ∧ s1.rules = st.rules ∧ s1.mixed = st.mixed ∧ s1.items = st.items ∧ s1.allow = st.allow := by
 rw [onceP] at h
 repeat' split at h
 all_goals first | (cases h; exact ⟨rfl, rfl, rfl, rfl, rfl, rfl⟩) | cases h
theorem itemP_all (hA : ∀ p t q, takeP T e 2 p = .ok (t, q) → A t) (hS : ∀ p h q, shareP T e p = .ok (h, q) → S h) (hC : ∀ p c q, condP T e p = .ok (c, q) → C c) {st st' : Pst} {p q : Nat} (h : AllP A S C st) (hi : itemP T e st p = .ok (st', q)) : AllP A S C st' := by
 rw [itemP] at hi
 split at hi
 ·split at hi
  ·cases hi
  ·rename_i s1 h1
   obtain ⟨e1, e2, e3, e4, e5, _⟩ := onceP_same h1
   split at hi
   ·cases hi
   ·rename_i hb
    split at hi
    ·cases hi
    ·rename_i w q2 hw
     refine itemK_all hA hS hC (s := { s1 with items := s1.items + 1 }) ?_ ?_ ?_ ?_ ?_ ?_ hi
     ·show ∀ t ∈ s1.csp, A t; rw [e1]; exact h.c
     ·show ∀ t ∈ s1.shares, S t; rw [e2]; exact h.s
     ·show ∀ t ∈ s1.rules, C t.f1; rw [e3]; exact h.r
     ·show s1.mixed = _ ∨ s1.mixed = _ ∨ s1.mixed = _; rw [e4]; exact h.m
     ·show s1.csp.length + s1.shares.length + s1.rules.length + 1 ≤ s1.items + 1; rw [e1, e2, e3, e5]; have := h.n; omega
     ·show s1.items + 1 ≤ 60; omega
 ·cases hi
theorem itemsP_all (hA : ∀ p t q, takeP T e 2 p = .ok (t, q) → A t) (hS : ∀ p h q, shareP T e p = .ok (h, q) → S h) (hC : ∀ p c q, condP T e p = .ok (c, q) → C c) : ∀ (f : Nat) (st : Pst) (p : Nat) (st' : Pst), AllP A S C st → itemsP T e f st p = .ok st' → AllP A S C st'
 | 0, st, p, st', h, hi => by rw [itemsP] at hi; cases hi; exact h
 | f + 1, st, p, st', h, hi => by
  by_cases hp : p < T.length
  ·rw [itemsP_succ hp] at hi
   cases h1 : itemP T e st p with
   | error x => rw [h1] at hi; cases hi
   | ok x =>
    obtain ⟨s1, q⟩ := x
    rw [h1] at hi
    cases h2 : takeP T e 5 q with
    | error x => rw [itemsK, h2] at hi; cases hi
    | ok x =>
     obtain ⟨t, q2⟩ := x
     rw [itemsK, h2] at hi
     exact itemsP_all hA hS hC f s1 q2 st' (itemP_all hA hS hC h h1) hi
  ·rw [itemsP, if_neg hp] at hi; cases hi; exact h
theorem all0 : AllP A S C pst0 := ⟨(fun _ h => by cases h), (fun _ h => by cases h), (fun _ h => by cases h), .inl rfl, (by decide), (by decide)⟩
theorem polP_all (hA : ∀ p t q, takeP T e 2 p = .ok (t, q) → A t) (hS : ∀ p h q, shareP T e p = .ok (h, q) → S h) (hC : ∀ p c q, condP T e p = .ok (c, q) → C c) {st : Pst} (h : polP T e = .ok st) : AllP A S C st := itemsP_all hA hS hC _ _ _ _ all0 h
theorem takeP_le {k : Int} {p : Nat} {t : ByteArray} {q : Nat} (hk : k ≠ 0) (h : takeP T e k p = .ok (t, q)) : q ≤ T.length := by
 rw [takeP] at h
 split at h
 ·rename_i hi
  cases h
  apply Classical.byContradiction
  intro hn
  rw [nxt, dif_neg (by omega)] at hi
  exact hk hi.symm
 ·cases h
theorem shareL_len : ∀ (f : Nat) (s : Sh) (p : Nat) (s' : Sh) (q : Nat), s.f1.length ≤ p → s.f2.length ≤ p → p ≤ T.length → shareL T e f s p = .ok (s', q) → s'.f1.length ≤ q ∧ s'.f2.length ≤ q ∧ q ≤ T.length
 | 0, s, p, s', q, h1, h2, h3, h => by
  rw [shareL] at h; cases h; exact ⟨h1, h2, h3⟩
 | f + 1, s, p, s', q, h1, h2, h3, h => by
  by_cases hi : isP T e [wMethod, wHeader, wCreds] p = true
  ·rw [shareL_succ _ _ _ _ _ hi.symm] at h
   cases ht : takeP T e 1 p with
   | error x => rw [ht] at h; cases h
   | ok x =>
    obtain ⟨w, q1⟩ := x
    have hq1 := takeP_mono ht
    have hl1 := takeP_le (by decide) ht
    rw [ht] at h
    simp only [shareK] at h
    split at h
    ·cases ht2 : takeP T e 1 q1 with
     | error x => rw [ht2] at h; cases h
     | ok x =>
      obtain ⟨t, q2⟩ := x
      have hq2 := takeP_mono ht2
      have hl2 := takeP_le (by decide) ht2
      rw [ht2] at h
      exact shareL_len f _ _ _ _ (by show (s.f1 ++ [t]).length ≤ q2; rw [List.length_append, List.length_singleton]; omega) (by show s.f2.length ≤ q2; omega) hl2 h
    ·split at h
     ·cases ht2 : takeP T e 1 q1 with
      | error x => rw [ht2] at h; cases h
      | ok x =>
       obtain ⟨t, q2⟩ := x
       have hq2 := takeP_mono ht2
       have hl2 := takeP_le (by decide) ht2
       rw [ht2] at h
       exact shareL_len f _ _ _ _ (by show s.f1.length ≤ q2; omega) (by show (s.f2 ++ [t]).length ≤ q2; rw [List.length_append, List.length_singleton]; omega) hl2 h
     ·exact shareL_len f _ _ _ _ (by show s.f1.length ≤ q1; omega) (by show s.f2.length ≤ q1; omega) hl1 h
  ·rw [shareL, if_neg hi] at h; cases h; exact ⟨h1, h2, h3⟩
theorem shareP_len {p : Nat} {h : Sh} {q : Nat} (hs : shareP T e p = .ok (h, q)) : h.f1.length ≤ T.length ∧ h.f2.length ≤ T.length := by
 rw [shareP] at hs
 cases ht : takeP T e 2 p with
 | error x => rw [ht] at hs; cases hs
 | ok x =>
  obtain ⟨t, q1⟩ := x
  rw [ht] at hs
  have := shareL_len _ _ _ _ _ (Nat.zero_le _) (Nat.zero_le _) (takeP_le (by decide) ht) hs
  omega
theorem closeK_le {c : Cd} {q : Nat} {x : Cd × Nat} (h : closeK c (takeP T e 4 q) = .ok x) : x.2 ≤ T.length := by
 cases ht : takeP T e 4 q with
 | error y => rw [ht] at h; cases h
 | ok y => obtain ⟨t, q2⟩ := y; rw [ht] at h; cases h; exact takeP_le (by decide) ht
variable (T e) in
def Ends (f : Nat → Res Cd) : Prop := ∀ p c q, f p = .ok (c, q) → q ≤ T.length
theorem kidsL_end {one : Nat → Res Cd} (h : Ends T one) {w : ByteArray} : ∀ (f : Nat) (acc : List Cd) (p : Nat) (l : List Cd) (q : Nat), p ≤ T.length → kidsL T e one w f acc p = .ok (l, q) → q ≤ T.length
 | 0, acc, p, l, q, hp, hk => by rw [kidsL] at hk; cases hk; exact hp
 | f + 1, acc, p, l, q, hp, hk => by
  rw [kidsL] at hk
  split at hk
  ·cases ho : one (p + 1) with
   | error x => rw [ho] at hk; cases hk
   | ok x =>
    obtain ⟨c, q1⟩ := x
    rw [ho] at hk
    exact kidsL_end h f _ _ _ _ (h _ _ _ ho) hk
  ·cases hk; exact hp
theorem kidsP_end {one : Nat → Res Cd} (h : Ends T one) {w : ByteArray} {kind : Int} : Ends T (kidsP T e kind w one) := by
 intro p c q hk
 rw [kidsP] at hk
 cases ho : one p with
 | error x => rw [ho] at hk; cases hk
 | ok x =>
  obtain ⟨c1, q1⟩ := x
  rw [ho] at hk
  dsimp only at hk
  cases hl : kidsL T e one w (T.length + 1 - q1) [c1] q1 with
  | error x => rw [hl] at hk; cases hk
  | ok x =>
   obtain ⟨l, r⟩ := x
   rw [hl] at hk
   have := kidsL_end h _ _ _ _ _ (h _ _ _ ho) hl
   dsimp only at hk
   split at hk <;> (cases hk; exact this)
theorem wordP_le {ws : List ByteArray} {p : Nat} {t : ByteArray} {q : Nat} (h : wordP T e ws p = .ok (t, q)) : q ≤ T.length := by
 rw [wordP] at h
 split at h
 ·exact takeP_le (by decide) h
 ·cases h
theorem atomP_end : Ends T (atomP T e) := by
 intro p c q h
 rw [atomP] at h
 split at h
 ·cases h
 ·rename_i w q1 h1
  have e1 := wordP_le h1
  unfold atomK at h
  have key : ∀ {f : ByteArray → ByteArray} {k : Int}, k ≠ 0 → atomT w f (takeP T e k q1) = .ok (c, q) → q ≤ T.length := fun hk h => by
   obtain ⟨t, ht⟩ := atomT_mono h
   exact takeP_le hk ht
  repeat' split at h
  all_goals first | exact key (by decide) h | (cases h; exact e1)
theorem notN_end : ∀ n, Ends T (notN T e n)
 | 0 => by
  intro p c q h
  rw [notN] at h
  split at h
  ·cases h
  ·split at h
   ·cases h
   ·exact atomP_end _ _ _ h
 | n + 1 => by
  intro p c q h
  rw [notN] at h
  split at h
  ·obtain ⟨c1, q1, h1, h2⟩ := wrapNot_ok h
   cases h2
   exact notN_end n _ _ _ h1
  ·split at h
   ·obtain ⟨c1, q1, h1, h2⟩ := closeP_ok h
    exact closeK_le h2
   ·exact atomP_end _ _ _ h
theorem condP_end : Ends T (condP T e) := kidsP_end (kidsP_end (notN_end 30))
theorem polT_eq {n : Int} {x : List Tk × Int × Int} : polT n x = if x.2.1 = 0 then polP x.1 n else .error (x.2.1, x.2.2) := by
 obtain ⟨T, c, a⟩ := x; rfl
end
end Go.Proofs.YtngedmioeodmfaaDoor.Pu
namespace Go.Proofs.YtngedmioeodmfaaDoor.Pu
open Go.RowKit Go.Proofs.YtngedmioeodmfaaDoor.Pr Go.Proofs.YtngedmioeodmfaaDoorW.PrintWords Go.Proofs.YtngedmioeodmfaaDoor.Lx
open Go.Proofs.YtngedmioeodmfaaDoor.Ps hiding Tk
theorem V_unesc : ∀ (l A : List Int), V (A ++ escL l) → V (A ++ l) := by
 intro l
 induction l with
 | nil => intro A h; exact h
 | cons c l ih =>
  intro A h
  rw [escL_cons] at h
  by_cases q : c = 34 ∨ c = 92
  ·rw [if_pos q] at h
   have h1 := (V_split A 92 (c :: escL l) (by omega) (by omega)).1 h
   have h2 := (V_split [] c (escL l) (by omega) (by omega)).1 h1.2
   exact (V_split A c l (by omega) (by omega)).2 ⟨h1.1, ih [] h2.2⟩
  ·rw [if_neg q] at h
   have := ih (A ++ [c]) (by simpa using h)
   simpa using this
structure TokOk (T : List Tk) : Prop where
 w : ∀ t ∈ T, t.f0 = 1 → WordT t.f2
 s : ∀ t ∈ T, t.f0 = 2 → StrT t.f2
theorem tok_ok {x : ByteArray} (hx : x.size ≤ 3000) (hv : V (bytesOf x)) {ts : List Tk} (h : sm 0 .sk [] (bytesOf x) = .good ts) : TokOk ts := by
 have hp := placed x ts h
 have hz : ∀ t ∈ ts, t.f2.size ≤ 3000 := fun t ht => by have := toks_text h t ht; omega
 refine ⟨fun t ht h1 => ?_, fun t ht h2 => ?_⟩
 ·obtain ⟨ho, _⟩ := hp.all t ht
  rcases ho with ⟨_, hw⟩ | ⟨h3, _⟩ | ⟨c, hc, h3, _⟩
  ·exact ⟨hw, hz t ht⟩
  ·omega
  ·exfalso
   rw [h1] at h3
   rcases hc with rfl | rfl | rfl <;> exact absurd h3 (by decide +kernel)
 ·obtain ⟨ho, a, rest, hd⟩ := hp.all t ht
  have hvw := V_wof hv ho hd
  rcases ho with ⟨h3, _⟩ | ⟨_, hs⟩ | ⟨c, hc, h3, _⟩
  ·omega
  ·refine ⟨hs, ?_, hz t ht⟩
   rw [wof, if_pos h2] at hvw
   have h4 := ((V_split [] 34 _ (by omega) (by omega)).1 hvw).2
   exact V_unesc _ [] ((V_split _ 34 [] (by omega) (by omega)).1 h4).1
  ·exfalso
   rw [h2] at h3
   exact opIdx_ne c h3.symm
section
variable {T : List Tk} {e : Int}
theorem take_mem {k : Int} (hk : k ≠ 0) {p : Nat} {t : ByteArray} {q : Nat} (h : takeP T e k p = .ok (t, q)) : ∃ x ∈ T, x.f0 = k ∧ x.f2 = t := by
 rw [takeP] at h
 split at h
 ·rename_i hi
  by_cases hp : p < T.length
  ·rw [nxt, dif_pos hp] at hi h
   cases h
   exact ⟨_, List.getElem_mem hp, hi, rfl⟩
  ·rw [nxt, dif_neg hp] at hi
   exact absurd hi.symm hk
 ·cases h
theorem TokOk.tw (hT : TokOk T) {p : Nat} {t : ByteArray} {q : Nat} (h : takeP T e 1 p = .ok (t, q)) : WordT t := by
 obtain ⟨x, hx, h1, rfl⟩ := take_mem (by decide) h
 exact hT.w x hx h1
theorem TokOk.ts (hT : TokOk T) {p : Nat} {t : ByteArray} {q : Nat} (h : takeP T e 2 p = .ok (t, q)) : StrT t := by
 obtain ⟨x, hx, h1, rfl⟩ := take_mem (by decide) h
 exact hT.s x hx h1
theorem low_fin : ∀ c : Fin 256, (pWord (c.val : Int) = true → pWord (low (c.val : Int)) = true) ∧ (pLetter (c.val : Int) = true → pLetter (low (c.val : Int)) = true ∧ pBlank (low (c.val : Int)) = false ∧ low (c.val : Int) ≠ 35) ∧ low (low (c.val : Int)) = low (c.val : Int) ∧ 0 ≤ low (c.val : Int) ∧ low (c.val : Int) ≤ 255 := by decide +kernel
theorem low_all {x : Int} (h : 0 ≤ x ∧ x ≤ 255) : (pWord x = true → pWord (low x) = true) ∧ (pLetter x = true → pLetter (low x) = true ∧ pBlank (low x) = false ∧ low x ≠ 35) ∧ low (low x) = low x ∧ 0 ≤ low x ∧ low x ≤ 255 := by
 obtain ⟨c, rfl⟩ : ∃ c : Fin 256, (c.val : Int) = x := ⟨⟨x.toNat, by omega⟩, by simp; omega⟩
 exact low_fin c
theorem low_rng (s : ByteArray) : ∀ x ∈ (bytesOf s).map low, 0 ≤ x ∧ x ≤ 255 := by
 intro x hx
 obtain ⟨y, hy, rfl⟩ := List.mem_map.1 hx
 exact (low_all (bytesOf_range s y hy)).2.2.2
theorem bytes_low (s : ByteArray) : bytesOf (lowB s) = (bytesOf s).map low := by
 rw [← low_str, bytesOf_str _ (low_rng s)]
theorem low_low (s : ByteArray) : lowB (lowB s) = lowB s := by
 apply bytesOf_inj
 rw [bytes_low, bytes_low, List.map_map]
 exact List.map_congr_left (fun x hx => (low_all (bytesOf_range s x hx)).2.2.1)
theorem WordT.low {w : ByteArray} (h : WordT w) : WordT (lowB w) := by
 have hz : (lowB w).size ≤ 3000 := by
  rw [← bytesOf_length, bytes_low, List.length_map, bytesOf_length]; exact h.2
 obtain ⟨⟨c, l, hb, h1, h2, h3, h4⟩, _⟩ := h
 have hrg := bytesOf_range w
 rw [hb] at hrg
 have hc := (low_all (hrg c (List.mem_cons_self ..))).2.1 h3
 refine ⟨⟨Ps.low c, l.map Ps.low, by rw [bytes_low, hb]; rfl, hc.2.1, hc.2.2, hc.1, fun x hx => ?_⟩, hz⟩
 obtain ⟨y, hy, rfl⟩ := List.mem_map.1 hx
 exact (low_all (hrg y (List.mem_cons_of_mem _ hy))).1 (h4 y hy)
def Shp (f : Nat → Res Cd) : Prop := ∀ p c q, f p = .ok (c, q) → Shape c
theorem kidsL_shape {one : Nat → Res Cd} (h : Shp one) {w : ByteArray} : ∀ (f : Nat) (acc : List Cd) (p : Nat) (l : List Cd) (q : Nat), (∀ c ∈ acc, Shape c) → kidsL T e one w f acc p = .ok (l, q) → ∀ c ∈ l, Shape c
 | 0, acc, p, l, q, ha, hr => by cases hr; exact ha
 | f + 1, acc, p, l, q, ha, hr => by
  rw [kidsL] at hr
  split at hr
  ·cases h1 : one (p + 1) with
   | error x => rw [h1] at hr; cases hr
   | ok x =>
    obtain ⟨c, q1⟩ := x
    rw [h1] at hr
    refine kidsL_shape h f _ _ _ _ (fun d hd => ?_) hr
    rcases List.mem_append.1 hd with hd | hd
    ·exact ha d hd
    ·rw [List.mem_singleton.1 hd]; exact h _ _ _ h1
  ·cases hr; exact ha
theorem kidsP_shape {one : Nat → Res Cd} (h : Shp one) {w : ByteArray} {kind : Int} (hk : kind = 5 ∨ kind = 6) : Shp (kidsP T e kind w one) := by
 intro p c q hr
 rw [kidsP] at hr
 cases h1 : one p with
 | error x => rw [h1] at hr; cases hr
 | ok x =>
  obtain ⟨c1, q1⟩ := x
  rw [h1] at hr
  simp only at hr
  cases hl : kidsL T e one w (T.length + 1 - q1) [c1] q1 with
  | error x => rw [hl] at hr; cases hr
  | ok y =>
   obtain ⟨l, q2⟩ := y
   rw [hl] at hr
   have hs := kidsL_shape h _ _ _ _ _ (fun d hd => by rw [List.mem_singleton.1 hd]; exact h _ _ _ h1) hl
   have hge : 1 ≤ l.length := by simpa using kidsL_more hl
   simp only at hr
   split at hr
   ·rename_i h1l
    have h3 := Except.ok.inj hr; simp only [Prod.mk.injEq] at h3
    obtain ⟨x, rfl⟩ : ∃ x, l = [x] := List.length_eq_one_iff.1 h1l
    rw [← h3.1]
    exact hs x (List.mem_cons_self ..)
   ·have h3 := Except.ok.inj hr; simp only [Prod.mk.injEq] at h3
    rw [← h3.1]
    exact .many kind hk l (by omega) hs
theorem atomP_shape (hT : TokOk T) : Shp (atomP T e) := by
 intro p c q h
 rw [atomP] at h
 cases h1 : wordP T e atomWords p with
 | error x => rw [h1] at h; cases h
 | ok x =>
  obtain ⟨w, q1⟩ := x
  rw [h1] at h
  simp only at h
  have hw := mem_of_B.1 (wordP_mem h1)
  unfold atomK at h
  have hA : ∀ {f : ByteArray → ByteArray} {k : Int}, atomT w f (takeP T e k q1) = .ok (c, q) → ∃ t, takeP T e k q1 = .ok (t, q) ∧ c = ⟨3, ⟨w, f t⟩, []⟩ := by
   intro f k hr
   cases ht : takeP T e k q1 with
   | error x => rw [ht] at hr; cases hr
   | ok x => obtain ⟨t, q3⟩ := x; rw [ht] at hr; simp only [atomT] at hr; have h3 := Except.ok.inj hr; simp only [Prod.mk.injEq] at h3; exact ⟨t, by rw [← h3.2], h3.1.symm⟩
  split at h
  ·have h3 := Except.ok.inj h; simp only [Prod.mk.injEq] at h3; rw [← h3.1]; exact .true_
  rename_i hw1
  split at h
  ·have h3 := Except.ok.inj h; simp only [Prod.mk.injEq] at h3; rw [← h3.1]; exact .false_
  rename_i hw2
  split at h
  ·rename_i hm
   obtain ⟨t, ht, rfl⟩ := hA h
   exact .wordA w t (by simp [hm]) (hT.tw ht) (fun hn => absurd hm hn)
  rename_i hw3
  split at h
  ·rename_i hm
   obtain ⟨t, ht, rfl⟩ := hA h
   exact .wordA w _ (by rcases hm with hm | hm | hm <;> simp [hm]) (hT.tw ht).low (fun _ => low_low t)
  rename_i hw4
  split at h
  ·rename_i hm
   obtain ⟨t, ht, rfl⟩ := hA h
   exact .strA w _ (by rcases hm with hm | hm <;> simp [hm]) (hT.ts ht)
  rename_i hw5
  have h3 := Except.ok.inj h; simp only [Prod.mk.injEq] at h3; rw [← h3.1]
  refine .bare w ?_
  simp only [not_or] at hw4 hw5
  simp only [atomWords, List.mem_cons, List.not_mem_nil, or_false] at hw ⊢
  rcases hw with h | h | h | h | h | h | h | h | h | h | h | h
  ·exact absurd h hw1
  ·exact absurd h hw2
  ·exact .inl h
  ·exact .inr (.inl h)
  ·exact .inr (.inr (.inl h))
  ·exact .inr (.inr (.inr h))
  ·exact absurd h hw3
  ·exact absurd h hw4.1
  ·exact absurd h hw4.2.1
  ·exact absurd h hw4.2.2
  ·exact absurd h hw5.1
  ·exact absurd h hw5.2
theorem closeK_same {c d : Cd} {r : Res ByteArray} {q : Nat} (h : closeK c r = .ok (d, q)) : d = c := by
 cases r with
 | error x => cases h
 | ok x => obtain ⟨t, q2⟩ := x; simp only [closeK] at h; have h3 := Except.ok.inj h; simp only [Prod.mk.injEq] at h3; exact h3.1.symm
theorem notN_shape (hT : TokOk T) : ∀ n, Shp (notN T e n)
 | 0 => by
  intro p c q h
  rw [notN] at h
  split at h
  ·cases h
  ·split at h
   ·cases h
   ·exact atomP_shape hT _ _ _ h
 | n + 1 => by
  intro p c q h
  rw [notN] at h
  split at h
  ·obtain ⟨c1, q1, h1, h2⟩ := wrapNot_ok h
   cases h2
   exact .not_ c1 (notN_shape hT n _ _ _ h1)
  ·split at h
   ·obtain ⟨c1, q1, h1, h2⟩ := closeP_ok h
    rw [closeK_same h2]
    exact kidsP_shape (kidsP_shape (notN_shape hT n) (.inl rfl)) (.inr rfl) _ _ _ h1
   ·exact atomP_shape hT _ _ _ h
theorem condP_shape (hT : TokOk T) : Shp (condP T e) := kidsP_shape (kidsP_shape (notN_shape hT 30) (.inl rfl)) (.inr rfl)
theorem shareL_ok (hT : TokOk T) : ∀ (f : Nat) (s : Sh) (p : Nat) (s' : Sh) (q : Nat), ShareOk s → shareL T e f s p = .ok (s', q) → ShareOk s'
 | 0, s, p, s', q, hs, h => by rw [shareL] at h; cases h; exact hs
 | f + 1, s, p, s', q, hs, h => by
  by_cases hi : isP T e [wMethod, wHeader, wCreds] p = true
  ·rw [shareL_succ _ _ _ _ _ hi.symm] at h
   cases ht : takeP T e 1 p with
   | error x => rw [ht] at h; cases h
   | ok x =>
    obtain ⟨w, q1⟩ := x
    rw [ht] at h
    simp only [shareK] at h
    split at h
    ·cases ht2 : takeP T e 1 q1 with
     | error x => rw [ht2] at h; cases h
     | ok x =>
      obtain ⟨t, q2⟩ := x
      rw [ht2] at h
      refine shareL_ok hT f ⟨s.f0, s.f1 ++ [t], s.f2, s.f3⟩ _ _ _ ⟨hs.o, fun y hy => ?_, hs.h⟩ h
      rcases List.mem_append.1 hy with hy | hy
      ·exact hs.m y hy
      ·rw [List.mem_singleton.1 hy]; exact hT.tw ht2
    ·split at h
     ·cases ht2 : takeP T e 1 q1 with
      | error x => rw [ht2] at h; cases h
      | ok x =>
       obtain ⟨t, q2⟩ := x
       rw [ht2] at h
       refine shareL_ok hT f ⟨s.f0, s.f1, s.f2 ++ [t], s.f3⟩ _ _ _ ⟨hs.o, hs.m, fun y hy => ?_⟩ h
       rcases List.mem_append.1 hy with hy | hy
       ·exact hs.h y hy
       ·rw [List.mem_singleton.1 hy]; exact hT.tw ht2
     ·exact shareL_ok hT f ⟨s.f0, s.f1, s.f2, true⟩ _ _ _ ⟨hs.o, hs.m, hs.h⟩ h
  ·rw [shareL, if_neg hi] at h; cases h; exact hs
theorem shareP_made (hT : TokOk T) {p : Nat} {h : Sh} {q : Nat} (hs : shareP T e p = .ok (h, q)) : ShareOk h := by
 rw [shareP] at hs
 cases ht : takeP T e 2 p with
 | error x => rw [ht] at hs; cases hs
 | ok x =>
  obtain ⟨t, q1⟩ := x
  rw [ht] at hs
  exact shareL_ok hT _ _ _ _ _ ⟨hT.ts ht, (fun _ h => by cases h), (fun _ h => by cases h)⟩ hs
end
structure ReadP (st : Pst) : Prop where
 a : AllP StrT (fun s => ShareOk s ∧ s.f1.length ≤ 3000 ∧ s.f2.length ≤ 3000) (fun c => Shape c ∧ sizeC c ≤ 3000) st
theorem read_ok {x : ByteArray} {st : Pst} (h : polA x = .ok st) : ReadP st := by
 rw [polA, polT_eq] at h
 rcases tokM_cases x with ⟨ts, h1, hs, hv, hl⟩ | ⟨j, h1, hj⟩ | ⟨h1, hl⟩
 ·rw [h1, if_pos rfl] at h
  have hT := tok_ok hl hv hs
  have hln : ts.length ≤ 3000 := by have := toks_len hs; omega
  refine ⟨polP_all (fun p t q ht => hT.ts ht) (fun p s q hs => ⟨shareP_made hT hs, ?_, ?_⟩) (fun p c q hc => ⟨condP_shape hT _ _ _ hc, ?_⟩) h⟩
  ·have := shareP_len hs; omega
  ·have := shareP_len hs; omega
  ·have h1 := condP_size _ _ _ hc
   have h2 := condP_end _ _ _ hc
   omega
 ·rw [h1] at h; rw [if_neg (by exact (by decide : ¬ (8 : Int) = 0))] at h; cases h
 ·rw [h1] at h; rw [if_neg (by exact (by decide : ¬ (2 : Int) = 0))] at h; cases h
end Go.Proofs.YtngedmioeodmfaaDoor.Pu
namespace Go.Proofs.YtngedmioeodmfaaDoor.Pu
open Go.RowKit Go.Proofs.YtngedmioeodmfaaDoor.Pr Go.Proofs.YtngedmioeodmfaaDoorW.PrintWords Go.Proofs.YtngedmioeodmfaaDoor.Lx
open Go.Proofs.YtngedmioeodmfaaDoor.Ps hiding Tk
theorem size_app (a b : ByteArray) : (a ++ b).size = a.size + b.size := by
 rw [← bytesOf_length, bytesOf_app, List.length_append, bytesOf_length, bytesOf_length]
theorem size_quote (s : ByteArray) : (quoteB s).size ≤ 2 * s.size + 2 := by
 rw [← bytesOf_length, bytes_quote]
 have := escL_le (bytesOf s)
 rw [bytesOf_length] at this
 unfold quoteL
 simp only [List.length_cons, List.length_append, List.length_nil]; omega
theorem join_le (sep : ByteArray) : ∀ l : List ByteArray, (joinB l sep).size ≤ (l.map fun x => x.size + sep.size).sum
 | [] => by unfold joinB; exact Nat.zero_le _
 | [x] => by rw [joinB_one]; simp
 | x :: y :: l => by
  have ih := join_le sep (y :: l)
  have e : (joinB (x :: y :: l) sep).size = x.size + (sep.size + (joinB (y :: l) sep).size) := by
   rw [← bytesOf_length, join_two, List.length_append, List.length_append, bytesOf_length, bytesOf_length, bytesOf_length]
  rw [e, List.map_cons, List.sum_cons]
  omega
theorem sum_le {K : Nat} : ∀ {l : List Nat}, (∀ x ∈ l, x ≤ K) → l.sum ≤ l.length * K
 | [], _ => by simp
 | x :: l, h => by
  have h1 := h x (List.mem_cons_self ..)
  have h2 := sum_le (fun y hy => h y (List.mem_cons_of_mem _ hy))
  rw [List.sum_cons, List.length_cons, Nat.succ_mul]; omega
theorem among_le (k : Int) (t : ByteArray) : (amongB k t).size ≤ t.size + 2 := by
 unfold amongB
 split
 ·rw [size_app, size_app]
  have e1 : bOpen.size = 1 := rfl
  have e2 : bShut.size = 1 := rfl
  omega
 ·omega
theorem kids_le {sep : ByteArray} (hs : sep.size ≤ 5) : ∀ {l : List Cd}, (∀ c ∈ l, (condT c).size + 20 ≤ 6100 * sizeC c) → ((amongsT l).map fun x => x.size + sep.size).sum ≤ 6100 * sizeL l
 | [], _ => by simp [amongsT]
 | c :: l, h => by
  have h1 := h c (List.mem_cons_self ..)
  have h2 := kids_le hs (fun d hd => h d (List.mem_cons_of_mem _ hd))
  have h3 := among_le c.f0 (condT c)
  rw [amongsT, List.map_cons, List.sum_cons, sizeL]
  omega
theorem kidsB_le {sep : ByteArray} (hs : sep.size ≤ 5) {l : List Cd} (h : ∀ c ∈ l, (condT c).size + 20 ≤ 6100 * sizeC c) : (joinB (amongsT l) sep).size ≤ 6100 * sizeL l := Nat.le_trans (join_le sep _) (kids_le hs h)
theorem shape_le {c : Cd} (h : Shape c) : (condT c).size + 20 ≤ 6100 * sizeC c := by
 induction h with
 | true_ =>
  rw [show condT (cond0 1 []) = wTrue from by rw [condT_eq]; rfl, sizeC_eq]
  have : wTrue.size = 4 := rfl
  omega
 | false_ =>
  rw [show condT (cond0 2 []) = wFalse from by rw [condT_eq]; rfl, sizeC_eq]
  have : wFalse.size = 5 := rfl
  omega
 | bare w hw =>
  have e1 : condT ⟨3, ⟨w, ⟨#[]⟩⟩, []⟩ = w := by
   rw [condT_eq]
   simp only [List.mem_cons, List.mem_nil_iff, or_false] at hw
   rcases hw with rfl | rfl | rfl | rfl <;> decide +kernel
  have : w.size ≤ 20 := by
   simp only [List.mem_cons, List.mem_nil_iff, or_false] at hw
   rcases hw with rfl | rfl | rfl | rfl <;> decide +kernel
  rw [e1, sizeC_eq]
  omega
 | wordA w t hw ht _ =>
  have hn : ¬ (w = wHost ∨ w = wPath) := by
   simp only [List.mem_cons, List.mem_nil_iff, or_false] at hw
   rcases hw with rfl | rfl | rfl | rfl <;> decide +kernel
  have hy : w = wMethod ∨ w = wDest ∨ w = wScheme ∨ w = wHeader := by simpa using hw
  have e1 : condT ⟨3, ⟨w, t⟩, []⟩ = w ++ bSp ++ t := by
   rw [condT_eq]
   rw [if_neg (show ¬ (3 : Int) = 1 by decide), if_neg (show ¬ (3 : Int) = 2 by decide), if_neg (show ¬ (3 : Int) = 4 by decide), if_neg (show ¬ (3 : Int) = 5 by decide), if_neg (show ¬ (3 : Int) = 6 by decide), if_neg hn, if_pos hy]
  have h1 : w.size ≤ 20 := by rcases hy with rfl | rfl | rfl | rfl <;> decide +kernel
  have h2 : bSp.size = 1 := rfl
  have h3 := ht.2
  rw [e1, size_app, size_app, sizeC_eq]
  omega
 | strA w t hw ht =>
  have hy : w = wHost ∨ w = wPath := by simpa using hw
  have e1 : condT ⟨3, ⟨w, t⟩, []⟩ = w ++ bSp ++ quoteB t := by
   rw [condT_eq]
   rw [if_neg (show ¬ (3 : Int) = 1 by decide), if_neg (show ¬ (3 : Int) = 2 by decide), if_neg (show ¬ (3 : Int) = 4 by decide), if_neg (show ¬ (3 : Int) = 5 by decide), if_neg (show ¬ (3 : Int) = 6 by decide), if_pos hy]
  have h1 : w.size ≤ 20 := by rcases hy with rfl | rfl <;> decide +kernel
  have h2 : bSp.size = 1 := rfl
  have h3 := ht.2.2
  have h4 := size_quote t
  rw [e1, size_app, size_app, sizeC_eq]
  omega
 | not_ c hc ih =>
  have h1 := kidsB_le (sep := bAnd) (by decide) (l := [c]) (fun d hd => by rw [List.mem_singleton.1 hd]; exact ih)
  rw [condT_eq, sizeC_eq]
  show (bNot ++ joinB (amongsT [c]) bAnd).size + 20 ≤ 6100 * (1 + sizeL [c])
  rw [size_app]
  have : bNot.size = 4 := rfl
  omega
 | many k hk l hl h ih =>
  rw [condT_eq, sizeC_eq]
  rcases hk with rfl | rfl
  ·have h1 := kidsB_le (sep := bAnd) (by decide) ih
   show (joinB (amongsT l) bAnd).size + 20 ≤ 6100 * (1 + sizeL l)
   omega
  ·have h1 := kidsB_le (sep := bOr) (by decide) ih
   show (joinB (amongsT l) bOr).size + 20 ≤ 6100 * (1 + sizeL l)
   omega
theorem shape_okT {c : Cd} (h : Shape c) : sizeC c ≤ 100000 → OkT c := by
 induction h with
 | true_ => intro hz; have := shape_le .true_; exact .mk _ (fun k hk => by cases hk) (fun h => by rcases h with h | h | h <;> cases h) (by decide) (by decide) (by decide) (by omega)
 | false_ => intro hz; have := shape_le .false_; exact .mk _ (fun k hk => by cases hk) (fun h => by rcases h with h | h | h <;> cases h) (by decide) (by decide) (by decide) (by omega)
 | bare w hw =>
  intro hz
  have := shape_le (.bare w hw)
  refine .mk _ (fun k hk => by cases hk) (fun h => by rcases h with h | h | h <;> cases h) (Nat.zero_le _) ?_ (Nat.zero_le _) (by omega)
  show w.size ≤ 1000000
  simp only [List.mem_cons, List.mem_nil_iff, or_false] at hw
  rcases hw with rfl | rfl | rfl | rfl <;> decide +kernel
 | wordA w t hw ht hlow =>
  intro hz
  have := shape_le (.wordA w t hw ht hlow)
  have h2 := ht.2
  refine .mk _ (fun k hk => by cases hk) (fun h => by rcases h with h | h | h <;> cases h) (Nat.zero_le _) ?_ (by show t.size ≤ 1000000; omega) (by omega)
  show w.size ≤ 1000000
  simp only [List.mem_cons, List.mem_nil_iff, or_false] at hw
  rcases hw with rfl | rfl | rfl | rfl <;> decide +kernel
 | strA w t hw ht =>
  intro hz
  have := shape_le (.strA w t hw ht)
  have h2 := ht.2.2
  refine .mk _ (fun k hk => by cases hk) (fun h => by rcases h with h | h | h <;> cases h) (Nat.zero_le _) ?_ (by show t.size ≤ 1000000; omega) (by omega)
  show w.size ≤ 1000000
  simp only [List.mem_cons, List.mem_nil_iff, or_false] at hw
  rcases hw with rfl | rfl <;> decide +kernel
 | not_ c hc ih =>
  intro hz
  have := shape_le (.not_ c hc)
  have h1 : sizeC c ≤ 100000 := by rw [sizeC_eq] at hz; have := size_mem (l := [c]) (List.mem_singleton.2 rfl); have h2 : sizeL (cond0 4 [c]).f2 = sizeL [c] := rfl; omega
  exact .mk _ (fun k hk => by rw [List.mem_singleton.1 hk]; exact ih h1) (fun _ => Nat.zero_lt_one) (by show 1 ≤ 1000000; decide) (Nat.zero_le _) (Nat.zero_le _) (by omega)
 | many k hk l hl h ih =>
  intro hz
  have := shape_le (.many k hk l hl h)
  have h1 : sizeL l ≤ 100000 := by rw [sizeC_eq] at hz; have h2 : sizeL (cond0 k l).f2 = sizeL l := rfl; omega
  exact .mk _ (fun d hd => ih d hd (Nat.le_trans (size_mem hd) h1)) (fun _ => by show 0 < l.length; omega) (by show l.length ≤ 1000000; have := sizeL_len l; omega) (Nat.zero_le _) (Nat.zero_le _) (by omega)
theorem addAll_le {pre : ByteArray} : ∀ (l : List ByteArray) (a : ByteArray), (∀ m ∈ l, m.size ≤ 3000) → pre.size ≤ 10 → (addAll pre a l).size ≤ a.size + l.length * 3010
 | [], a, _, _ => by simp [addAll]
 | m :: l, a, h, hp => by
  have h1 := h m (List.mem_cons_self ..)
  have h2 := addAll_le l (a ++ (pre ++ m)) (fun x hx => h x (List.mem_cons_of_mem _ hx)) hp
  have e1 : addAll pre a (m :: l) = addAll pre (a ++ (pre ++ m)) l := rfl
  rw [size_app, size_app] at h2
  rw [e1, List.length_cons, Nat.succ_mul]; omega
theorem share_le {s : Sh} (h : ShareOk s) (h1 : s.f1.length ≤ 3000) (h2 : s.f2.length ≤ 3000) : (shareT s).size ≤ 100000000 := by
 have e1 := addAll_le (pre := bMeth) s.f1 (bShare ++ quoteB s.f0) (fun m hm => (h.m m hm).2) (by decide)
 have e2 := addAll_le (pre := bHead) s.f2 (addAll bMeth (bShare ++ quoteB s.f0) s.f1) (fun m hm => (h.h m hm).2) (by decide)
 have e3 := size_quote s.f0
 have e4 := h.o.2.2
 have e5 : bShare.size = 6 := rfl
 have e6 : bCred.size = 6 := rfl
 rw [size_app] at e1
 have e7 : s.f1.length * 3010 ≤ 3000 * 3010 := Nat.mul_le_mul_right _ h1
 have e8 : s.f2.length * 3010 ≤ 3000 * 3010 := Nat.mul_le_mul_right _ h2
 unfold shareT
 dsimp only
 split
 ·rw [size_app]; omega
 ·omega
theorem ReadP.okP {st : Pst} (h : ReadP st) : OkP st.csp st.shares st.mixed st.rules st.allow := by
 have hn := h.a.n
 have hi := h.a.i
 have hc : ∀ s ∈ st.csp, s.size ≤ 3000 := fun s hs => (h.a.c s hs).2.2
 have hm : st.mixed.size ≤ 20 := by rcases h.a.m with e | e | e <;> rw [e] <;> decide +kernel
 have hr : ∀ r ∈ st.rules, (condT r.f1).size + 20 ≤ 6100 * sizeC r.f1 ∧ sizeC r.f1 ≤ 3000 := fun r hr => ⟨shape_le (h.a.r r hr).1, (h.a.r r hr).2⟩
 have hsay : ∀ b, (sayB b).size ≤ 20 := by intro b; cases b <;> decide +kernel
 refine ⟨by omega, fun s hs => ?_, by omega, fun s hs => ?_, fun s hs => ?_, fun s hs => ?_, by omega, by omega, fun r hr' => shape_okT (h.a.r r hr').1 (by have := (h.a.r r hr').2; omega), ?_⟩
 ·have := hc s hs
  have := size_quote s
  omega
 ·have := (h.a.s s hs).1.o.2.2
  have := size_quote s.f0
  omega
 ·obtain ⟨h1, h2, h3⟩ := h.a.s s hs
  exact ⟨by omega, fun m hm => by have := (h1.m m hm).2; omega⟩
 ·obtain ⟨h1, h2, h3⟩ := h.a.s s hs
  exact ⟨by omega, fun m hm => by have := (h1.h m hm).2; omega⟩
 ·have hl : (linesT st.csp st.shares st.mixed st.rules st.allow).length ≤ 62 := by
   simp only [linesT, List.length_append, List.length_map, List.length_singleton]; omega
  have hb : bSemi.size = 2 := rfl
  have hK : ∀ y ∈ (linesT st.csp st.shares st.mixed st.rules st.allow).map (fun x => x.size + bSemi.size), y ≤ 1000000000 := by
   intro y hy
   obtain ⟨x, hx, rfl⟩ := List.mem_map.1 hy
   suffices x.size ≤ 900000000 by omega
   simp only [linesT, List.mem_append, List.mem_map, List.mem_singleton] at hx
   rcases hx with (((⟨s, hs, rfl⟩ | ⟨s, hs, rfl⟩) | rfl) | ⟨r, hr', rfl⟩) | rfl
   ·have h1 := hc s hs
    have h2 := size_quote s
    have h3 : bCsp.size = 4 := rfl
    rw [cspT, size_app]; omega
   ·obtain ⟨h1, h2, h3⟩ := h.a.s s hs
    have := share_le h1 h2 h3
    omega
   ·have h3 : bMix.size = 6 := rfl
    rw [size_app]; omega
   ·obtain ⟨h1, h2⟩ := hr r hr'
    have h3 : bIf.size = 4 := rfl
    have h4 := hsay r.f0
    rw [ruleT, size_app, size_app]; omega
   ·have h3 : bDef.size = 8 := rfl
    have h4 := hsay st.allow
    rw [size_app]; omega
  have h1 := join_le bSemi (linesT st.csp st.shares st.mixed st.rules st.allow)
  have h2 := sum_le hK
  rw [List.length_map] at h2
  have h3 : (linesT st.csp st.shares st.mixed st.rules st.allow).length * 1000000000 ≤ 62 * 1000000000 := Nat.mul_le_mul_right _ hl
  omega
end Go.Proofs.YtngedmioeodmfaaDoor.Pu
namespace Go.Proofs.YtngedmioeodmfaaDoor.Pu
open Go.RowKit Go.Proofs.YtngedmioeodmfaaDoor.Pr Go.Proofs.YtngedmioeodmfaaDoorW.PrintWords Go.Proofs.YtngedmioeodmfaaDoorW.PrintLast Go.Proofs.YtngedmioeodmfaaDoorW.PrintMore Go.Proofs.YtngedmioeodmfaaDoor.Lx
open Go.Proofs.YtngedmioeodmfaaDoor.Ps hiding Tk
theorem join_snoc (x sep : ByteArray) : ∀ (l : List ByteArray) (y : ByteArray), joinB (y :: l ++ [x]) sep = joinB (y :: l) sep ++ sep ++ x
 | [], y => by
  apply bytesOf_inj
  show bytesOf (joinB [y, x] sep) = _
  rw [join_two, joinB_one, joinB_one, bytesOf_app, bytesOf_app, List.append_assoc]
 | z :: l, y => by
  apply bytesOf_inj
  have h := join_snoc x sep l z
  show bytesOf (joinB (y :: z :: (l ++ [x])) sep) = _
  rw [join_two, bytesOf_app, bytesOf_app, join_two, List.append_assoc, List.append_assoc]
  have h2 : bytesOf (joinB (z :: (l ++ [x])) sep) = bytesOf (joinB (z :: l) sep) ++ (bytesOf sep ++ bytesOf x) := by
   have h3 := congrArg bytesOf h
   rw [bytesOf_app, bytesOf_app, List.append_assoc] at h3
   exact h3
  rw [h2]; simp
theorem join_next {l : List ByteArray} {sep : ByteArray} {i : Nat} (h : i < l.length) : joinB (l.take (i + 1)) sep = if 0 < i then joinB (l.take i) sep ++ sep ++ l[i] else l[i] := by
 rw [List.take_add_one, List.getElem?_eq_getElem h, Option.toList_some]
 cases i with
 | zero => rw [List.take_zero, if_neg (Nat.lt_irrefl 0)]; exact joinB_one _ _
 | succ i =>
  rw [if_pos (Nat.succ_pos _)]
  cases l with
  | nil => cases h
  | cons y l => rw [List.take_succ_cons]; exact join_snoc _ _ _ _
theorem join_nil (sep : ByteArray) : joinB [] sep = ⟨#[]⟩ := rfl
theorem join_take_le (sep : ByteArray) : ∀ (l : List ByteArray) (i : Nat), (joinB (l.take i) sep).size ≤ (joinB l sep).size
 | [], i => by rw [List.take_nil]; exact Nat.le_refl _
 | [x], 0 => by rw [List.take_zero, join_nil]; exact Nat.zero_le _
 | [x], i + 1 => by rw [List.take_succ_cons, List.take_nil]; exact Nat.le_refl _
 | x :: y :: l, 0 => by rw [List.take_zero, join_nil]; exact Nat.zero_le _
 | x :: y :: l, 1 => by
  show (joinB [x] sep).size ≤ _
  rw [joinB_one, ← bytesOf_length, ← bytesOf_length, join_two, List.length_append]; omega
 | x :: y :: l, i + 2 => by
  have h := join_take_le sep (y :: l) (i + 1)
  rw [List.take_succ_cons] at h
  rw [List.take_succ_cons, List.take_succ_cons, ← bytesOf_length, ← bytesOf_length, join_two, join_two]
  rw [← bytesOf_length, ← bytesOf_length] at h
  simp only [List.length_append]; omega
def RxC (c : Cd) : Prop := ∀ (A : Option Addr) (c3 : Nat) (w : World), k49.C w A c.f2.length c.f2 → c.f2.length ≤ c3 → Calls Tryd.prog 44 #[cdV c A c3] w fun e w' => e = .returned (.string (condT c)) ∧ Below w.heap.size w w'
set_option maxHeartbeats 16000000
set_option maxRecDepth 100000
theorem rkid_calls (c : Cd) (hc : RxC c) (hz : (condT c).size ≤ 1000000000) (A : Option Addr) (c3 : Nat) (w : World) (hC : k49.C w A c.f2.length c.f2) (hl : c.f2.length ≤ c3) :
  Calls Tryd.prog 68 #[cdV c A c3] w fun e w' => e = .returned (.string (amongB c.f0 (condT c))) ∧ Below w.heap.size w w' := by
 obtain ⟨n, hn⟩ : ∃ n, n = c.f2.length := ⟨_, rfl⟩
 have h1 := hc A c3 (w.alloc (.cells #[.int .i64 c.f0, .string c.f1.f0, .string c.f1.f1, .slice A c.f2.length c3] 49)) (Kd.C_alloc hC _) hl
 unfold cdV at h1 ⊢
 rw [← hn] at h1 ⊢
 obtain ⟨k, hk⟩ : ∃ k, k = c.f0 := ⟨_, rfl⟩
 obtain ⟨t, ht⟩ : ∃ t, t = condT c := ⟨_, rfl⟩
 rw [← hk, ← ht] at h1 ⊢
 rw [← ht] at hz
 obtain ⟨a0, ha0⟩ : ∃ a, a = c.f1.f0 := ⟨_, rfl⟩
 obtain ⟨a1, ha1⟩ : ∃ a, a = c.f1.f1 := ⟨_, rfl⟩
 rw [← ha0, ← ha1] at h1 ⊢
 obtain ⟨w1, hw1⟩ : ∃ w1, w1 = w.alloc (.cells #[.int .i64 k, .string a0, .string a1, .slice A n c3] 49) := ⟨_, rfl⟩
 rw [← hw1] at h1
 have HX : Aside0 (w1.heap[w.heap.size]? = some (.cells #[.int .i64 k, .string a0, .string a1, .slice A n c3] 49 (0, 0))) := ⟨by rw [hw1]; exact blk_new _ _⟩
 have HB1 : Aside0 (Below w.heap.size w w1) := ⟨by rw [hw1]; exact below_alloc (Below.refl _ _) _⟩
 have H1 := Aside0.mk h1
 have HW1 := Aside0.mk hw1
 have t0 : w1.cell? ⟨w.heap.size, 0, none⟩ = some (.int .i64 k) := blk_cell HX.out 0
 clear h1 hw1 hn hk ht ha0 ha1 hC hl hc
 by_cases h5 : k = 5
 ·have l5 : (k == (5 : Int)) = true := by simp [h5]
  have hs : amongB k t = bOpen ++ t ++ bShut := by rw [amongB, if_pos (.inr h5)]
  rw [hs]
  clear h5 hs
  exact sTe7_4
 ·have l5 : (k == (5 : Int)) = false := by simp [h5]
  by_cases h6 : k = 6
  ·have l6 : (k == (6 : Int)) = true := by simp [h6]
   have hs : amongB k t = bOpen ++ t ++ bShut := by rw [amongB, if_pos (.inl h6)]
   rw [hs]
   clear h6 h5 hs
   exact sTe7_4
  ·have l6 : (k == (6 : Int)) = false := by simp [h6]
   have hs : amongB k t = t := by rw [amongB, if_neg (fun h => h.elim h6 h5)]
   rw [hs]
   clear h6 h5 hs
   exact sTe7_4
theorem rjoined_calls (l : List Cd) (hall : ∀ c ∈ l, RxC c ∧ (condT c).size ≤ 1000000000) (hn : l.length ≤ 1000000) (sep : ByteArray) (hwd : sep.size ≤ 1000) (hz : (joinB (amongsT l) sep).size ≤ 1000000000) (A : Option Addr) (n cap : Nat) (w : World) (hC : k49.C w A l.length l) (hnl : n = l.length) (hcap : n ≤ cap) :
  Calls Tryd.prog 69 #[.slice A n cap, .string sep] w fun e w' => e = .returned (.string (joinB (amongsT l) sep)) ∧ Below w.heap.size w w' := by
 have HAL := Aside0.mk hall
 have HC := Aside0.mk hC
 have HN := Aside0.mk hnl
 have HL := Aside0.mk hn
 have HZ := Aside0.mk hz
 clear hall hC hnl hn hz
 go_enter Tryd.func69, Tryd.ntmps69
 go_wp2
 go_loopg [5, 6] l.length (fun gk v5 v6 wr => ∃ (i : Nat) (s : ByteArray), v6 = .int .i64 i ∧ v5 = .string s ∧ Aside0 (i ≤ l.length) ∧ Aside0 (l.length - i ≤ gk) ∧ Aside0 (s = joinB ((amongsT l).take i) sep) ∧ Aside0 (Below w.heap.size w wr))
 case atStart => exact ⟨0, _, rfl, rfl, ⟨Nat.zero_le _⟩, ⟨Nat.sub_le _ _⟩, ⟨rfl⟩, ⟨Below.refl _ _⟩⟩
 case round =>
  obtain ⟨i, s, rfl, rfl, HI, HGK, HR, HB⟩ := hrel
  by_cases hi : i < n
  ·have l1 : decide (i < n) = true := decide_eq_true hi
   have l2 : decide ((i : Int) < (n : Int)) = true := decide_eq_true (by omega)
   have l3 : (i : Int) < (n : Int) := by omega
   have HIL : Aside0 (i < l.length) := ⟨by rw [← HN.out]; exact hi⟩
   have hib : (i : Int) ≤ 1000000 := by have := HL.out; have := HIL.out; omega
   obtain ⟨ad, A3, c3, hA, q0, q1, q2, q3, hl3, hC3⟩ := at_T49 HC.out (i : Int) (by omega) (by have := HIL.out; omega)
   have hA2 : A = some ad := hA
   subst hA2
   obtain ⟨x, hx⟩ : ∃ x, x = rd_T49 l (i : Int) := ⟨_, rfl⟩
   have HX : Aside0 (x = l[i]'HIL.out) := ⟨by rw [hx]; have := HIL.out; simp [rd_T49, this]⟩
   rw [← hx] at q0 q1 q2 q3 hl3 hC3
   simp only [Int.toNat_natCast] at q0 q1 q2 q3
   replace q0 := (HB.out.cell (World.block_lt_of_cell? w _ q0)).trans q0
   replace q1 := (HB.out.cell (World.block_lt_of_cell? w _ q1)).trans q1
   replace q2 := (HB.out.cell (World.block_lt_of_cell? w _ q2)).trans q2
   replace q3 := (HB.out.cell (World.block_lt_of_cell? w _ q3)).trans q3
   have hbl := World.block_lt_of_cell? wr _ q0
   obtain ⟨m, hm⟩ : ∃ m, m = x.f2.length := ⟨_, rfl⟩
   rw [← hm] at q3
   have hmem : x ∈ l := by rw [HX.out]; exact List.getElem_mem _
   have h5 := rkid_calls x (HAL.out x hmem).1 (HAL.out x hmem).2 A3 c3 wr (Kd.C_below hC3 HB.out) hl3
   have hzx := (HAL.out x hmem).2
   unfold cdV at h5
   rw [← hm] at h5
   have H5 := Aside0.mk h5
   clear h5 hx hA hC3 hl3 hm hmem hi
   obtain ⟨x0, hx0⟩ : ∃ x0, x0 = x.f0 := ⟨_, rfl⟩
   obtain ⟨x1, hx1⟩ : ∃ x1, x1 = x.f1.f0 := ⟨_, rfl⟩
   obtain ⟨x2, hx2⟩ : ∃ x2, x2 = x.f1.f1 := ⟨_, rfl⟩
   obtain ⟨tx, htx⟩ : ∃ tx, tx = amongB x.f0 (condT x) := ⟨_, rfl⟩
   have htz : tx.size ≤ 2000000000 := by rw [htx]; have := among_le x.f0 (condT x); omega
   rw [← htx, ← hx0, ← hx1, ← hx2] at H5
   rw [← hx0] at q0
   rw [← hx1] at q1
   rw [← hx2] at q2
   have hsz : s.size ≤ 1000000000 := by rw [HR.out]; exact Nat.le_trans (join_take_le _ _ _) HZ.out
   have HTX : Aside0 (joinB ((amongsT l).take (i + 1)) sep = if 0 < i then s ++ sep ++ tx else tx) := ⟨by
    rw [join_next (by rw [amongsT_len]; exact HIL.out), ← HR.out, htx, HX.out]
    simp only [amongsT_map, List.getElem_map]⟩
   clear hx0 hx1 hx2 htx hzx
   by_cases h0 : 0 < i
   ·have l4 : decide ((0 : Int) < (i : Int)) = true := decide_eq_true (by omega)
    have HT2 : Aside0 (joinB ((amongsT l).take (i + 1)) sep = s ++ sep ++ tx) := ⟨by rw [HTX.out, if_pos h0]⟩
    have hss : (s ++ sep).size ≤ 2000000000 := by rw [ByteArray.size_append]; omega
    go_wp2_with fail
    refine H5.out.mono ?_
    rintro e w6 ⟨rfl, hb6⟩
    dsimp only
    have HB6 : Aside0 (Below w.heap.size w w6) := ⟨HB.out.trans (hb6.mono HB.out.size)⟩
    clear hb6 q0 q1 q2 q3 hbl
    go_wp2
    go_roundg (l.length - (i + 1))
    case measure => have := HGK.out; have := HIL.out; omega
    case rel => exact ⟨i + 1, _, by first | rfl | go_num, rfl, ⟨HIL.out⟩, ⟨Nat.le_refl _⟩, ⟨HT2.out.symm⟩, HB6⟩
   ·have l4 : decide ((0 : Int) < (i : Int)) = false := decide_eq_false (by omega)
    have HT2 : Aside0 (joinB ((amongsT l).take (i + 1)) sep = s ++ tx) := ⟨by
     rw [HTX.out, if_neg h0]
     have : i = 0 := by omega
     subst this
     rw [HR.out]
     apply bytesOf_inj
     rw [bytesOf_app, List.take_zero, join_nil]; rfl⟩
    go_wp2_with fail
    refine H5.out.mono ?_
    rintro e w6 ⟨rfl, hb6⟩
    dsimp only
    have HB6 : Aside0 (Below w.heap.size w w6) := ⟨HB.out.trans (hb6.mono HB.out.size)⟩
    clear hb6 q0 q1 q2 q3 hbl
    go_wp2
    go_roundg (l.length - (i + 1))
    case measure => have := HGK.out; have := HIL.out; omega
    case rel => exact ⟨i + 1, _, by first | rfl | go_num, rfl, ⟨HIL.out⟩, ⟨Nat.le_refl _⟩, ⟨HT2.out.symm⟩, HB6⟩
  ·have l1 : decide (i < n) = false := decide_eq_false hi
   have l2 : decide ((i : Int) < (n : Int)) = false := decide_eq_false (by omega)
   have l3 : ¬ (i : Int) < (n : Int) := by omega
   have HT2 : Aside0 (s = joinB (amongsT l) sep) := ⟨by
    have h := HR.out
    rwa [List.take_of_length_le (by rw [amongsT_len]; have := HN.out; omega)] at h⟩
   clear hi HR
   go_wp2
   go_ret
   exact ⟨by rw [HT2.out]; rfl, HB.out⟩
theorem rquote_loop (x : ByteArray) (hx : x.size ≤ 1000000) (d : Nat) : ∀ (i : Nat) (acc : List Int), i ≤ x.size → x.size - i ≤ d → acc.length ≤ 2 * i + 1 →
  Ev (fun k => parapetref19_Quote.l0 k x acc (i : Int)) (strOfNums (acc ++ (escL (dr x i) ++ [34]))) := by
 induction d with
 | zero =>
  intro i acc hi hd ha
  refine Ev.step (f := fun _ => some (strOfNums (acc ++ [34]))) (fun k => ?_) ((Ev.now _).eq (by rw [dr_nil x i (by omega)]; rfl))
  simp only [parapetref19_Quote.l0]
  rw [if_neg (by omega), if_pos (by omega)]
 | succ d ih =>
  intro i acc hi hd ha
  by_cases hlt : i < x.size
  ·rw [dr_cons x i hlt, escL_cons]
   by_cases q : bt x (i : Int) = 34 ∨ bt x (i : Int) = 92
   ·rw [if_pos q]
    have := ih (i + 1) (acc ++ [92] ++ [bt x (i : Int)]) (by omega) (by omega) (by simp; omega)
    refine Ev.step (f := fun k => parapetref19_Quote.l0 k x (acc ++ [92] ++ [bt x (i : Int)]) ((i + 1 : Nat) : Int)) (fun k => ?_) (this.eq (by simp))
    simp only [parapetref19_Quote.l0]
    rw [if_pos (by omega), if_pos (by omega), w64 (by omega) (by omega)]
    rcases q with q | q
    ·rw [if_pos q, if_pos (by omega)]
     simp only [Option.bind_some]
     rw [if_pos (by simp; omega)]
     rfl
    ·rw [if_neg (by omega), if_pos q, if_pos (by omega)]
     simp only [Option.bind_some]
     rw [if_pos (by simp; omega)]
     rfl
   ·rw [if_neg q]
    have := ih (i + 1) (acc ++ [bt x (i : Int)]) (by omega) (by omega) (by simp; omega)
    refine Ev.step (f := fun k => parapetref19_Quote.l0 k x (acc ++ [bt x (i : Int)]) ((i + 1 : Nat) : Int)) (fun k => ?_) (this.eq (by simp))
    simp only [parapetref19_Quote.l0]
    rw [if_pos (by omega), if_pos (by omega), w64 (by omega) (by omega), if_neg (fun h => q (.inl h)), if_neg (fun h => q (.inr h)), if_pos (by omega)]
    rfl
  ·refine Ev.step (f := fun _ => some (strOfNums (acc ++ [34]))) (fun k => ?_) ((Ev.now _).eq (by rw [dr_nil x i (by omega)]; rfl))
   simp only [parapetref19_Quote.l0]
   rw [if_neg (by omega), if_pos (by omega)]
theorem rquote_calls (s : ByteArray) (hs : s.size ≤ 1000000) (w : World) : Calls Tryd.prog 42 #[.string s] w fun e w' => e = .returned (.string (quoteB s)) ∧ Below w.heap.size w w' := by
 have h : Ev (fun k => parapetref19_Quote.f k s) (quoteB s) := rquote_loop s hs s.size 0 [34] (Nat.zero_le _) (by omega) (by simp)
 obtain ⟨k, hk⟩ := h
 exact parapetref19_Quote.calls k s _ w (hk k (Nat.le_refl _))
set_option maxHeartbeats 16000000
set_option maxRecDepth 100000
theorem rc_true (a0 a1 : ByteArray) (A : Option Addr) (n c3 : Nat) (w : World) :
  Calls Tryd.prog 44 #[.agg #[.int .i64 1, .string a0, .string a1, .slice A n c3]] w fun e w' => e = .returned (.string (wTrue)) ∧ Below w.heap.size w w' := by
 obtain ⟨w1, hw1⟩ : ∃ w1, w1 = w.alloc (.cells #[.int .i64 1, .string a0, .string a1, .slice A n c3] 49) := ⟨_, rfl⟩
 have HX : Aside0 (w1.heap[w.heap.size]? = some (.cells #[.int .i64 1, .string a0, .string a1, .slice A n c3] 49 (0, 0))) := ⟨by rw [hw1]; exact blk_new _ _⟩
 have HB1 : Aside0 (Below w.heap.size w w1) := ⟨by rw [hw1]; exact below_alloc (Below.refl _ _) _⟩
 have HW1 := Aside0.mk hw1
 have HWS : w.heap.size < w1.heap.size := blk_lt HX.out
 have t0 : w1.cell? ⟨w.heap.size, 0, none⟩ = some (.int .i64 1) := blk_cell HX.out 0
 have t1 : w1.cell? ⟨w.heap.size, 1, none⟩ = some (.string a0) := blk_cell HX.out 1
 have t2 : w1.cell? ⟨w.heap.size, 2, none⟩ = some (.string a1) := blk_cell HX.out 2
 have t3 : w1.cell? ⟨w.heap.size, 3, none⟩ = some (.slice A n c3) := blk_cell HX.out 3
 clear hw1
 go_enter Tryd.func44, Tryd.ntmps44
 go_upto_region 1 with (fail)
 rw [← HW1.out]
 go_wp2_with fail
 go_ret
 exact ⟨rfl, HB1.out⟩
theorem rc_false (a0 a1 : ByteArray) (A : Option Addr) (n c3 : Nat) (w : World) :
  Calls Tryd.prog 44 #[.agg #[.int .i64 2, .string a0, .string a1, .slice A n c3]] w fun e w' => e = .returned (.string (wFalse)) ∧ Below w.heap.size w w' := by
 obtain ⟨w1, hw1⟩ : ∃ w1, w1 = w.alloc (.cells #[.int .i64 2, .string a0, .string a1, .slice A n c3] 49) := ⟨_, rfl⟩
 have HX : Aside0 (w1.heap[w.heap.size]? = some (.cells #[.int .i64 2, .string a0, .string a1, .slice A n c3] 49 (0, 0))) := ⟨by rw [hw1]; exact blk_new _ _⟩
 have HB1 : Aside0 (Below w.heap.size w w1) := ⟨by rw [hw1]; exact below_alloc (Below.refl _ _) _⟩
 have HW1 := Aside0.mk hw1
 have HWS : w.heap.size < w1.heap.size := blk_lt HX.out
 have t0 : w1.cell? ⟨w.heap.size, 0, none⟩ = some (.int .i64 2) := blk_cell HX.out 0
 have t1 : w1.cell? ⟨w.heap.size, 1, none⟩ = some (.string a0) := blk_cell HX.out 1
 have t2 : w1.cell? ⟨w.heap.size, 2, none⟩ = some (.string a1) := blk_cell HX.out 2
 have t3 : w1.cell? ⟨w.heap.size, 3, none⟩ = some (.slice A n c3) := blk_cell HX.out 3
 clear hw1
 go_enter Tryd.func44, Tryd.ntmps44
 go_upto_region 1 with (fail)
 rw [← HW1.out]
 go_wp2_with fail
 go_ret
 exact ⟨rfl, HB1.out⟩
theorem rc_not (c : Cd) (hc : RxC c) (hz : (condT c).size ≤ 1000000000) (a0 a1 : ByteArray) (A : Option Addr) (n c3 : Nat) (w : World) (hC : k49.C w A [c].length [c]) (hn : n = 1) (hcap : n ≤ c3) :
  Calls Tryd.prog 44 #[.agg #[.int .i64 4, .string a0, .string a1, .slice A n c3]] w fun e w' => e = .returned (.string (bNot ++ amongB c.f0 (condT c))) ∧ Below w.heap.size w w' := by
 subst hn
 obtain ⟨w1, hw1⟩ : ∃ w1, w1 = w.alloc (.cells #[.int .i64 4, .string a0, .string a1, .slice A 1 c3] 49) := ⟨_, rfl⟩
 have HX : Aside0 (w1.heap[w.heap.size]? = some (.cells #[.int .i64 4, .string a0, .string a1, .slice A 1 c3] 49 (0, 0))) := ⟨by rw [hw1]; exact blk_new _ _⟩
 have HB1 : Aside0 (Below w.heap.size w w1) := ⟨by rw [hw1]; exact below_alloc (Below.refl _ _) _⟩
 have HW1 := Aside0.mk hw1
 have HWS : w.heap.size < w1.heap.size := blk_lt HX.out
 have t0 : w1.cell? ⟨w.heap.size, 0, none⟩ = some (.int .i64 4) := blk_cell HX.out 0
 have t1 : w1.cell? ⟨w.heap.size, 1, none⟩ = some (.string a0) := blk_cell HX.out 1
 have t2 : w1.cell? ⟨w.heap.size, 2, none⟩ = some (.string a1) := blk_cell HX.out 2
 have t3 : w1.cell? ⟨w.heap.size, 3, none⟩ = some (.slice A 1 c3) := blk_cell HX.out 3
 have hC1 : k49.C w1 A [c].length [c] := by rw [hw1]; exact Kd.C_alloc hC _
 clear hw1 hC
 obtain ⟨ad, A3, c4, hA, q0, q1, q2, q3, hl3, hC3⟩ := at_T49 hC1 0 (by decide) (by simp)
 have hA2 : A = some ad := hA
 subst hA2
 have hx : rd_T49 [c] 0 = c := rfl
 rw [hx] at q0 q1 q2 q3 hl3 hC3
 rw [show ad.add (Int.toNat 0 * 4) = ad from by cases ad; rfl] at q0 q1 q2 q3
 have h5 := rkid_calls c hc hz A3 c4 w1 hC3 hl3
 unfold cdV at h5
 have hbl := World.block_lt_of_cell? w1 _ q0
 obtain ⟨m, hm⟩ : ∃ m, m = c.f2.length := ⟨_, rfl⟩
 obtain ⟨x0, hx0⟩ : ∃ x0, x0 = c.f0 := ⟨_, rfl⟩
 obtain ⟨x1, hx1⟩ : ∃ x1, x1 = c.f1.f0 := ⟨_, rfl⟩
 obtain ⟨x2, hx2⟩ : ∃ x2, x2 = c.f1.f1 := ⟨_, rfl⟩
 obtain ⟨tx, htx⟩ : ∃ tx, tx = amongB c.f0 (condT c) := ⟨_, rfl⟩
 have htz : tx.size ≤ 2000000000 := by rw [htx]; have := among_le c.f0 (condT c); omega
 rw [← htx, ← hm, ← hx0, ← hx1, ← hx2] at h5
 rw [← htx]
 rw [← hx0] at q0
 rw [← hx1] at q1
 rw [← hx2] at q2
 rw [← hm] at q3
 have H5 := Aside0.mk h5
 clear h5 hx hA hl3 hC3 hC1 hm hx0 hx1 hx2 htx
 go_enter Tryd.func44, Tryd.ntmps44
 go_upto_region 1 with (fail)
 rw [← HW1.out]
 go_wp2_with fail
 refine H5.out.mono ?_
 rintro e w6 ⟨rfl, hb6⟩
 dsimp only
 have HB6 : Aside0 (Below w.heap.size w w6) := ⟨HB1.out.trans (hb6.mono HB1.out.size)⟩
 clear hb6 q0 q1 q2 q3 hbl t0 t1 t2 t3
 go_wp2_with fail
 go_ret
 exact ⟨rfl, HB6.out⟩
theorem rc_and (l : List Cd) (hall : ∀ c ∈ l, RxC c ∧ (condT c).size ≤ 1000000000) (hln : l.length ≤ 1000000) (hz : (joinB (amongsT l) bAnd).size ≤ 1000000000) (a0 a1 : ByteArray) (A : Option Addr) (n c3 : Nat) (w : World) (hC : k49.C w A l.length l) (hn : n = l.length) (hcap : n ≤ c3) :
  Calls Tryd.prog 44 #[.agg #[.int .i64 5, .string a0, .string a1, .slice A n c3]] w fun e w' => e = .returned (.string (joinB (amongsT l) bAnd)) ∧ Below w.heap.size w w' := by
 obtain ⟨w1, hw1⟩ : ∃ w1, w1 = w.alloc (.cells #[.int .i64 5, .string a0, .string a1, .slice A n c3] 49) := ⟨_, rfl⟩
 have HX : Aside0 (w1.heap[w.heap.size]? = some (.cells #[.int .i64 5, .string a0, .string a1, .slice A n c3] 49 (0, 0))) := ⟨by rw [hw1]; exact blk_new _ _⟩
 have HB1 : Aside0 (Below w.heap.size w w1) := ⟨by rw [hw1]; exact below_alloc (Below.refl _ _) _⟩
 have HW1 := Aside0.mk hw1
 have HWS : w.heap.size < w1.heap.size := blk_lt HX.out
 have t0 : w1.cell? ⟨w.heap.size, 0, none⟩ = some (.int .i64 5) := blk_cell HX.out 0
 have t1 : w1.cell? ⟨w.heap.size, 1, none⟩ = some (.string a0) := blk_cell HX.out 1
 have t2 : w1.cell? ⟨w.heap.size, 2, none⟩ = some (.string a1) := blk_cell HX.out 2
 have t3 : w1.cell? ⟨w.heap.size, 3, none⟩ = some (.slice A n c3) := blk_cell HX.out 3
 have hC1 : k49.C w1 A l.length l := by rw [hw1]; exact Kd.C_alloc hC _
 clear hw1
 have HJ : Aside0 (Calls Tryd.prog 69 #[.slice A n c3, .string ⟨#[32, 97, 110, 100, 32]⟩] w1 fun e w' => e = .returned (.string (joinB (amongsT l) bAnd)) ∧ Below w1.heap.size w1 w') := ⟨rjoined_calls l hall hln bAnd (by decide) hz A n c3 w1 hC1 hn hcap⟩
 obtain ⟨j, hj⟩ : ∃ j, j = joinB (amongsT l) bAnd := ⟨_, rfl⟩
 rw [← hj] at hz HJ ⊢
 clear hj hC hC1 hn hall
 exact sTe7_6
theorem rc_or (l : List Cd) (hall : ∀ c ∈ l, RxC c ∧ (condT c).size ≤ 1000000000) (hln : l.length ≤ 1000000) (hz : (joinB (amongsT l) bOr).size ≤ 1000000000) (a0 a1 : ByteArray) (A : Option Addr) (n c3 : Nat) (w : World) (hC : k49.C w A l.length l) (hn : n = l.length) (hcap : n ≤ c3) :
  Calls Tryd.prog 44 #[.agg #[.int .i64 6, .string a0, .string a1, .slice A n c3]] w fun e w' => e = .returned (.string (joinB (amongsT l) bOr)) ∧ Below w.heap.size w w' := by
 obtain ⟨w1, hw1⟩ : ∃ w1, w1 = w.alloc (.cells #[.int .i64 6, .string a0, .string a1, .slice A n c3] 49) := ⟨_, rfl⟩
 have HX : Aside0 (w1.heap[w.heap.size]? = some (.cells #[.int .i64 6, .string a0, .string a1, .slice A n c3] 49 (0, 0))) := ⟨by rw [hw1]; exact blk_new _ _⟩
 have HB1 : Aside0 (Below w.heap.size w w1) := ⟨by rw [hw1]; exact below_alloc (Below.refl _ _) _⟩
 have HW1 := Aside0.mk hw1
 have HWS : w.heap.size < w1.heap.size := blk_lt HX.out
 have t0 : w1.cell? ⟨w.heap.size, 0, none⟩ = some (.int .i64 6) := blk_cell HX.out 0
 have t1 : w1.cell? ⟨w.heap.size, 1, none⟩ = some (.string a0) := blk_cell HX.out 1
 have t2 : w1.cell? ⟨w.heap.size, 2, none⟩ = some (.string a1) := blk_cell HX.out 2
 have t3 : w1.cell? ⟨w.heap.size, 3, none⟩ = some (.slice A n c3) := blk_cell HX.out 3
 have hC1 : k49.C w1 A l.length l := by rw [hw1]; exact Kd.C_alloc hC _
 clear hw1
 have HJ : Aside0 (Calls Tryd.prog 69 #[.slice A n c3, .string ⟨#[32, 111, 114, 32]⟩] w1 fun e w' => e = .returned (.string (joinB (amongsT l) bOr)) ∧ Below w1.heap.size w1 w') := ⟨rjoined_calls l hall hln bOr (by decide) hz A n c3 w1 hC1 hn hcap⟩
 obtain ⟨j, hj⟩ : ∃ j, j = joinB (amongsT l) bOr := ⟨_, rfl⟩
 rw [← hj] at hz HJ ⊢
 clear hj hC hC1 hn hall
 exact sTe7_6
theorem rc_atom0 (a0 a1 : ByteArray) (A : Option Addr) (n c3 : Nat) (w : World) (s0 : (a0.toList == [104, 111, 115, 116]) = true) (ha : a0.size ≤ 1000000) (hb : a1.size ≤ 1000000) :
  Calls Tryd.prog 44 #[.agg #[.int .i64 3, .string a0, .string a1, .slice A n c3]] w fun e w' => e = .returned (.string (a0 ++ bSp ++ quoteB a1)) ∧ Below w.heap.size w w' := by
 obtain ⟨w1, hw1⟩ : ∃ w1, w1 = w.alloc (.cells #[.int .i64 3, .string a0, .string a1, .slice A n c3] 49) := ⟨_, rfl⟩
 have HX : Aside0 (w1.heap[w.heap.size]? = some (.cells #[.int .i64 3, .string a0, .string a1, .slice A n c3] 49 (0, 0))) := ⟨by rw [hw1]; exact blk_new _ _⟩
 have HB1 : Aside0 (Below w.heap.size w w1) := ⟨by rw [hw1]; exact below_alloc (Below.refl _ _) _⟩
 have HW1 := Aside0.mk hw1
 have HWS : w.heap.size < w1.heap.size := blk_lt HX.out
 have t0 : w1.cell? ⟨w.heap.size, 0, none⟩ = some (.int .i64 3) := blk_cell HX.out 0
 have t1 : w1.cell? ⟨w.heap.size, 1, none⟩ = some (.string a0) := blk_cell HX.out 1
 have t2 : w1.cell? ⟨w.heap.size, 2, none⟩ = some (.string a1) := blk_cell HX.out 2
 have t3 : w1.cell? ⟨w.heap.size, 3, none⟩ = some (.slice A n c3) := blk_cell HX.out 3
 have HQ := rquote_calls a1 hb
 have HZQ : (quoteB a1).size ≤ 1000000000 := by have := size_quote a1; omega
 obtain ⟨wa, hwa⟩ : ∃ wa, wa = (w1.alloc (.cells #[.string ⟨#[]⟩, .string ⟨#[]⟩] 46)).setRow w1.heap.size #[.string a0, .string a1] := ⟨_, rfl⟩
 have HBA : Aside0 (Below w.heap.size w wa) := ⟨by rw [hwa]; exact HB1.out.trans ((below_setRow (below_alloc (Below.refl _ _) _) (Nat.le_refl _) _).mono HB1.out.size)⟩
 have HXA : Aside0 (wa.heap[w1.heap.size]? = some (.cells #[.string a0, .string a1] 46 (0, 0))) := ⟨by rw [hwa]; exact setRow_heap _ _ _ _ _ _ (blk_new w1 (.cells #[.string ⟨#[]⟩, .string ⟨#[]⟩] 46))⟩
 have HWA := Aside0.mk hwa
 clear hwa hw1
 exact sTe7_1
theorem rc_atom1 (a0 a1 : ByteArray) (A : Option Addr) (n c3 : Nat) (w : World) (s0 : (a0.toList == [104, 111, 115, 116]) = false) (s1 : (a0.toList == [112, 97, 116, 104]) = true) (ha : a0.size ≤ 1000000) (hb : a1.size ≤ 1000000) :
  Calls Tryd.prog 44 #[.agg #[.int .i64 3, .string a0, .string a1, .slice A n c3]] w fun e w' => e = .returned (.string (a0 ++ bSp ++ quoteB a1)) ∧ Below w.heap.size w w' := by
 obtain ⟨w1, hw1⟩ : ∃ w1, w1 = w.alloc (.cells #[.int .i64 3, .string a0, .string a1, .slice A n c3] 49) := ⟨_, rfl⟩
 have HX : Aside0 (w1.heap[w.heap.size]? = some (.cells #[.int .i64 3, .string a0, .string a1, .slice A n c3] 49 (0, 0))) := ⟨by rw [hw1]; exact blk_new _ _⟩
 have HB1 : Aside0 (Below w.heap.size w w1) := ⟨by rw [hw1]; exact below_alloc (Below.refl _ _) _⟩
 have HW1 := Aside0.mk hw1
 have HWS : w.heap.size < w1.heap.size := blk_lt HX.out
 have t0 : w1.cell? ⟨w.heap.size, 0, none⟩ = some (.int .i64 3) := blk_cell HX.out 0
 have t1 : w1.cell? ⟨w.heap.size, 1, none⟩ = some (.string a0) := blk_cell HX.out 1
 have t2 : w1.cell? ⟨w.heap.size, 2, none⟩ = some (.string a1) := blk_cell HX.out 2
 have t3 : w1.cell? ⟨w.heap.size, 3, none⟩ = some (.slice A n c3) := blk_cell HX.out 3
 have HQ := rquote_calls a1 hb
 have HZQ : (quoteB a1).size ≤ 1000000000 := by have := size_quote a1; omega
 obtain ⟨wa, hwa⟩ : ∃ wa, wa = (w1.alloc (.cells #[.string ⟨#[]⟩, .string ⟨#[]⟩] 46)).setRow w1.heap.size #[.string a0, .string a1] := ⟨_, rfl⟩
 have HBA : Aside0 (Below w.heap.size w wa) := ⟨by rw [hwa]; exact HB1.out.trans ((below_setRow (below_alloc (Below.refl _ _) _) (Nat.le_refl _) _).mono HB1.out.size)⟩
 have HXA : Aside0 (wa.heap[w1.heap.size]? = some (.cells #[.string a0, .string a1] 46 (0, 0))) := ⟨by rw [hwa]; exact setRow_heap _ _ _ _ _ _ (blk_new w1 (.cells #[.string ⟨#[]⟩, .string ⟨#[]⟩] 46))⟩
 have HWA := Aside0.mk hwa
 clear hwa hw1
 exact sTe7_1
theorem rc_atom2 (a0 a1 : ByteArray) (A : Option Addr) (n c3 : Nat) (w : World) (s0 : (a0.toList == [104, 111, 115, 116]) = false) (s1 : (a0.toList == [112, 97, 116, 104]) = false) (s2 : (a0.toList == [109, 101, 116, 104, 111, 100]) = true) (ha : a0.size ≤ 1000000) (hb : a1.size ≤ 1000000) :
  Calls Tryd.prog 44 #[.agg #[.int .i64 3, .string a0, .string a1, .slice A n c3]] w fun e w' => e = .returned (.string (a0 ++ bSp ++ a1)) ∧ Below w.heap.size w w' := by
 obtain ⟨w1, hw1⟩ : ∃ w1, w1 = w.alloc (.cells #[.int .i64 3, .string a0, .string a1, .slice A n c3] 49) := ⟨_, rfl⟩
 have HX : Aside0 (w1.heap[w.heap.size]? = some (.cells #[.int .i64 3, .string a0, .string a1, .slice A n c3] 49 (0, 0))) := ⟨by rw [hw1]; exact blk_new _ _⟩
 have HB1 : Aside0 (Below w.heap.size w w1) := ⟨by rw [hw1]; exact below_alloc (Below.refl _ _) _⟩
 have HW1 := Aside0.mk hw1
 have HWS : w.heap.size < w1.heap.size := blk_lt HX.out
 have t0 : w1.cell? ⟨w.heap.size, 0, none⟩ = some (.int .i64 3) := blk_cell HX.out 0
 have t1 : w1.cell? ⟨w.heap.size, 1, none⟩ = some (.string a0) := blk_cell HX.out 1
 have t2 : w1.cell? ⟨w.heap.size, 2, none⟩ = some (.string a1) := blk_cell HX.out 2
 have t3 : w1.cell? ⟨w.heap.size, 3, none⟩ = some (.slice A n c3) := blk_cell HX.out 3
 obtain ⟨wa, hwa⟩ : ∃ wa, wa = (w1.alloc (.cells #[.string ⟨#[]⟩, .string ⟨#[]⟩] 46)).setRow w1.heap.size #[.string a0, .string a1] := ⟨_, rfl⟩
 have HBA : Aside0 (Below w.heap.size w wa) := ⟨by rw [hwa]; exact HB1.out.trans ((below_setRow (below_alloc (Below.refl _ _) _) (Nat.le_refl _) _).mono HB1.out.size)⟩
 have HXA : Aside0 (wa.heap[w1.heap.size]? = some (.cells #[.string a0, .string a1] 46 (0, 0))) := ⟨by rw [hwa]; exact setRow_heap _ _ _ _ _ _ (blk_new w1 (.cells #[.string ⟨#[]⟩, .string ⟨#[]⟩] 46))⟩
 have HWA := Aside0.mk hwa
 clear hwa hw1
 exact sTe7_3
theorem rc_atom3 (a0 a1 : ByteArray) (A : Option Addr) (n c3 : Nat) (w : World) (s0 : (a0.toList == [104, 111, 115, 116]) = false) (s1 : (a0.toList == [112, 97, 116, 104]) = false) (s2 : (a0.toList == [109, 101, 116, 104, 111, 100]) = false) (s3 : (a0.toList == [100, 101, 115, 116]) = true) (ha : a0.size ≤ 1000000) (hb : a1.size ≤ 1000000) :
  Calls Tryd.prog 44 #[.agg #[.int .i64 3, .string a0, .string a1, .slice A n c3]] w fun e w' => e = .returned (.string (a0 ++ bSp ++ a1)) ∧ Below w.heap.size w w' := by
 obtain ⟨w1, hw1⟩ : ∃ w1, w1 = w.alloc (.cells #[.int .i64 3, .string a0, .string a1, .slice A n c3] 49) := ⟨_, rfl⟩
 have HX : Aside0 (w1.heap[w.heap.size]? = some (.cells #[.int .i64 3, .string a0, .string a1, .slice A n c3] 49 (0, 0))) := ⟨by rw [hw1]; exact blk_new _ _⟩
 have HB1 : Aside0 (Below w.heap.size w w1) := ⟨by rw [hw1]; exact below_alloc (Below.refl _ _) _⟩
 have HW1 := Aside0.mk hw1
 have HWS : w.heap.size < w1.heap.size := blk_lt HX.out
 have t0 : w1.cell? ⟨w.heap.size, 0, none⟩ = some (.int .i64 3) := blk_cell HX.out 0
 have t1 : w1.cell? ⟨w.heap.size, 1, none⟩ = some (.string a0) := blk_cell HX.out 1
 have t2 : w1.cell? ⟨w.heap.size, 2, none⟩ = some (.string a1) := blk_cell HX.out 2
 have t3 : w1.cell? ⟨w.heap.size, 3, none⟩ = some (.slice A n c3) := blk_cell HX.out 3
 obtain ⟨wa, hwa⟩ : ∃ wa, wa = (w1.alloc (.cells #[.string ⟨#[]⟩, .string ⟨#[]⟩] 46)).setRow w1.heap.size #[.string a0, .string a1] := ⟨_, rfl⟩
 have HBA : Aside0 (Below w.heap.size w wa) := ⟨by rw [hwa]; exact HB1.out.trans ((below_setRow (below_alloc (Below.refl _ _) _) (Nat.le_refl _) _).mono HB1.out.size)⟩
 have HXA : Aside0 (wa.heap[w1.heap.size]? = some (.cells #[.string a0, .string a1] 46 (0, 0))) := ⟨by rw [hwa]; exact setRow_heap _ _ _ _ _ _ (blk_new w1 (.cells #[.string ⟨#[]⟩, .string ⟨#[]⟩] 46))⟩
 have HWA := Aside0.mk hwa
 clear hwa hw1
 exact sTe7_3
theorem rc_atom4 (a0 a1 : ByteArray) (A : Option Addr) (n c3 : Nat) (w : World) (s0 : (a0.toList == [104, 111, 115, 116]) = false) (s1 : (a0.toList == [112, 97, 116, 104]) = false) (s2 : (a0.toList == [109, 101, 116, 104, 111, 100]) = false) (s3 : (a0.toList == [100, 101, 115, 116]) = false) (s4 : (a0.toList == [115, 99, 104, 101, 109, 101]) = true) (ha : a0.size ≤ 1000000) (hb : a1.size ≤ 1000000) :
  Calls Tryd.prog 44 #[.agg #[.int .i64 3, .string a0, .string a1, .slice A n c3]] w fun e w' => e = .returned (.string (a0 ++ bSp ++ a1)) ∧ Below w.heap.size w w' := by
 obtain ⟨w1, hw1⟩ : ∃ w1, w1 = w.alloc (.cells #[.int .i64 3, .string a0, .string a1, .slice A n c3] 49) := ⟨_, rfl⟩
 have HX : Aside0 (w1.heap[w.heap.size]? = some (.cells #[.int .i64 3, .string a0, .string a1, .slice A n c3] 49 (0, 0))) := ⟨by rw [hw1]; exact blk_new _ _⟩
 have HB1 : Aside0 (Below w.heap.size w w1) := ⟨by rw [hw1]; exact below_alloc (Below.refl _ _) _⟩
 have HW1 := Aside0.mk hw1
 have HWS : w.heap.size < w1.heap.size := blk_lt HX.out
 have t0 : w1.cell? ⟨w.heap.size, 0, none⟩ = some (.int .i64 3) := blk_cell HX.out 0
 have t1 : w1.cell? ⟨w.heap.size, 1, none⟩ = some (.string a0) := blk_cell HX.out 1
 have t2 : w1.cell? ⟨w.heap.size, 2, none⟩ = some (.string a1) := blk_cell HX.out 2
 have t3 : w1.cell? ⟨w.heap.size, 3, none⟩ = some (.slice A n c3) := blk_cell HX.out 3
 obtain ⟨wa, hwa⟩ : ∃ wa, wa = (w1.alloc (.cells #[.string ⟨#[]⟩, .string ⟨#[]⟩] 46)).setRow w1.heap.size #[.string a0, .string a1] := ⟨_, rfl⟩
 have HBA : Aside0 (Below w.heap.size w wa) := ⟨by rw [hwa]; exact HB1.out.trans ((below_setRow (below_alloc (Below.refl _ _) _) (Nat.le_refl _) _).mono HB1.out.size)⟩
 have HXA : Aside0 (wa.heap[w1.heap.size]? = some (.cells #[.string a0, .string a1] 46 (0, 0))) := ⟨by rw [hwa]; exact setRow_heap _ _ _ _ _ _ (blk_new w1 (.cells #[.string ⟨#[]⟩, .string ⟨#[]⟩] 46))⟩
 have HWA := Aside0.mk hwa
 clear hwa hw1
 exact sTe7_3
theorem rc_atom5 (a0 a1 : ByteArray) (A : Option Addr) (n c3 : Nat) (w : World) (s0 : (a0.toList == [104, 111, 115, 116]) = false) (s1 : (a0.toList == [112, 97, 116, 104]) = false) (s2 : (a0.toList == [109, 101, 116, 104, 111, 100]) = false) (s3 : (a0.toList == [100, 101, 115, 116]) = false) (s4 : (a0.toList == [115, 99, 104, 101, 109, 101]) = false) (s5 : (a0.toList == [104, 101, 97, 100, 101, 114]) = true) (ha : a0.size ≤ 1000000) (hb : a1.size ≤ 1000000) :
  Calls Tryd.prog 44 #[.agg #[.int .i64 3, .string a0, .string a1, .slice A n c3]] w fun e w' => e = .returned (.string (a0 ++ bSp ++ a1)) ∧ Below w.heap.size w w' := by
 obtain ⟨w1, hw1⟩ : ∃ w1, w1 = w.alloc (.cells #[.int .i64 3, .string a0, .string a1, .slice A n c3] 49) := ⟨_, rfl⟩
 have HX : Aside0 (w1.heap[w.heap.size]? = some (.cells #[.int .i64 3, .string a0, .string a1, .slice A n c3] 49 (0, 0))) := ⟨by rw [hw1]; exact blk_new _ _⟩
 have HB1 : Aside0 (Below w.heap.size w w1) := ⟨by rw [hw1]; exact below_alloc (Below.refl _ _) _⟩
 have HW1 := Aside0.mk hw1
 have HWS : w.heap.size < w1.heap.size := blk_lt HX.out
 have t0 : w1.cell? ⟨w.heap.size, 0, none⟩ = some (.int .i64 3) := blk_cell HX.out 0
 have t1 : w1.cell? ⟨w.heap.size, 1, none⟩ = some (.string a0) := blk_cell HX.out 1
 have t2 : w1.cell? ⟨w.heap.size, 2, none⟩ = some (.string a1) := blk_cell HX.out 2
 have t3 : w1.cell? ⟨w.heap.size, 3, none⟩ = some (.slice A n c3) := blk_cell HX.out 3
 obtain ⟨wa, hwa⟩ : ∃ wa, wa = (w1.alloc (.cells #[.string ⟨#[]⟩, .string ⟨#[]⟩] 46)).setRow w1.heap.size #[.string a0, .string a1] := ⟨_, rfl⟩
 have HBA : Aside0 (Below w.heap.size w wa) := ⟨by rw [hwa]; exact HB1.out.trans ((below_setRow (below_alloc (Below.refl _ _) _) (Nat.le_refl _) _).mono HB1.out.size)⟩
 have HXA : Aside0 (wa.heap[w1.heap.size]? = some (.cells #[.string a0, .string a1] 46 (0, 0))) := ⟨by rw [hwa]; exact setRow_heap _ _ _ _ _ _ (blk_new w1 (.cells #[.string ⟨#[]⟩, .string ⟨#[]⟩] 46))⟩
 have HWA := Aside0.mk hwa
 clear hwa hw1
 exact sTe7_3
theorem rc_atom6 (a0 a1 : ByteArray) (A : Option Addr) (n c3 : Nat) (w : World) (s0 : (a0.toList == [104, 111, 115, 116]) = false) (s1 : (a0.toList == [112, 97, 116, 104]) = false) (s2 : (a0.toList == [109, 101, 116, 104, 111, 100]) = false) (s3 : (a0.toList == [100, 101, 115, 116]) = false) (s4 : (a0.toList == [115, 99, 104, 101, 109, 101]) = false) (s5 : (a0.toList == [104, 101, 97, 100, 101, 114]) = false) (ha : a0.size ≤ 1000000) (hb : a1.size ≤ 1000000) :
  Calls Tryd.prog 44 #[.agg #[.int .i64 3, .string a0, .string a1, .slice A n c3]] w fun e w' => e = .returned (.string (a0)) ∧ Below w.heap.size w w' := by
 obtain ⟨w1, hw1⟩ : ∃ w1, w1 = w.alloc (.cells #[.int .i64 3, .string a0, .string a1, .slice A n c3] 49) := ⟨_, rfl⟩
 have HX : Aside0 (w1.heap[w.heap.size]? = some (.cells #[.int .i64 3, .string a0, .string a1, .slice A n c3] 49 (0, 0))) := ⟨by rw [hw1]; exact blk_new _ _⟩
 have HB1 : Aside0 (Below w.heap.size w w1) := ⟨by rw [hw1]; exact below_alloc (Below.refl _ _) _⟩
 have HW1 := Aside0.mk hw1
 have HWS : w.heap.size < w1.heap.size := blk_lt HX.out
 have t0 : w1.cell? ⟨w.heap.size, 0, none⟩ = some (.int .i64 3) := blk_cell HX.out 0
 have t1 : w1.cell? ⟨w.heap.size, 1, none⟩ = some (.string a0) := blk_cell HX.out 1
 have t2 : w1.cell? ⟨w.heap.size, 2, none⟩ = some (.string a1) := blk_cell HX.out 2
 have t3 : w1.cell? ⟨w.heap.size, 3, none⟩ = some (.slice A n c3) := blk_cell HX.out 3
 obtain ⟨wa, hwa⟩ : ∃ wa, wa = (w1.alloc (.cells #[.string ⟨#[]⟩, .string ⟨#[]⟩] 46)).setRow w1.heap.size #[.string a0, .string a1] := ⟨_, rfl⟩
 have HBA : Aside0 (Below w.heap.size w wa) := ⟨by rw [hwa]; exact HB1.out.trans ((below_setRow (below_alloc (Below.refl _ _) _) (Nat.le_refl _) _).mono HB1.out.size)⟩
 have HXA : Aside0 (wa.heap[w1.heap.size]? = some (.cells #[.string a0, .string a1] 46 (0, 0))) := ⟨by rw [hwa]; exact setRow_heap _ _ _ _ _ _ (blk_new w1 (.cells #[.string ⟨#[]⟩, .string ⟨#[]⟩] 46))⟩
 have HWA := Aside0.mk hwa
 clear hwa hw1
 exact sTe7_3
end Go.Proofs.YtngedmioeodmfaaDoor.Pu
namespace Go.Proofs.YtngedmioeodmfaaDoor.Pu
open Go.RowKit Go.Proofs.YtngedmioeodmfaaDoor.Pr Go.Proofs.YtngedmioeodmfaaDoorW.PrintWords Go.Proofs.YtngedmioeodmfaaDoorW.PrintLast Go.Proofs.YtngedmioeodmfaaDoorW.PrintMore Go.Proofs.YtngedmioeodmfaaDoor.Lx
open Go.Proofs.YtngedmioeodmfaaDoor.Ps hiding Tk
set_option maxHeartbeats 16000000
set_option maxRecDepth 100000
theorem text_calls {csp : List ByteArray} {sh : List (S44)} {mixed : ByteArray} {rules : List (S51)} {allow : Bool} (hO : OkP csp sh mixed rules allow) (A0 A1 A3 : Option Addr) (n0 c0 n1 c1 n3 c3 : Nat) (w : World)
  (hC0 : Kd.string.C w A0 csp.length csp) (hn0 : n0 = csp.length) (hc0 : n0 ≤ c0) (hC1 : k44.C w A1 sh.length sh) (hn1 : n1 = sh.length) (hc1 : n1 ≤ c1) (hC3 : k51.C w A3 rules.length rules) (hn3 : n3 = rules.length) (hc3 : n3 ≤ c3) :
  Calls Tryd.prog 17 #[.agg #[.slice A0 n0 c0, .slice A1 n1 c1, .string mixed, .slice A3 n3 c3, .bool allow]] w fun e w' => e = .returned (.string (polText csp sh mixed rules allow)) ∧ Below w.heap.size w w' := by
 obtain ⟨w1, hw1⟩ : ∃ w1, w1 = w.alloc (.cells #[.slice A0 n0 c0, .slice A1 n1 c1, .string mixed, .slice A3 n3 c3, .bool allow] 27) := ⟨_, rfl⟩
 have HX : Aside0 (w1.heap[w.heap.size]? = some (.cells #[.slice A0 n0 c0, .slice A1 n1 c1, .string mixed, .slice A3 n3 c3, .bool allow] 27 (0, 0))) := ⟨by rw [hw1]; exact blk_new _ _⟩
 have HB1 : Aside0 (Below w.heap.size w w1) := ⟨by rw [hw1]; exact below_alloc (Below.refl _ _) _⟩
 have HC0 : Aside0 (Kd.string.C w1 A0 csp.length csp) := ⟨by rw [hw1]; exact Kd.C_alloc hC0 _⟩
 have HC1 : Aside0 (k44.C w1 A1 sh.length sh) := ⟨by rw [hw1]; exact Kd.C_alloc hC1 _⟩
 have HC3 : Aside0 (k51.C w1 A3 rules.length rules) := ⟨by rw [hw1]; exact Kd.C_alloc hC3 _⟩
 have HW1 := Aside0.mk hw1
 have HO := Aside0.mk hO
 have HN0 := Aside0.mk hn0
 have HN1 := Aside0.mk hn1
 have HN3 := Aside0.mk hn3
 have t0 : w1.cell? ⟨w.heap.size, 0, none⟩ = some (.slice A0 n0 c0) := blk_cell HX.out 0
 clear hw1 hn0 hn1 hn3 hC0 hC1 hC3 hO
 obtain ⟨B, hB⟩ : ∃ B, B = w1.heap.size := ⟨_, rfl⟩
 have HBQ := Aside0.mk hB
 have HGB : Aside0 (w.heap.size < B) := ⟨by rw [hB]; exact blk_lt HX.out⟩
 clear hB
 go_enter Tryd.func17, Tryd.ntmps17
 go_upto_region 1 with (fail)
 rw [← HW1.out]
 go_wp2
 clear t0
 go_loopg [3, 19] csp.length (fun gk v3 v19 wr => ∃ (i : Nat), v19 = .int .i64 i ∧ Aside0 (i ≤ csp.length) ∧ Aside0 (csp.length - i ≤ gk) ∧ Aside0 (Kd.string.R 9 wr B (fun _ => True) v3 ((csp.map cspT).take i)) ∧ Aside0 (Below B w1 wr))
 case atStart => exact ⟨0, rfl, ⟨Nat.zero_le _⟩, ⟨Nat.sub_le _ _⟩, ⟨Kd.R_nil _ _ _ _ _⟩, ⟨Below.refl _ _⟩⟩
 case round =>
  obtain ⟨i, rfl, HI, HGK, HR, HB⟩ := hrel
  by_cases hi : i < n0
  ·have l1 : decide (i < n0) = true := decide_eq_true hi
   have l2 : decide ((i : Int) < (n0 : Int)) = true := decide_eq_true (by omega)
   have l3 : (i : Int) < (n0 : Int) := by omega
   have HIL : Aside0 (i < csp.length) := ⟨by rw [← HN0.out]; exact hi⟩
   have hib : (i : Int) ≤ 1000000 := by have := HO.out.cl; have := HIL.out; omega
   obtain ⟨ad, hA, q⟩ := Kd.at_string HC0.out (i : Int) (by omega) (by have := HIL.out; omega)
   obtain rfl : A0 = some ad := hA
   rw [rd_str HIL.out] at q
   obtain ⟨x, hx⟩ : ∃ x, x = csp[i]'HIL.out := ⟨_, rfl⟩
   have hxs := HO.out.cs x (by rw [hx]; exact List.getElem_mem _)
   rw [← hx] at q
   have HQ := Aside0.mk (quote_calls x hxs.1 wr)
   obtain ⟨qx, hqx⟩ : ∃ qx, qx = quoteB x := ⟨_, rfl⟩
   have HTX : Aside0 ((csp.map cspT).take (i + 1) = (csp.map cspT).take i ++ [((⟨#[99, 115, 112, 32]⟩ : ByteArray) ++ qx)]) := ⟨by rw [take_map _ _ HIL.out, ← hx, hqx]; rfl⟩
   rw [← hqx] at HQ hxs
   have hqs := hxs.2
   clear hqx hx hxs hi
   simp only [Int.toNat_natCast] at q
   have HQB : Aside0 (w1.heap.size = B) := ⟨HBQ.out.symm⟩
   replace q := (HB.out.cell (by rw [HBQ.out]; exact World.block_lt_of_cell? w1 _ q)).trans q
   go_wp2_with fail
   refine HQ.out.mono ?_
   rintro e w6 ⟨rfl, hb6⟩
   dsimp only
   have HZR : Aside0 (B ≤ wr.heap.size) := ⟨by rw [HBQ.out]; exact (HBQ.out ▸ HB.out.size)⟩
   have HB6 : Aside0 (Below B w1 w6) := ⟨HB.out.trans (hb6.mono HZR.out)⟩
   have HR6 : Aside0 (Kd.string.R 9 w6 B (fun _ => True) u3 ((csp.map cspT).take i)) := ⟨Kd.R_below HR.out hb6⟩
   have hlb : (((csp.map cspT).take i).length + 1) * 16 ≤ 140737488355328 := by rw [List.length_take, List.length_map]; have := HO.out.cl; omega
   clear hb6 HB HR HQ q
   go_wp2_with (at_builtin; refine Kd.R_append Kd.string (w0 := w1) B rfl (.tmp 23) (.tmp 27) 23 9 (.string ⟨#[]⟩) 16 rfl Tryd.underlying23 info_str2 rfl (by decide) (by decide) u3 ((csp.map cspT).take i) ((⟨#[99, 115, 112, 32]⟩ : ByteArray) ++ qx) [.string ((⟨#[99, 115, 112, 32]⟩ : ByteArray) ++ qx)] (fun _ => True) (fun _ => False) rfl rfl rfl (fun _ hk => hk.elim) (fun _ _ => trivial) HR6.out HB6.out (by have := HB6.out.size; have := HBQ.out; omega) hlb ?_)
   intro v7 w7 hO7 hB7 hg7 hat7
   rw [← HTX.out] at hO7
   have HO7 := Aside0.mk hO7
   have HB7 := Aside0.mk hB7
   clear hO7 hB7 hg7 hat7 hlb
   go_wp2
   go_roundg (csp.length - (i + 1))
   case measure => have := HGK.out; have := HIL.out; omega
   case rel => exact ⟨i + 1, by first | rfl | go_num, ⟨HIL.out⟩, ⟨Nat.le_refl _⟩, HO7, HB7⟩
  ·have l1 : decide (i < n0) = false := decide_eq_false hi
   have l2 : decide ((i : Int) < (n0 : Int)) = false := decide_eq_false (by omega)
   have l3 : ¬ (i : Int) < (n0 : Int) := by omega
   have HR1 : Aside0 (Kd.string.R 9 wr B (fun _ => True) u3 (csp.map cspT)) := ⟨by
    have h := HR.out
    rwa [List.take_of_length_le (by rw [List.length_map]; have := HN0.out; omega)] at h⟩
   have HB' : Aside0 (Below w1.heap.size w1 wr) := ⟨HBQ.out ▸ HB.out⟩
   have t1 : wr.cell? ⟨w.heap.size, 1, none⟩ = some (.slice A1 n1 c1) := blk_cell (blk_below HX.out HB'.out) 1
   clear hi HR HI HGK
   go_wp2
   clear t1 l1 l2 l3
   go_loopg [3, 33] sh.length (fun gk v3 v33 wq => ∃ (j : Nat), v33 = .int .i64 j ∧ Aside0 (j ≤ sh.length) ∧ Aside0 (sh.length - j ≤ gk) ∧ Aside0 (Kd.string.R 9 wq B (fun _ => True) v3 (csp.map cspT ++ (sh.map shareT).take j)) ∧ Aside0 (Below B w1 wq))
   case atStart => exact ⟨0, rfl, ⟨Nat.zero_le _⟩, ⟨Nat.sub_le _ _⟩, ⟨by rw [List.take_zero, List.append_nil]; exact HR1.out⟩, HB⟩
   case round =>
    clear HR1 HB HB'
    obtain ⟨j, rfl, HJ, HGK, HR, HB⟩ := hrel
    obtain ⟨wq, hwq⟩ : ∃ x, x = wr := ⟨_, rfl⟩
    subst hwq
    by_cases hj : j < n1
    ·have l1 : decide (j < n1) = true := decide_eq_true hj
     have l2 : decide ((j : Int) < (n1 : Int)) = true := decide_eq_true (by omega)
     have l3 : (j : Int) < (n1 : Int) := by omega
     have HJL : Aside0 (j < sh.length) := ⟨by rw [← HN1.out]; exact hj⟩
     have hjb : (j : Int) ≤ 1000000 := by have := HO.out.sl; have := HJL.out; omega
     obtain ⟨ad, A5, c5, A6, c6, hA, q0, q1, q2, q3, hl5, hC5, hl6, hC6⟩ := at_T44 HC1.out (j : Int) (by omega) (by have := HJL.out; omega)
     obtain rfl : A1 = some ad := hA
     have hrd : rd_T44 sh (j : Int) = sh[j]'HJL.out := by have := HJL.out; simp [rd_T44, this]
     obtain ⟨s, hs⟩ : ∃ s, s = sh[j]'HJL.out := ⟨_, rfl⟩
     have HMEM : Aside0 (s ∈ sh) := ⟨by rw [hs]; exact List.getElem_mem _⟩
     rw [hrd, ← hs] at q0 q1 q2 q3 hl5 hC5 hl6 hC6
     have HSJ := Aside0.mk hs
     simp only [Int.toNat_natCast] at q0 q1 q2 q3
     replace q0 := (HB.out.cell (by rw [HBQ.out]; exact World.block_lt_of_cell? w1 _ q0)).trans q0
     replace q1 := (HB.out.cell (by rw [HBQ.out]; exact World.block_lt_of_cell? w1 _ q1)).trans q1
     replace q2 := (HB.out.cell (by rw [HBQ.out]; exact World.block_lt_of_cell? w1 _ q2)).trans q2
     replace q3 := (HB.out.cell (by rw [HBQ.out]; exact World.block_lt_of_cell? w1 _ q3)).trans q3
     have hbl := World.block_lt_of_cell? wq _ q0
     have HC5 := Aside0.mk hC5
     have HC6 := Aside0.mk hC6
     have hss := HO.out.ss s HMEM.out
     obtain ⟨o, ho⟩ : ∃ o, o = s.f0 := ⟨_, rfl⟩
     obtain ⟨m1, hm1⟩ : ∃ m1, m1 = s.f1.length := ⟨_, rfl⟩
     obtain ⟨m2, hm2⟩ : ∃ m2, m2 = s.f2.length := ⟨_, rfl⟩
     obtain ⟨cr, hcr⟩ : ∃ cr, cr = s.f3 := ⟨_, rfl⟩
     rw [← ho] at q0 hss
     rw [← hm1] at q1 hl5
     rw [← hm2] at q2 hl6
     rw [← hcr] at q3
     have Hm1 := Aside0.mk hm1
     have Hm2 := Aside0.mk hm2
     obtain ⟨wb, hwb⟩ : ∃ wb, wb = (wq.alloc (.cells #[.string ⟨#[]⟩, .slice none 0 0, .slice none 0 0, .bool false] 44)).setRow wq.heap.size #[.string o, .slice A5 m1 c5, .slice A6 m2 c6, .bool cr] := ⟨_, rfl⟩
     have HBB : Aside0 (Below wq.heap.size wq wb) := ⟨by rw [hwb]; exact below_setRow (below_alloc (Below.refl _ _) _) (Nat.le_refl _) _⟩
     have HXX : Aside0 (wb.heap[wq.heap.size]? = some (.cells #[.string o, .slice A5 m1 c5, .slice A6 m2 c6, .bool cr] 44 (0, 0))) := ⟨by rw [hwb]; exact setRow_heap _ _ _ _ _ _ (blk_new wq (.cells #[.string ⟨#[]⟩, .slice none 0 0, .slice none 0 0, .bool false] 44))⟩
     have HWB := Aside0.mk hwb
     have HQ := Aside0.mk (quote_calls o hss.1 wb)
     obtain ⟨qx, hqx⟩ : ∃ qx, qx = quoteB o := ⟨_, rfl⟩
     rw [← hqx] at HQ hss
     have hqs := hss.2
     rw [ho] at hqx
     have HQX := Aside0.mk hqx
     have HCR := Aside0.mk hcr
     clear hqx hcr ho
     have HZR : Aside0 (B ≤ wq.heap.size) := ⟨by rw [HBQ.out]; exact HB.out.size⟩
     clear hwb hrd hs hm1 hm2 hj hss
     go_upto_region 10 with (refine wpList_store_row rfl 44 _ _ rfl wq.heap.size #[.string o, .slice A5 m1 c5, .slice A6 m2 c6, .bool cr] rfl rfl 44 #[.string ⟨#[]⟩, .slice none 0 0, .slice none 0 0, .bool false] (blk_new _ _) size_sh rfl (by simp [Value.oneCell']) ?_)
     rw [← HWB.out]
     have u0c : wb.cell? ⟨wq.heap.size, 0, none⟩ = some (.string o) := blk_cell HXX.out 0
     clear HWB q0 q1 q2 q3 hbl
     go_wp2_with fail
     refine HQ.out.mono ?_
     rintro e w6 ⟨rfl, hb6⟩
     dsimp only
     have HX6 : Aside0 (w6.heap[wq.heap.size]? = some (.cells #[.string o, .slice A5 m1 c5, .slice A6 m2 c6, .bool cr] 44 (0, 0))) := ⟨blk_below HXX.out hb6⟩
     have HB6 : Aside0 (Below B w1 w6) := ⟨HB.out.trans ((HBB.out.trans (hb6.mono HBB.out.size)).mono HZR.out)⟩
     have HR6 : Aside0 (Kd.string.R 9 w6 B (fun _ => True) u3 (csp.map cspT ++ (sh.map shareT).take j)) := ⟨Kd.R_below (Kd.R_below HR.out HBB.out) hb6⟩
     clear hb6 HB HR HBB HXX HQ u0c l1 l2 l3
     have u1c : w6.cell? ⟨wq.heap.size, 1, none⟩ = some (.slice A5 m1 c5) := blk_cell HX6.out 1
     go_wp2
     clear u1c
     go_loopg [8, 44] s.f1.length (fun gk v8 v44 wz => ∃ (i : Nat) (acc : ByteArray), v44 = .int .i64 i ∧ v8 = .string acc ∧ wz = w6 ∧ Aside0 (i ≤ s.f1.length) ∧ Aside0 (s.f1.length - i ≤ gk) ∧ Aside0 (acc = addAll bMeth (bShare ++ qx) (s.f1.take i)) ∧ Aside0 (acc.size ≤ 20000000 + i * 2000000))
     case atStart => exact ⟨0, _, rfl, rfl, rfl, ⟨Nat.zero_le _⟩, ⟨Nat.sub_le _ _⟩, ⟨rfl⟩, ⟨by rw [ByteArray.size_append, show (⟨#[115, 104, 97, 114, 101, 32]⟩ : ByteArray).size = 6 from rfl]; omega⟩⟩
     case round =>
      obtain ⟨i, acc, rfl, rfl, hwz, HI, HGI, HACC, HAS⟩ := hrel
      obtain rfl := hwz.symm
      by_cases hi : i < m1
      ·have g1 : decide (i < m1) = true := decide_eq_true hi
       have g2 : decide ((i : Int) < (m1 : Int)) = true := decide_eq_true (by omega)
       have g3 : (i : Int) < (m1 : Int) := by omega
       have HIL : Aside0 (i < s.f1.length) := ⟨by rw [← Hm1.out]; exact hi⟩
       have hsm := HO.out.sm s HMEM.out
       have hib : (i : Int) ≤ 1000000 := by have := HIL.out; omega
       obtain ⟨ad3, hA, q⟩ := Kd.at_string HC5.out (i : Int) (by omega) (by have := HIL.out; omega)
       obtain rfl : A5 = some ad3 := hA
       rw [rd_str HIL.out] at q
       obtain ⟨x, hx⟩ : ∃ x, x = s.f1[i]'HIL.out := ⟨_, rfl⟩
       have hxs : x.size ≤ 1000000 := hsm.2 x (by rw [hx]; exact List.getElem_mem _)
       rw [← hx] at q
       have HNX : Aside0 (acc ++ ((⟨#[32, 109, 101, 116, 104, 111, 100, 32]⟩ : ByteArray) ++ x) = addAll bMeth (bShare ++ qx) (s.f1.take (i + 1))) := ⟨by rw [addAll_next _ _ _ HIL.out, ← HACC.out, ← hx]; rfl⟩
       have has : acc.size ≤ 20000000 + 2000000000000 := by have := HAS.out; omega
       have HAX : Aside0 ((acc ++ ((⟨#[32, 109, 101, 116, 104, 111, 100, 32]⟩ : ByteArray) ++ x)).size ≤ 20000000 + (i + 1) * 2000000) := ⟨by
        rw [ByteArray.size_append, ByteArray.size_append]
        have := HAS.out
        have : (⟨#[32, 109, 101, 116, 104, 111, 100, 32]⟩ : ByteArray).size ≤ 100 := by decide
        omega⟩
       simp only [Int.toNat_natCast] at q
       replace q := (HB6.out.cell (by rw [HBQ.out]; exact World.block_lt_of_cell? w1 _ q)).trans q
       clear hsm hx hi
       go_wp2
       go_roundg (s.f1.length - (i + 1))
       case measure => have := HGI.out; have := HIL.out; omega
       case rel => exact ⟨i + 1, _, by first | rfl | go_num, rfl, rfl, ⟨HIL.out⟩, ⟨Nat.le_refl _⟩, HNX, HAX⟩
      ·have g1 : decide (i < m1) = false := decide_eq_false hi
       have g2 : decide ((i : Int) < (m1 : Int)) = false := decide_eq_false (by omega)
       have g3 : ¬ (i : Int) < (m1 : Int) := by omega
       have HACC3 : Aside0 (acc = addAll bMeth (bShare ++ qx) s.f1) := ⟨by
        have h := HACC.out
        rwa [List.take_of_length_le (by have := Hm1.out; omega)] at h⟩
       have HAS3 : Aside0 (acc.size ≤ 20000000 + 2000000000000) := ⟨by have := HAS.out; have := HI.out; have := (HO.out.sm s HMEM.out).1; omega⟩
       clear hi HACC HAS HI HGI
       obtain ⟨acc3, hacc3⟩ : ∃ x, x = acc := ⟨_, rfl⟩
       rw [← hacc3] at HACC3 HAS3 ⊢
       clear hacc3
       have u2c : w6.cell? ⟨wq.heap.size, 2, none⟩ = some (.slice A6 m2 c6) := blk_cell HX6.out 2
       go_wp2
       clear u2c g1 g2 g3
       go_loopg [8, 56] s.f2.length (fun gk v8 v44 wz => ∃ (i : Nat) (acc : ByteArray), v44 = .int .i64 i ∧ v8 = .string acc ∧ wz = w6 ∧ Aside0 (i ≤ s.f2.length) ∧ Aside0 (s.f2.length - i ≤ gk) ∧ Aside0 (acc = addAll bHead (addAll bMeth (bShare ++ qx) s.f1) (s.f2.take i)) ∧ Aside0 (acc.size ≤ 4000000000000 + i * 2000000))
       case atStart => exact ⟨0, _, rfl, rfl, rfl, ⟨Nat.zero_le _⟩, ⟨Nat.sub_le _ _⟩, HACC3, ⟨by have := HAS3.out; omega⟩⟩
       case round =>
        obtain ⟨i, acc, rfl, rfl, hwz, HI, HGI, HACC, HAS⟩ := hrel
        obtain rfl := hwz.symm
        by_cases hi : i < m2
        ·have g1 : decide (i < m2) = true := decide_eq_true hi
         have g2 : decide ((i : Int) < (m2 : Int)) = true := decide_eq_true (by omega)
         have g3 : (i : Int) < (m2 : Int) := by omega
         have HIL : Aside0 (i < s.f2.length) := ⟨by rw [← Hm2.out]; exact hi⟩
         have hsm := HO.out.sn s HMEM.out
         have hib : (i : Int) ≤ 1000000 := by have := HIL.out; omega
         obtain ⟨ad4, hA, q⟩ := Kd.at_string HC6.out (i : Int) (by omega) (by have := HIL.out; omega)
         obtain rfl : A6 = some ad4 := hA
         rw [rd_str HIL.out] at q
         obtain ⟨x, hx⟩ : ∃ x, x = s.f2[i]'HIL.out := ⟨_, rfl⟩
         have hxs : x.size ≤ 1000000 := hsm.2 x (by rw [hx]; exact List.getElem_mem _)
         rw [← hx] at q
         have HNX : Aside0 (acc ++ ((⟨#[32, 104, 101, 97, 100, 101, 114, 32]⟩ : ByteArray) ++ x) = addAll bHead (addAll bMeth (bShare ++ qx) s.f1) (s.f2.take (i + 1))) := ⟨by rw [addAll_next _ _ _ HIL.out, ← HACC.out, ← hx]; rfl⟩
         have has : acc.size ≤ 4000000000000 + 2000000000000 := by have := HAS.out; omega
         have HAX : Aside0 ((acc ++ ((⟨#[32, 104, 101, 97, 100, 101, 114, 32]⟩ : ByteArray) ++ x)).size ≤ 4000000000000 + (i + 1) * 2000000) := ⟨by
          rw [ByteArray.size_append, ByteArray.size_append]
          have := HAS.out
          have : (⟨#[32, 104, 101, 97, 100, 101, 114, 32]⟩ : ByteArray).size ≤ 100 := by decide
          omega⟩
         simp only [Int.toNat_natCast] at q
         replace q := (HB6.out.cell (by rw [HBQ.out]; exact World.block_lt_of_cell? w1 _ q)).trans q
         clear hsm hx hi
         go_wp2
         go_roundg (s.f2.length - (i + 1))
         case measure => have := HGI.out; have := HIL.out; omega
         case rel => exact ⟨i + 1, _, by first | rfl | go_num, rfl, rfl, ⟨HIL.out⟩, ⟨Nat.le_refl _⟩, HNX, HAX⟩
        ·have g1 : decide (i < m2) = false := decide_eq_false hi
         have g2 : decide ((i : Int) < (m2 : Int)) = false := decide_eq_false (by omega)
         have g3 : ¬ (i : Int) < (m2 : Int) := by omega
         have HACC4 : Aside0 (acc = addAll bHead (addAll bMeth (bShare ++ qx) s.f1) s.f2) := ⟨by
          have h := HACC.out
          rwa [List.take_of_length_le (by have := Hm2.out; omega)] at h⟩
         have HAS4 : Aside0 (acc.size ≤ 4000000000000 + 2000000000000) := ⟨by have := HAS.out; have := HI.out; have := (HO.out.sn s HMEM.out).1; omega⟩
         clear hi HACC HAS HI HGI
         have u3c : w6.cell? ⟨wq.heap.size, 3, none⟩ = some (.bool cr) := blk_cell HX6.out 3
         have hlb : ((csp.map cspT ++ (sh.map shareT).take j).length + 1) * 16 ≤ 140737488355328 := by rw [List.length_append, List.length_take, List.length_map, List.length_map]; have := HO.out.cl; have := HO.out.sl; omega
         have hac := HAS4.out
         cases cr with
         | true =>
          have HY : Aside0 (acc ++ (⟨#[32, 99, 114, 101, 100, 115]⟩ : ByteArray) = shareT s) := ⟨by
           unfold shareT
           rw [if_pos HCR.out.symm, HACC4.out, HQX.out]; rfl⟩
          go_wp2_with (at_builtin; refine Kd.R_append Kd.string (w0 := w1) B rfl (.tmp 69) (.tmp 71) 23 9 (.string ⟨#[]⟩) 16 rfl Tryd.underlying23 info_str2 rfl (by decide) (by decide) u3 (csp.map cspT ++ (sh.map shareT).take j) (acc ++ (⟨#[32, 99, 114, 101, 100, 115]⟩ : ByteArray)) [.string (acc ++ (⟨#[32, 99, 114, 101, 100, 115]⟩ : ByteArray))] (fun _ => True) (fun _ => False) rfl rfl rfl (fun _ hk => hk.elim) (fun _ _ => trivial) HR6.out HB6.out (by have := HB6.out.size; have := HBQ.out; omega) hlb ?_)
          intro v7 w7 hO7 hB7 hg7 hat7
          rw [show (sh.map shareT).take j ++ [acc ++ (⟨#[32, 99, 114, 101, 100, 115]⟩ : ByteArray)] = (sh.map shareT).take (j + 1) from by rw [take_map _ _ HJL.out, ← HSJ.out, HY.out]] at hO7
          have HO7 := Aside0.mk hO7
          have HB7 := Aside0.mk hB7
          clear hO7 hB7 hg7 hat7 hlb
          go_wp2
          go_roundg (sh.length - (j + 1))
          case measure => have := HGK.out; have := HJL.out; omega
          case rel => exact ⟨j + 1, by first | rfl | go_num, ⟨HJL.out⟩, ⟨Nat.le_refl _⟩, HO7, HB7⟩
         | false =>
          have HY : Aside0 (acc = shareT s) := ⟨by
           unfold shareT
           rw [if_neg (by rw [← HCR.out]; decide), HACC4.out, HQX.out]⟩
          go_wp2_with (at_builtin; refine Kd.R_append Kd.string (w0 := w1) B rfl (.tmp 69) (.tmp 71) 23 9 (.string ⟨#[]⟩) 16 rfl Tryd.underlying23 info_str2 rfl (by decide) (by decide) u3 (csp.map cspT ++ (sh.map shareT).take j) (acc) [.string (acc)] (fun _ => True) (fun _ => False) rfl rfl rfl (fun _ hk => hk.elim) (fun _ _ => trivial) HR6.out HB6.out (by have := HB6.out.size; have := HBQ.out; omega) hlb ?_)
          intro v7 w7 hO7 hB7 hg7 hat7
          rw [show (sh.map shareT).take j ++ [acc] = (sh.map shareT).take (j + 1) from by rw [take_map _ _ HJL.out, ← HSJ.out, HY.out]] at hO7
          have HO7 := Aside0.mk hO7
          have HB7 := Aside0.mk hB7
          clear hO7 hB7 hg7 hat7 hlb
          go_wp2
          go_roundg (sh.length - (j + 1))
          case measure => have := HGK.out; have := HJL.out; omega
          case rel => exact ⟨j + 1, by first | rfl | go_num, ⟨HJL.out⟩, ⟨Nat.le_refl _⟩, HO7, HB7⟩
    ·have l1 : decide (j < n1) = false := decide_eq_false hj
     have l2 : decide ((j : Int) < (n1 : Int)) = false := decide_eq_false (by omega)
     have l3 : ¬ (j : Int) < (n1 : Int) := by omega
     obtain ⟨wr, hwr⟩ : ∃ x, x = wq := ⟨_, rfl⟩
     subst hwr
     have HR1 : Aside0 (Kd.string.R 9 wr B (fun _ => True) u3 (csp.map cspT ++ sh.map shareT)) := ⟨by
      have h := HR.out
      rwa [List.take_of_length_le (by rw [List.length_map]; have := HN1.out; omega)] at h⟩
     have HB' : Aside0 (Below w1.heap.size w1 wr) := ⟨HBQ.out ▸ HB.out⟩
     have t2 : wr.cell? ⟨w.heap.size, 2, none⟩ = some (.string mixed) := blk_cell (blk_below HX.out HB'.out) 2
     have hmx := HO.out.mx
     have hlb : ((csp.map cspT ++ sh.map shareT).length + 1) * 16 ≤ 140737488355328 := by rw [List.length_append, List.length_map, List.length_map]; have := HO.out.cl; have := HO.out.sl; omega
     clear hj HR HJ HGK HB'
     go_wp2_with (at_builtin; refine Kd.R_append Kd.string (w0 := w1) B rfl (.tmp 74) (.tmp 78) 23 9 (.string ⟨#[]⟩) 16 rfl Tryd.underlying23 info_str2 rfl (by decide) (by decide) u3 (csp.map cspT ++ sh.map shareT) (((⟨#[109, 105, 120, 101, 100, 32]⟩ : ByteArray) ++ mixed)) [.string (((⟨#[109, 105, 120, 101, 100, 32]⟩ : ByteArray) ++ mixed))] (fun _ => True) (fun _ => False) rfl rfl rfl (fun _ hk => hk.elim) (fun _ _ => trivial) HR1.out HB.out (by have := HB.out.size; have := HBQ.out; omega) hlb ?_)
     intro v7 w7 hO7 hB7 hg7 hat7
     obtain ⟨L, hL⟩ : ∃ L, L = csp.map cspT ++ sh.map shareT ++ [bMix ++ mixed] := ⟨_, rfl⟩
     have HO7 : Aside0 (Kd.string.R 9 w7 B (fun _ => True) v7 L) := ⟨by rw [hL, List.append_assoc]; exact hO7⟩
     have HB7 := Aside0.mk hB7
     have HLL : Aside0 (L.length ≤ 200001) := ⟨by rw [hL, List.length_append, List.length_append, List.length_map, List.length_map]; have := HO.out.cl; have := HO.out.sl; simp only [List.length_cons, List.length_nil]; omega⟩
     have HLE := Aside0.mk hL
     have HBW : Aside0 (Below w1.heap.size w1 w7) := ⟨HBQ.out ▸ HB7.out⟩
     have t3 : w7.cell? ⟨w.heap.size, 3, none⟩ = some (.slice A3 n3 c3) := blk_cell (blk_below HX.out HBW.out) 3
     clear hO7 hB7 hg7 hat7 hlb hL HR1 HB HBW t2
     go_wp2
     clear t3 l1 l2 l3
     go_loopg [3, 83] rules.length (fun gk v3 v83 wq => ∃ (j : Nat), v83 = .int .i64 j ∧ Aside0 (j ≤ rules.length) ∧ Aside0 (rules.length - j ≤ gk) ∧ Aside0 (Kd.string.R 9 wq B (fun _ => True) v3 (L ++ (rules.map ruleT).take j)) ∧ Aside0 (Below B w1 wq))
     case atStart => exact ⟨0, rfl, ⟨Nat.zero_le _⟩, ⟨Nat.sub_le _ _⟩, ⟨by rw [List.take_zero, List.append_nil]; exact HO7.out⟩, HB7⟩
     case round =>
      clear HO7 HB7
      obtain ⟨j, rfl, HJ, HGK, HR, HB⟩ := hrel
      obtain ⟨wq, hwq⟩ : ∃ x, x = wr := ⟨_, rfl⟩
      subst hwq
      by_cases hj : j < n3
      ·have l1 : decide (j < n3) = true := decide_eq_true hj
       have l2 : decide ((j : Int) < (n3 : Int)) = true := decide_eq_true (by omega)
       have l3 : (j : Int) < (n3 : Int) := by omega
       have HJL : Aside0 (j < rules.length) := ⟨by rw [← HN3.out]; exact hj⟩
       have hjb : (j : Int) ≤ 1000000 := by have := HO.out.rl; have := HJL.out; omega
       obtain ⟨ad, A5, c5, hA, q0, q1, q2, q3, q4, hl5, hC5⟩ := at_T51 HC3.out (j : Int) (by omega) (by have := HJL.out; omega)
       obtain rfl : A3 = some ad := hA
       have hrd : rd_T51 rules (j : Int) = rules[j]'HJL.out := by have := HJL.out; simp [rd_T51, this]
       obtain ⟨s, hs⟩ : ∃ s, s = rules[j]'HJL.out := ⟨_, rfl⟩
       have HOK : Aside0 (OkT s.f1) := ⟨by rw [hs]; exact HO.out.rr _ (List.getElem_mem _)⟩
       rw [hrd, ← hs] at q0 q1 q2 q3 q4 hl5 hC5
       have HSJ := Aside0.mk hs
       simp only [Int.toNat_natCast] at q0 q1 q2 q3 q4
       replace q0 := (HB.out.cell (by rw [HBQ.out]; exact World.block_lt_of_cell? w1 _ q0)).trans q0
       replace q1 := (HB.out.cell (by rw [HBQ.out]; exact World.block_lt_of_cell? w1 _ q1)).trans q1
       replace q2 := (HB.out.cell (by rw [HBQ.out]; exact World.block_lt_of_cell? w1 _ q2)).trans q2
       replace q3 := (HB.out.cell (by rw [HBQ.out]; exact World.block_lt_of_cell? w1 _ q3)).trans q3
       replace q4 := (HB.out.cell (by rw [HBQ.out]; exact World.block_lt_of_cell? w1 _ q4)).trans q4
       have hbl := World.block_lt_of_cell? wq _ q0
       have HC5 := Aside0.mk hC5
       have HL5 := Aside0.mk hl5
       obtain ⟨y, hy⟩ : ∃ y, y = s.f0 := ⟨_, rfl⟩
       obtain ⟨k, hk⟩ : ∃ k, k = s.f1.f0 := ⟨_, rfl⟩
       obtain ⟨a0, ha0⟩ : ∃ a, a = s.f1.f1.f0 := ⟨_, rfl⟩
       obtain ⟨a1, ha1⟩ : ∃ a, a = s.f1.f1.f1 := ⟨_, rfl⟩
       obtain ⟨m, hm⟩ : ∃ m, m = s.f1.f2.length := ⟨_, rfl⟩
       have HV : Aside0 (cdV s.f1 A5 c5 = .agg #[.int .i64 k, .string a0, .string a1, .slice A5 m c5]) := ⟨by rw [hk, ha0, ha1, hm]; rfl⟩
       rw [← hy] at q0
       rw [← hk] at q1
       rw [← ha0] at q2
       rw [← ha1] at q3
       rw [← hm] at q4
       obtain ⟨wb, hwb⟩ : ∃ wb, wb = (wq.alloc (.cells #[.bool false, .int .i64 0, .string ⟨#[]⟩, .string ⟨#[]⟩, .slice none 0 0] 51)).setRow wq.heap.size #[.bool y, .int .i64 k, .string a0, .string a1, .slice A5 m c5] := ⟨_, rfl⟩
       have HZR : Aside0 (B ≤ wq.heap.size) := ⟨by rw [HBQ.out]; exact HB.out.size⟩
       have HBB : Aside0 (Below wq.heap.size wq wb) := ⟨by rw [hwb]; exact below_setRow (below_alloc (Below.refl _ _) _) (Nat.le_refl _) _⟩
       have HXX : Aside0 (wb.heap[wq.heap.size]? = some (.cells #[.bool y, .int .i64 k, .string a0, .string a1, .slice A5 m c5] 51 (0, 0))) := ⟨by rw [hwb]; exact setRow_heap _ _ _ _ _ _ (blk_new wq (.cells #[.bool false, .int .i64 0, .string ⟨#[]⟩, .string ⟨#[]⟩, .slice none 0 0] 51))⟩
       have HBW : Aside0 (Below B w1 wb.drew) := ⟨below_drew (HB.out.trans (HBB.out.mono HZR.out))⟩
       have HRB : Aside0 (Kd.string.R 9 wb.drew B (fun _ => True) u3 (L ++ (rules.map ruleT).take j)) := ⟨Kd.R_drew (Kd.R_below HR.out HBB.out)⟩
       have HWB := Aside0.mk hwb
       have HSY := Aside0.mk (says_calls y wb.drew)
       obtain ⟨sy, hsy⟩ : ∃ sy, sy = sayB y := ⟨_, rfl⟩
       have hss : sy.size ≤ 10 := by rw [hsy]; cases y <;> decide
       rw [← hsy] at HSY
       obtain ⟨ct, hct⟩ : ∃ ct, ct = condT s.f1 := ⟨_, rfl⟩
       have hcs : ct.size ≤ 1000000000 := by rw [hct]; exact HOK.out.size
       have HRT : Aside0 (sy ++ (⟨#[32, 105, 102, 32]⟩ : ByteArray) ++ ct = ruleT s) := ⟨by rw [hsy, hct, hy]; rfl⟩
       have HCT := Aside0.mk hct
       clear hwb hrd hs hm hk ha0 ha1 hy hj hsy hct HR HB HBB HJ
       go_upto_region 30 with (refine wpList_store_row rfl 51 _ _ rfl wq.heap.size #[.bool y, .int .i64 k, .string a0, .string a1, .slice A5 m c5] rfl rfl 51 #[.bool false, .int .i64 0, .string ⟨#[]⟩, .string ⟨#[]⟩, .slice none 0 0] (blk_new _ _) size_rule rfl (by simp [Value.oneCell']) ?_)
       rw [← HWB.out]
       have d0 : wb.drew.cell? ⟨wq.heap.size, 0, none⟩ = some (.bool y) := blk_cell (show wb.drew.heap[wq.heap.size]? = _ from HXX.out) 0
       have d1 : wb.drew.cell? ⟨wq.heap.size, 1, none⟩ = some (.int .i64 k) := blk_cell (show wb.drew.heap[wq.heap.size]? = _ from HXX.out) 1
       have d2 : wb.drew.cell? ⟨wq.heap.size, 2, none⟩ = some (.string a0) := blk_cell (show wb.drew.heap[wq.heap.size]? = _ from HXX.out) 2
       have d3 : wb.drew.cell? ⟨wq.heap.size, 3, none⟩ = some (.string a1) := blk_cell (show wb.drew.heap[wq.heap.size]? = _ from HXX.out) 3
       have d4 : wb.drew.cell? ⟨wq.heap.size, 4, none⟩ = some (.slice A5 m c5) := blk_cell (show wb.drew.heap[wq.heap.size]? = _ from HXX.out) 4
       clear HWB q0 q1 q2 q3 q4 hbl l1 l2 l3
       have hlb : ((L ++ (rules.map ruleT).take j).length + 1) * 16 ≤ 140737488355328 := by rw [List.length_append, List.length_take, List.length_map]; have := HLL.out; have := HO.out.rl; omega
       refine start_ (n := 13) (S := fun w' => w'.cell? ⟨wq.heap.size, 0, none⟩ = some (.bool y) ∧ w'.cell? ⟨wq.heap.size, 1, none⟩ = some (.int .i64 k) ∧ w'.cell? ⟨wq.heap.size, 2, none⟩ = some (.string a0) ∧ w'.cell? ⟨wq.heap.size, 3, none⟩ = some (.string a1) ∧ w'.cell? ⟨wq.heap.size, 4, none⟩ = some (.slice A5 m c5)) (ds := [11]) #[false, false, false, false, false, false, false, false, false, false, false, false, false] (by kernel_rfl) rfl rfl ⟨d0, d1, d2, d3, d4⟩ (fun hHeld => ?_)
       refine pure_ (i := 0) (N := some 87) (v := ?_) (a' := ?_) #[true, false, false, false, false, false, false, false, false, false, false, false, false] rfl rfl (by kernel_rfl) (fun _ _ _ h => h) (Or.inl ⟨by rfl, ?_⟩) ?_ ?_
       rotate_left
       ·intro w'
        go_simp
        with_reducible rfl
       rotate_left
       ·exact nTe7_
       refine pure_ (i := 1) (N := some 88) (v := ?_) (a' := ?_) #[true, true, false, false, false, false, false, false, false, false, false, false, false] rfl rfl (by kernel_rfl) (fun _ _ _ h => h) (Or.inl ⟨by rfl, ?_⟩) ?_ ?_
       rotate_left
       ·intro w'
        go_simp
        with_reducible rfl
       rotate_left
       ·exact nTe7_
       refine pure_ (i := 2) (N := some 89) (v := ?_) (a' := ?_) #[true, true, true, false, false, false, false, false, false, false, false, false, false] rfl rfl (by kernel_rfl) (fun _ _ _ h => h) (Or.inl ⟨by rfl, ?_⟩) ?_ ?_
       rotate_left
       ·intro w'
        go_simp
        with_reducible rfl
       rotate_left
       ·exact nTe7_
       refine pure_ (i := 6) (N := some 93) (v := ?_) (a' := ?_) #[true, true, true, false, false, false, true, false, false, false, false, false, false] rfl rfl (by kernel_rfl) (fun _ _ _ h => h) (Or.inl ⟨by rfl, ?_⟩) ?_ ?_
       rotate_left
       ·intro w'
        go_simp
        with_reducible rfl
       rotate_left
       ·exact nTe7_
       refine take_ (i := 3) (N := some 90) (v := ?_) (a' := ?_) #[true, true, true, true, false, false, true, false, false, false, false, false, false] rfl rfl (by kernel_rfl) (fun _ _ _ h => h) (Or.inl ⟨by rfl, ?_⟩) hHeld ?_ ?_
       rotate_left
       ·rintro w' ⟨s0, s1, s2, s3, s4⟩
        go_simp
        with_reducible rfl
       rotate_left
       ·exact nTe7_
       refine take_ (i := 7) (N := some 94) (v := ?_) (a' := ?_) #[true, true, true, true, false, false, true, true, false, false, false, false, false] rfl rfl (by kernel_rfl) (fun _ _ _ h => h) (Or.inl ⟨by rfl, ?_⟩) hHeld ?_ ?_
       rotate_left
       ·rintro w' ⟨s0, s1, s2, s3, s4⟩
        go_simp
        with_reducible rfl
       rotate_left
       ·exact nTe7_
       refine one_ (i := 4) (N := some 91) #[true, true, true, true, true, false, true, true, false, false, false, false, false] rfl rfl (by kernel_rfl) (by decide) (fun K hK => ?_)
       refine goesV_ Tryd.func39 (by kernel_rfl) rfl #[.bool y] (by rfl) rfl rfl (by rfl) (by simp only [List.map_toArray, List.map_cons, List.map_nil]; rfl) ?_
       refine HSY.out.mono ?_
       rintro e w6 ⟨rfl, hb6⟩
       refine ⟨_, rfl, ?_⟩
       have HX6 : Aside0 (w6.heap[wq.heap.size]? = some (.cells #[.bool y, .int .i64 k, .string a0, .string a1, .slice A5 m c5] 51 (0, 0))) := ⟨blk_below (show wb.drew.heap[wq.heap.size]? = _ from HXX.out) hb6⟩
       have HB6 : Aside0 (Below B w1 w6) := ⟨HBW.out.trans (hb6.mono (by have := HBW.out.size; have := HBQ.out; omega))⟩
       have HR6 : Aside0 (Kd.string.R 9 w6 B (fun _ => True) u3 (L ++ (rules.map ruleT).take j)) := ⟨Kd.R_below HRB.out hb6⟩
       have HCC := Aside0.mk (condition_calls HOK.out A5 c5 w6 (Kd.C_below HC5.out (HBQ.out ▸ HB6.out)) HL5.out)
       rw [HV.out, ← HCT.out] at HCC
       clear hb6
       refine hK.out _ _ ⟨(blk_cell HX6.out 0), (blk_cell HX6.out 1), (blk_cell HX6.out 2), (blk_cell HX6.out 3), (blk_cell HX6.out 4)⟩ (fun hHeld => ?_)
       clear hK K
       refine norm_ (a' := ?_) ?_ ?_
       rotate_left
       ·show Act.put _ (some 91) _ = _
        exact nTe7_
       refine pure_ (i := 5) (N := some 92) (v := ?_) (a' := ?_) #[true, true, true, true, true, true, true, true, false, false, false, false, false] rfl rfl (by kernel_rfl) (fun _ _ _ h => h) (Or.inl ⟨by rfl, ?_⟩) ?_ ?_
       rotate_left
       ·intro w'
        go_simp
        rw [if_neg (by omega)]
       rotate_left
       ·exact nTe7_
       refine one_ (i := 8) (N := some 95) #[true, true, true, true, true, true, true, true, true, false, false, false, false] rfl rfl (by kernel_rfl) (by decide) (fun K hK => ?_)
       refine goes_ Tryd.func40 (by kernel_rfl) rfl #[.agg #[.int .i64 k, .string a0, .string a1, .slice A5 m c5]] (by rfl) rfl rfl (by simp only [List.map_toArray, List.map_cons, List.map_nil]; rfl) ?_
       refine HCC.out.mono ?_
       rintro e w8 ⟨rfl, hb8⟩
       refine ⟨_, rfl, ?_⟩
       have HX8 : Aside0 (w8.heap[wq.heap.size]? = some (.cells #[.bool y, .int .i64 k, .string a0, .string a1, .slice A5 m c5] 51 (0, 0))) := ⟨blk_below HX6.out hb8⟩
       have HB8 : Aside0 (Below B w1 w8) := ⟨HB6.out.trans (hb8.mono (by have := HB6.out.size; have := HBQ.out; omega))⟩
       have HR8 : Aside0 (Kd.string.R 9 w8 B (fun _ => True) u3 (L ++ (rules.map ruleT).take j)) := ⟨Kd.R_below HR6.out hb8⟩
       clear hb8
       refine hK.out _ _ ⟨(blk_cell HX8.out 0), (blk_cell HX8.out 1), (blk_cell HX8.out 2), (blk_cell HX8.out 3), (blk_cell HX8.out 4)⟩ (fun hHeld => ?_)
       clear hK K
       refine norm_ (a' := ?_) ?_ ?_
       rotate_left
       ·show Act.put _ (some 95) _ = _
        exact nTe7_
       refine pure_ (i := 9) (N := some 96) (v := ?_) (a' := ?_) #[true, true, true, true, true, true, true, true, true, true, false, false, false] rfl rfl (by kernel_rfl) (fun _ _ _ h => h) (Or.inl ⟨by rfl, ?_⟩) ?_ ?_
       rotate_left
       ·intro w'
        go_simp
        rw [if_neg (by omega)]
       rotate_left
       ·exact nTe7_
       refine one_ (i := 10) (N := some 97) #[true, true, true, true, true, true, true, true, true, true, true, false, false] rfl rfl (by kernel_rfl) (by decide) (fun K hK => ?_)
       refine value_ (w1 := ?_) (v := ?_) (by rfl) rfl ?_ ?_
       rotate_left 2
       ·go_simp
        constructor
        ·rfl
        ·rfl
       refine hK.out _ _ ⟨(blk_cell (show (w8.alloc _).heap[wq.heap.size]? = _ from blk_alloc HX8.out _) 0), (blk_cell (show (w8.alloc _).heap[wq.heap.size]? = _ from blk_alloc HX8.out _) 1), (blk_cell (show (w8.alloc _).heap[wq.heap.size]? = _ from blk_alloc HX8.out _) 2), (blk_cell (show (w8.alloc _).heap[wq.heap.size]? = _ from blk_alloc HX8.out _) 3), (blk_cell (show (w8.alloc _).heap[wq.heap.size]? = _ from blk_alloc HX8.out _) 4)⟩ (fun hHeld => ?_)
       clear hK K
       refine norm_ (a' := ?_) ?_ ?_
       rotate_left
       ·show Act.put _ (some 97) _ = _
        exact nTe7_
       refine last_ (i := 11) (N := some 98) #[true, true, true, true, true, true, true, true, true, true, true, true, false] rfl rfl (by kernel_rfl) (by decide) (fun K hK => ?_)
       refine Kd.R_append_step Kd.string (w0 := w1) (W := w8) B (by rfl) _ _ 23 9 (.string ⟨#[]⟩) 16 rfl Tryd.underlying23 info_str2 rfl (by decide) (by decide) u3 (L ++ (rules.map ruleT).take j) (sy ++ (⟨#[32, 105, 102, 32]⟩ : ByteArray) ++ ct) [.string (sy ++ (⟨#[32, 105, 102, 32]⟩ : ByteArray) ++ ct)] (fun _ => True) (fun _ => False) rfl rfl rfl (fun _ hk => hk.elim) (fun _ _ => trivial) HR8.out HB8.out (by have := HB8.out.size; have := HBQ.out; omega) hlb ?_
       intro v7 w7 hO7 hB7 hg7 hat7
       have HO7 := Aside0.mk hO7
       have HB7 := Aside0.mk hB7
       clear hO7 hB7 hg7 hat7
       refine hK.out _ _ ?_
       clear hK K
       refine norm_ (a' := ?_) ?_ ?_
       rotate_left
       ·show Act.put _ (some 98) _ = _
        exact nTe7_
       refine pure_ (i := 12) (N := some 3) (v := ?_) (a' := ?_) #[true, true, true, true, true, true, true, true, true, true, true, true, true] rfl rfl (by kernel_rfl) (fun _ _ _ h => h) (Or.inl ⟨by rfl, ?_⟩) ?_ ?_
       rotate_left
       ·intro w'
        go_simp
        with_reducible rfl
       rotate_left
       ·exact nTe7_
       refine done_ (by kernel_rfl) ?_

       have HO7' : Aside0 (Kd.string.R 9 w7 B (fun _ => True) v7 (L ++ (rules.map ruleT).take (j + 1))) := ⟨by
        have h := HO7.out
        rwa [List.append_assoc, show (rules.map ruleT).take j ++ [sy ++ (⟨#[32, 105, 102, 32]⟩ : ByteArray) ++ ct] = (rules.map ruleT).take (j + 1) from by rw [take_map _ _ HJL.out, ← HSJ.out, HRT.out]] at h⟩
       clear HO7
       go_wp2
       go_roundg (rules.length - (j + 1))
       case measure => have := HGK.out; have := HJL.out; omega
       case rel => exact ⟨j + 1, by first | rfl | go_num, ⟨HJL.out⟩, ⟨Nat.le_refl _⟩, HO7', HB7⟩
      ·have l1 : decide (j < n3) = false := decide_eq_false hj
       have l2 : decide ((j : Int) < (n3 : Int)) = false := decide_eq_false (by omega)
       have l3 : ¬ (j : Int) < (n3 : Int) := by omega
       have HR1 : Aside0 (Kd.string.R 9 wq B (fun _ => True) u3 (L ++ rules.map ruleT)) := ⟨by
        have h := HR.out
        rwa [List.take_of_length_le (by rw [List.length_map]; have := HN3.out; omega)] at h⟩
       have HB' : Aside0 (Below w1.heap.size w1 wq) := ⟨HBQ.out ▸ HB.out⟩
       have t4 : wq.cell? ⟨w.heap.size, 4, none⟩ = some (.bool allow) := blk_cell (blk_below HX.out HB'.out) 4
       have HSY := Aside0.mk (says_calls allow wq)
       have hlb : ((L ++ rules.map ruleT).length + 1) * 16 ≤ 140737488355328 := by rw [List.length_append, List.length_map]; have := HLL.out; have := HO.out.rl; omega
       clear hj HR HJ HGK HB'
       go_wp2_with fail
       refine HSY.out.mono ?_
       rintro e w6 ⟨rfl, hb6⟩
       dsimp only
       have HZR : Aside0 (B ≤ wq.heap.size) := ⟨by rw [HBQ.out]; exact HB.out.size⟩
       have HB6 : Aside0 (Below B w1 w6) := ⟨HB.out.trans (hb6.mono HZR.out)⟩
       have HR6 : Aside0 (Kd.string.R 9 w6 B (fun _ => True) u3 (L ++ rules.map ruleT)) := ⟨Kd.R_below HR1.out hb6⟩
       obtain ⟨sy, hsy⟩ : ∃ sy, sy = sayB allow := ⟨_, rfl⟩
       have hss : sy.size ≤ 10 := by rw [hsy]; cases allow <;> decide
       rw [← hsy]
       have HSYE := Aside0.mk hsy
       clear hb6 HR1 HB HSY t4 hsy
       go_wp2_with (at_builtin; refine Kd.R_append Kd.string (w0 := w1) B rfl (.tmp 100) (.tmp 106) 23 9 (.string ⟨#[]⟩) 16 rfl Tryd.underlying23 info_str2 rfl (by decide) (by decide) u3 (L ++ rules.map ruleT) (((⟨#[100, 101, 102, 97, 117, 108, 116, 32]⟩ : ByteArray) ++ sy)) [.string (((⟨#[100, 101, 102, 97, 117, 108, 116, 32]⟩ : ByteArray) ++ sy))] (fun _ => True) (fun _ => False) rfl rfl rfl (fun _ hk => hk.elim) (fun _ _ => trivial) HR6.out HB6.out (by have := HB6.out.size; have := HBQ.out; omega) hlb ?_)
       intro v7 w7 hO7 hB7 hg7 hat7
       have hE : L ++ rules.map ruleT ++ [(⟨#[100, 101, 102, 97, 117, 108, 116, 32]⟩ : ByteArray) ++ sy] = linesT csp sh mixed rules allow := by rw [HLE.out, HSYE.out]; rfl
       rw [← List.append_assoc] at hO7
       rw [hE] at hO7
       have HJN := Aside0.mk (join_calls (linesT csp sh mixed rules allow) bSemi w7 hO7 (by rw [← hE, List.length_append]; exact Nat.succ_pos _) (by
        rw [← hE, List.length_append, List.length_append, List.length_map]; have := HLL.out; have := HO.out.rl; simp only [List.length_cons, List.length_nil]; omega) (by have := HO.out.zz; omega))
       have HB7 := Aside0.mk hB7
       clear hO7 hB7 hg7 hat7 hlb hE
       go_wp2_with fail
       refine HJN.out.mono ?_
       rintro e w8 ⟨rfl, hb8⟩
       dsimp only
       have HZ7 : Aside0 (B ≤ w7.heap.size) := ⟨by rw [HBQ.out]; exact HB7.out.size⟩
       have HB8 : Aside0 (Below B w1 w8) := ⟨HB7.out.trans (hb8.mono HZ7.out)⟩
       have hzz := HO.out.zz
       obtain ⟨jt, hjt⟩ : ∃ jt, jt = joinB (linesT csp sh mixed rules allow) bSemi := ⟨_, rfl⟩
       rw [← hjt] at hzz ⊢
       have HJT := Aside0.mk hjt
       clear hb8 hjt HJN
       go_wp2
       go_ret
       exact ⟨by rw [HJT.out]; rfl, HB1.out.trans (HB8.out.mono (Nat.le_of_lt HGB.out))⟩
end Go.Proofs.YtngedmioeodmfaaDoor.Pu
namespace Go.Proofs.YtngedmioeodmfaaDoor.Pu
open Go.RowKit Go.Proofs.YtngedmioeodmfaaDoor.Pr Go.Proofs.YtngedmioeodmfaaDoorW.PrintWords Go.Proofs.YtngedmioeodmfaaDoorW.PrintLast Go.Proofs.YtngedmioeodmfaaDoorW.PrintMore Go.Proofs.YtngedmioeodmfaaDoor.Lx
open Go.Proofs.YtngedmioeodmfaaDoor.Ps hiding Tk
theorem xw_no {w a : ByteArray} {l : List UInt8} (h : a.toList = l) (hn : w ≠ a) : (w.toList == l) = false := (eq_word h).trans (decide_eq_false hn)
theorem xw_is {w : ByteArray} {l : List UInt8} (h : w.toList = l) : (w.toList == l) = true := (eq_word h).trans (decide_eq_true rfl)
theorem rtext_cond {c : Cd} (h : Shape c) : sizeC c ≤ 100000 → RxC c := by
 induction h with
 | true_ =>
  intro hz A c3 w hC hcap
  have h := rc_true ⟨#[]⟩ ⟨#[]⟩ A 0 c3 w
  rw [show wTrue = condT (cond0 1 []) from by rw [condT_eq]; rfl] at h
  exact h
 | false_ =>
  intro hz A c3 w hC hcap
  have h := rc_false ⟨#[]⟩ ⟨#[]⟩ A 0 c3 w
  rw [show wFalse = condT (cond0 2 []) from by rw [condT_eq]; rfl] at h
  exact h
 | bare x hw =>
  intro hz A c3 w hC hcap
  have e1 : condT ⟨3, ⟨x, ⟨#[]⟩⟩, []⟩ = x := by
   rw [condT_eq]
   simp only [List.mem_cons, List.mem_nil_iff, or_false] at hw
   rcases hw with rfl | rfl | rfl | rfl <;> decide +kernel
  rw [e1]
  have hs : x.size ≤ 1000000 := by
   simp only [List.mem_cons, List.mem_nil_iff, or_false] at hw
   rcases hw with rfl | rfl | rfl | rfl <;> decide +kernel
  have hn : x ≠ wHost ∧ x ≠ wPath ∧ x ≠ wMethod ∧ x ≠ wDest ∧ x ≠ wScheme ∧ x ≠ wHeader := by
   simp only [List.mem_cons, List.mem_nil_iff, or_false] at hw
   rcases hw with rfl | rfl | rfl | rfl <;> decide +kernel
  exact rc_atom6 x ⟨#[]⟩ A 0 c3 w (xw_no (a := wHost) (by decide +kernel) hn.1) (xw_no (a := wPath) (by decide +kernel) hn.2.1) (xw_no (a := wMethod) (by decide +kernel) hn.2.2.1) (xw_no (a := wDest) (by decide +kernel) hn.2.2.2.1) (xw_no (a := wScheme) (by decide +kernel) hn.2.2.2.2.1) (xw_no (a := wHeader) (by decide +kernel) hn.2.2.2.2.2) hs (by decide)
 | wordA x t hw ht hlow =>
  intro hz A c3 w hC hcap
  have hn : ¬ (x = wHost ∨ x = wPath) := by
   simp only [List.mem_cons, List.mem_nil_iff, or_false] at hw
   rcases hw with rfl | rfl | rfl | rfl <;> decide +kernel
  have hy : x = wMethod ∨ x = wDest ∨ x = wScheme ∨ x = wHeader := by simpa using hw
  have e1 : condT ⟨3, ⟨x, t⟩, []⟩ = x ++ bSp ++ t := by
   rw [condT_eq]
   rw [if_neg (show ¬ (3 : Int) = 1 by decide), if_neg (show ¬ (3 : Int) = 2 by decide), if_neg (show ¬ (3 : Int) = 4 by decide), if_neg (show ¬ (3 : Int) = 5 by decide), if_neg (show ¬ (3 : Int) = 6 by decide), if_neg hn, if_pos hy]
  rw [e1]
  have hs : t.size ≤ 1000000 := by have := ht.2; omega
  rcases hy with rfl | rfl | rfl | rfl
  ·have hf := rc_atom2 wMethod t A 0 c3 w (xw_no (a := wHost) (by decide +kernel) (by decide +kernel)) (xw_no (a := wPath) (by decide +kernel) (by decide +kernel)) (xw_is (by decide +kernel)) (by decide) hs
   exact hf
  ·have hf := rc_atom3 wDest t A 0 c3 w (xw_no (a := wHost) (by decide +kernel) (by decide +kernel)) (xw_no (a := wPath) (by decide +kernel) (by decide +kernel)) (xw_no (a := wMethod) (by decide +kernel) (by decide +kernel)) (xw_is (by decide +kernel)) (by decide) hs
   exact hf
  ·have hf := rc_atom4 wScheme t A 0 c3 w (xw_no (a := wHost) (by decide +kernel) (by decide +kernel)) (xw_no (a := wPath) (by decide +kernel) (by decide +kernel)) (xw_no (a := wMethod) (by decide +kernel) (by decide +kernel)) (xw_no (a := wDest) (by decide +kernel) (by decide +kernel)) (xw_is (by decide +kernel)) (by decide) hs
   exact hf
  ·have hf := rc_atom5 wHeader t A 0 c3 w (xw_no (a := wHost) (by decide +kernel) (by decide +kernel)) (xw_no (a := wPath) (by decide +kernel) (by decide +kernel)) (xw_no (a := wMethod) (by decide +kernel) (by decide +kernel)) (xw_no (a := wDest) (by decide +kernel) (by decide +kernel)) (xw_no (a := wScheme) (by decide +kernel) (by decide +kernel)) (xw_is (by decide +kernel)) (by decide) hs
   exact hf
 | strA x t hw ht =>
  intro hz A c3 w hC hcap
  have hy : x = wHost ∨ x = wPath := by simpa using hw
  have e1 : condT ⟨3, ⟨x, t⟩, []⟩ = x ++ bSp ++ quoteB t := by
   rw [condT_eq]
   rw [if_neg (show ¬ (3 : Int) = 1 by decide), if_neg (show ¬ (3 : Int) = 2 by decide), if_neg (show ¬ (3 : Int) = 4 by decide), if_neg (show ¬ (3 : Int) = 5 by decide), if_neg (show ¬ (3 : Int) = 6 by decide), if_pos hy]
  rw [e1]
  have hs : t.size ≤ 1000000 := by have := ht.2.2; omega
  rcases hy with rfl | rfl
  ·have hf := rc_atom0 wHost t A 0 c3 w (xw_is (by decide +kernel)) (by decide) hs
   exact hf
  ·have hf := rc_atom1 wPath t A 0 c3 w (xw_no (a := wHost) (by decide +kernel) (by decide +kernel)) (xw_is (by decide +kernel)) (by decide) hs
   exact hf
 | not_ c hc ih =>
  intro hz A c3 w hC hcap
  have h1 : sizeC c ≤ 100000 := by rw [sizeC_eq] at hz; have := size_mem (l := [c]) (List.mem_singleton.2 rfl); have h2 : sizeL (cond0 4 [c]).f2 = sizeL [c] := rfl; omega
  have h := rc_not c (ih h1) (by have := shape_le hc; omega) ⟨#[]⟩ ⟨#[]⟩ A 1 c3 w hC rfl hcap
  have e1 : condT (cond0 4 [c]) = bNot ++ amongB c.f0 (condT c) := by
   rw [condT_eq]
   show bNot ++ joinB (amongsT [c]) bAnd = _
   rw [amongsT, amongsT, joinB_one]
  rw [e1]
  exact h
 | many k hk l hl h ih =>
  intro hz A c3 w hC hcap
  have h1 : sizeL l ≤ 100000 := by rw [sizeC_eq] at hz; have h2 : sizeL (cond0 k l).f2 = sizeL l := rfl; omega
  have hall : ∀ c ∈ l, RxC c ∧ (condT c).size ≤ 1000000000 := fun d hd => ⟨ih d hd (Nat.le_trans (size_mem hd) h1), by have := shape_le (h d hd); have := size_mem hd; omega⟩
  have hln : l.length ≤ 1000000 := by have := sizeL_len l; omega
  rcases hk with rfl | rfl
  ·have e1 : condT (cond0 5 l) = joinB (amongsT l) bAnd := by rw [condT_eq]; rfl
   have hz2 : (joinB (amongsT l) bAnd).size ≤ 1000000000 := by have := kidsB_le (sep := bAnd) (by decide) (fun d hd => shape_le (h d hd)); omega
   rw [e1]
   exact rc_and l hall hln hz2 ⟨#[]⟩ ⟨#[]⟩ A l.length c3 w hC rfl hcap
  ·have e1 : condT (cond0 6 l) = joinB (amongsT l) bOr := by rw [condT_eq]; rfl
   have hz2 : (joinB (amongsT l) bOr).size ≤ 1000000000 := by have := kidsB_le (sep := bOr) (by decide) (fun d hd => shape_le (h d hd)); omega
   rw [e1]
   exact rc_or l hall hln hz2 ⟨#[]⟩ ⟨#[]⟩ A l.length c3 w hC rfl hcap
def cat (l : List ByteArray) : ByteArray := l.foldl (· ++ ·) ⟨#[]⟩
theorem cat_snoc (l : List ByteArray) (x : ByteArray) : cat (l ++ [x]) = cat l ++ x := by simp [cat]
theorem bytes_cat (l : List ByteArray) : bytesOf (cat l) = l.flatMap bytesOf := by
 have h : ∀ (l : List ByteArray) (a : ByteArray), bytesOf (l.foldl (· ++ ·) a) = bytesOf a ++ l.flatMap bytesOf := by
  intro l
  induction l with
  | nil => intro a; simp
  | cons x l ih => intro a; rw [List.foldl_cons, ih, bytesOf_app, List.flatMap_cons, List.append_assoc]
 rw [cat, h]; rfl
theorem cat_le {A C : List ByteArray} (h : A <+: C) : (cat A).size ≤ (cat C).size := by
 obtain ⟨B, rfl⟩ := h
 rw [← bytesOf_length, ← bytesOf_length, bytes_cat, bytes_cat, List.flatMap_append, List.length_append]; omega
theorem cat_join (sep : ByteArray) : ∀ (l : List ByteArray), 0 < l.length → cat (l.map (· ++ sep)) = joinB l sep ++ sep := by
 have h : ∀ (l : List ByteArray), 0 < l.length → (l.map (· ++ sep)).flatMap bytesOf = bytesOf (joinB l sep ++ sep) := by
  intro l
  induction l with
  | nil => intro h; cases h
  | cons x l ih =>
   intro _
   cases l with
   | nil => rw [joinB_one]; simp
   | cons y l =>
    rw [List.map_cons, List.flatMap_cons, ih (Nat.succ_pos _), bytesOf_app, bytesOf_app, bytesOf_app, join_two, List.append_assoc, List.append_assoc, List.append_assoc]
 intro l hl
 apply bytesOf_inj
 rw [bytes_cat, h l hl]
def p0 (csp : List ByteArray) : List ByteArray := csp.map fun x => cspT x ++ bSemi
def p1 (sh : List (S44)) : List ByteArray := sh.map fun x => shareT x ++ bSemi
def p3 (rules : List (S51)) : List ByteArray := rules.map fun x => ruleT x ++ bSemi
theorem cat_pol (csp : List ByteArray) (sh : List (S44)) (mixed : ByteArray) (rules : List (S51)) (allow : Bool) : cat (p0 csp ++ p1 sh ++ [bMix ++ mixed ++ bSemi] ++ p3 rules ++ [bDef ++ sayB allow ++ bSemi]) = polText csp sh mixed rules allow := by
 have h := cat_join bSemi (linesT csp sh mixed rules allow) (by simp only [linesT, List.length_append, List.length_singleton]; omega)
 rw [polText, ← h, linesT]
 simp only [List.map_append, List.map_map, List.map_cons, List.map_nil, p0, p1, p3]
 rfl
theorem ap4 (a b c d : ByteArray) : a ++ b ++ c ++ d = a ++ (b ++ c ++ d) := by rw [ByteArray.append_assoc, ByteArray.append_assoc, ByteArray.append_assoc]
theorem addAll_app (pre a b : ByteArray) : ∀ l : List ByteArray, a ++ addAll pre b l = addAll pre (a ++ b) l := by
 intro l
 induction l generalizing b with
 | nil => rfl
 | cons m l ih =>
  show a ++ addAll pre (b ++ (pre ++ m)) l = addAll pre (a ++ b ++ (pre ++ m)) l
  rw [ih, ByteArray.append_assoc]
theorem verb_calls (b : Bool) (w : World) : Calls Tryd.prog 43 #[.bool b] w fun e w' => e = .returned (.string (sayB b)) ∧ Below w.heap.size w w' := by
 refine (parapetref19_verb.calls b (sayB b) w (by cases b <;> rfl)).mono ?_
 rintro e w' ⟨rfl, hd⟩
 exact ⟨rfl, hd.below⟩
end Go.Proofs.YtngedmioeodmfaaDoor.Pu
