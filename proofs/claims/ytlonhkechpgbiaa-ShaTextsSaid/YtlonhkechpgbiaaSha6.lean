/- The walk of a digest's Sum. -/
import Derived.Test.YtlonhkechpgbiaaSha5
namespace Go.Proofs.Ytlonhkechpgbiaa.Sh
open Go.RowKit Go.Proofs.Ytlonhkechpgbiaa.Pr Go.Proofs.YtlonhkechpgbiaaW.PrintWords Go.Proofs.YtlonhkechpgbiaaW.PrintLast Go.Proofs.YtlonhkechpgbiaaW.PrintMore
open Go.Proofs.Ytlonhkechpgbiaa.QT (OwnAt)
set_option linter.unusedVariables false
set_option linter.unusedSimpArgs false
/-- Zeros, until 56 of 64 are there. -/
def padZ : Nat → List Int → List Int
  | 0, l => l
  | f + 1, l => if l.length % 64 = 56 then l else padZ f (l ++ [0])
/-- The first j of the eight bytes of a number. -/
def num8 (n : Int) : Nat → List Int
  | 0 => []
  | j + 1 => num8 n j ++ [n / 2 ^ (56 - 8 * j) % 256]
theorem num8_length (n : Int) : ∀ j, (num8 n j).length = j
  | 0 => rfl
  | j + 1 => by rw [num8, List.length_append, num8_length n j]; rfl
/-- The last bytes: a one, zeros, the length. -/
def padD (r : List Int) (n : Int) : List Int := padZ 64 (r ++ [128]) ++ num8 (n * 8) 8
theorem padZ_mod : ∀ (f : Nat) (l : List Int), (120 - l.length % 64) % 64 ≤ f → (padZ f l).length % 64 = 56
  | 0, l, h => by rw [padZ]; omega
  | f + 1, l, h => by
    rw [padZ]
    split
    · rename_i h'; exact h'
    · exact padZ_mod f _ (by rw [List.length_append, List.length_singleton]; omega)
theorem padD_mod (r : List Int) (n : Int) : (padD r n).length % 64 = 0 := by
  rw [padD, List.length_append, num8_length]
  have := padZ_mod 64 (r ++ [128]) (by omega)
  omega
theorem padZ_bytes : ∀ (f : Nat) (l : List Int), (∀ x ∈ l, 0 ≤ x ∧ x ≤ 255) → ∀ x ∈ padZ f l, 0 ≤ x ∧ x ≤ 255
  | 0, l, h => h
  | f + 1, l, h => by
    rw [padZ]
    split
    · exact h
    · refine padZ_bytes f _ (fun x hx => ?_)
      rcases List.mem_append.1 hx with hx | hx
      · exact h x hx
      · rw [List.mem_singleton] at hx; subst hx; exact ⟨by decide, by decide⟩
theorem num8_bytes (n : Int) : ∀ j, ∀ x ∈ num8 n j, 0 ≤ x ∧ x ≤ 255
  | 0 => fun x hx => by cases hx
  | j + 1 => fun x hx => by
    rw [num8] at hx
    rcases List.mem_append.1 hx with hx | hx
    · exact num8_bytes n j x hx
    · rw [List.mem_singleton] at hx; subst hx; omega
theorem padD_bytes (r : List Int) (n : Int) (hr : ∀ x ∈ r, 0 ≤ x ∧ x ≤ 255) : ∀ x ∈ padD r n, 0 ≤ x ∧ x ≤ 255 := fun x hx => by
  rw [padD] at hx
  rcases List.mem_append.1 hx with hx | hx
  · refine padZ_bytes 64 _ (fun x hx => ?_) x hx
    rcases List.mem_append.1 hx with hx | hx
    · exact hr x hx
    · rw [List.mem_singleton] at hx; subst hx; exact ⟨by decide, by decide⟩
  · exact num8_bytes _ _ x hx
/-- What holds while the tail is made: the other digest, the result's variable, the tail. -/
def SumInv (w : World) (g B : Nat) (od : Obj) (gx : Nat) (L : List Int) (b : Bool) (Rx : Value) (wr : World) (v : Value) (T : List Int) : Prop :=
  DigL wr gx L b Rx 0 ∧ ArrB wr w.heap.size 27 (List.replicate 32 0) ∧ OwnAt wr B 5 v (nums .u8 T) ∧ v.ownBlock ≠ some gx ∧ Below w.heap.size w wr ∧ B ≤ gx ∧ w.heap.size < B ∧ g < B ∧ wr.heap[g]? = some od
theorem SumInv.lit {w : World} {g B : Nat} {od : Obj} {gx : Nat} {L : List Int} {b : Bool} {Rx : Value} {wr : World} {v : Value} {T : List Int} (h : SumInv w g B od gx L b Rx wr v T) (x : Int) : SumInv w g B od gx L b Rx (wr.alloc (.cells #[.int .u8 x] 5)) v T :=
  ⟨blk_alloc h.1 _, blk_alloc h.2.1 _, h.2.2.1.alloc _, h.2.2.2.1, h.2.2.2.2.1.alloc h.2.2.2.2.1.size _, h.2.2.2.2.2.1, h.2.2.2.2.2.2.1, h.2.2.2.2.2.2.2.1, blk_alloc h.2.2.2.2.2.2.2.2 _⟩
theorem SumInv.base_le {w : World} {g B : Nat} {od : Obj} {gx : Nat} {L : List Int} {b : Bool} {Rx : Value} {wr : World} {v : Value} {T : List Int} (h : SumInv w g B od gx L b Rx wr v T) (x : Int) : B ≤ (wr.alloc (.cells #[.int .u8 x] 5)).heap.size := by
  have h1 := blk_lt h.1
  have h2 := h.2.2.2.2.2.1
  simp; omega
theorem SumInv.app {w : World} {g B : Nat} {od : Obj} {gx : Nat} {L : List Int} {b : Bool} {Rx : Value} {wr : World} {v : Value} {T : List Int} (h : SumInv w g B od gx L b Rx wr v T) {x : Int} {v' : Value} {w' : World}
    (hO : OwnAt w' B 5 v' (nums .u8 T ++ nums .u8 [x])) (hG : (wr.alloc (.cells #[.int .u8 x] 5)).grownBy w' v.ownBlock) (hv : v'.ownBlock = v.ownBlock ∨ ∃ b, v'.ownBlock = some b ∧ wr.heap.size + 1 ≤ b) :
    SumInv w g B od gx L b Rx w' v' (T ++ [x]) := by
  obtain ⟨h1, h2, h3, h4, h5, h6, h7, h8, h9⟩ := h.lit x
  have hlt : gx < wr.heap.size + 1 := by have := blk_lt h1; simpa using this
  refine ⟨(hG.block _ (blk_lt h1) (fun he => h4 he.symm)).trans h1, (hG.block _ (blk_lt h2) (fun he => ?_)).trans h2, by rw [nums_append]; exact hO, fun he => ?_, ⟨hG.os.trans h5.os, hG.tape.trans h5.tape, hG.output.trans h5.output, Nat.le_trans h5.size hG.size, fun i hi => (hG.block i (by have := h5.size; omega) (fun he => ?_)).trans (h5.block i hi)⟩, h6, h7, h8, (hG.block _ (blk_lt h9) (fun he => ?_)).trans h9⟩
  · have := h3.base_le _ he.symm; omega
  · rcases hv with hv | ⟨k, hk, hle⟩
    · exact h4 (hv ▸ he)
    · rw [hk] at he; cases he; omega
  · have := h3.base_le _ he.symm; omega
  · have := h3.base_le _ he.symm; omega
def sum3.T3 : Bool × List (List Nat × List Nat) := (true, [([], []), ([0], [0]), ([1], [1]), ([2], [2]), ([], []), ([4], [4]), ([5], [5]), ([6], [6]), ([7], [7]), ([3, 8], [3, 8]), ([9], [9]), ([10, 8, 0, 1, 2, 3, 4, 5, 6, 7, 8, 9, 10], [10])])
def sum3.B3 : List Nat := [0, 1, 3, 7, 0, 16, 48, 112, 240, 511, 1023, 2047]
theorem sum3.tab3 : rtab .any (opsOf Try.f14 3) = sum3.T3 := by kernel_rfl
theorem sum3.bits3 : waitsOk sum3.T3.2 sum3.B3 = true := by kernel_rfl

set_option maxHeartbeats 4000000 in
set_option maxRecDepth 100000 in
theorem new_calls (w : World) : Calls Try.prog 12 #[] w fun e w' => e = .returned (.pointer (some ⟨w.heap.size, 0, none⟩)) ∧ w' = w.alloc (.cells (u32s [0, 0, 0, 0, 0, 0, 0, 0] ++ #[.bool false, .slice none 0 0, .int .i64 0]) 38) := by
  go_enter Try.func12, Try.ntmps12
  go_wp2
  go_ret
  exact ⟨rfl, rfl⟩
set_option maxHeartbeats 4000000 in
set_option maxRecDepth 100000 in
theorem dsum_calls (base g : Nat) (s : S8) (b : Bool) (R : Value) (r : List Int) (n : Int) (w : World) (h : DigL w g s.list b R n) (hR : OwnAt w base 5 R (nums .u8 r)) (hn0 : 0 ≤ n) (hn1 : n ≤ 70368744177664) (hsz : r.length ≤ 70368744177664) (hrb : ∀ x ∈ r, 0 ≤ x ∧ x ≤ 255) (sF : S8) (bF : Bool) (rF : List Int) (hEF : eat (padD r n).length s b (padD r n) = (sF, bF, rF)) :
    Calls Try.prog 14 #[.pointer (some ⟨g, 0, none⟩)] w fun e w' => e = .returned (.agg (u8s (hashL (begun bF sF).list 8))) ∧ Below w.heap.size w w' := by
  obtain ⟨AR, cR, eR, hcR, hcR2⟩ := hR.slice
  rw [nums_length] at eR
  subst eR
  obtain ⟨s0, s1, s2, s3, s4, s5, s6, s7⟩ := s
  have h' : Dig w g s0 s1 s2 s3 s4 s5 s6 s7 b (.slice AR r.length cR) n := h
  have HD := Aside0.mk h'
  have HR := Aside0.mk hR
  have HRB := Aside0.mk hrb
  have HEF := Aside0.mk hEF
  clear hrb hEF
  obtain ⟨i0, hi, hz0, hz1, hz2⟩ := info_parts infoB
  clear h h' hR
  go_enter Try.func14, Try.ntmps14
  go_upto_region 3 with (fail)
  generalize hw1 : World.alloc w _ = w1
  have HD1 : Aside0 (Dig w1 g s0 s1 s2 s3 s4 s5 s6 s7 b (.slice AR r.length cR) n) := ⟨by rw [← hw1]; exact blk_alloc HD.out _⟩
  have HR1 : Aside0 (OwnAt w1 base 5 (.slice AR r.length cR) (nums .u8 r)) := ⟨by rw [← hw1]; exact HR.out.alloc _⟩
  have HP1 : Aside0 (ArrB w1 w.heap.size 27 (List.replicate 32 0)) := ⟨by rw [← hw1]; exact blk_new _ _⟩
  have HB1 : Aside0 (Below w.heap.size w w1) := ⟨by rw [← hw1]; exact below_alloc (Below.refl _ _) _⟩
  have HSZ1 : Aside0 (w.heap.size + 1 ≤ w1.heap.size) := ⟨by rw [← hw1]; simp⟩
  obtain ⟨B, hBB⟩ : ∃ B, B = w.heap.size + 1 := ⟨_, rfl⟩
  have HSZ1 : Aside0 (B ≤ w1.heap.size) := ⟨by rw [hBB]; exact HSZ1.out⟩
  have HNB : Aside0 (w.heap.size < B) := ⟨by omega⟩
  have HGB : Aside0 (g < B) := ⟨by have := blk_lt HD.out; omega⟩
  clear hw1 hBB HD HR
  refine start_ (n := 12) (S := fun w' => w'.cell? ⟨g, 0, none⟩ = some (.int .u32 s0) ∧ w'.cell? ⟨g, 1, none⟩ = some (.int .u32 s1) ∧ w'.cell? ⟨g, 2, none⟩ = some (.int .u32 s2) ∧ w'.cell? ⟨g, 3, none⟩ = some (.int .u32 s3) ∧ w'.cell? ⟨g, 4, none⟩ = some (.int .u32 s4) ∧ w'.cell? ⟨g, 5, none⟩ = some (.int .u32 s5) ∧ w'.cell? ⟨g, 6, none⟩ = some (.int .u32 s6) ∧ w'.cell? ⟨g, 7, none⟩ = some (.int .u32 s7) ∧ w'.cell? ⟨g, 8, none⟩ = some (.bool b) ∧ w'.cell? ⟨g, 9, none⟩ = some (.slice AR r.length cR)) (ds := []) #[false, false, false, false, false, false, false, false, false, false, false, false] (by kernel_rfl) rfl rfl ⟨((blk_cell (show w1.drew.heap[g]? = _ from HD1.out) 0).trans rfl), ((blk_cell (show w1.drew.heap[g]? = _ from HD1.out) 1).trans rfl), ((blk_cell (show w1.drew.heap[g]? = _ from HD1.out) 2).trans rfl), ((blk_cell (show w1.drew.heap[g]? = _ from HD1.out) 3).trans rfl), ((blk_cell (show w1.drew.heap[g]? = _ from HD1.out) 4).trans rfl), ((blk_cell (show w1.drew.heap[g]? = _ from HD1.out) 5).trans rfl), ((blk_cell (show w1.drew.heap[g]? = _ from HD1.out) 6).trans rfl), ((blk_cell (show w1.drew.heap[g]? = _ from HD1.out) 7).trans rfl), ((blk_cell (show w1.drew.heap[g]? = _ from HD1.out) 8).trans rfl), ((blk_cell (show w1.drew.heap[g]? = _ from HD1.out) 9).trans rfl)⟩ (fun hHeld => ?_)
  refine pure_ (i := 0) (N := some 10) (v := ?_) (a' := ?_) #[true, false, false, false, false, false, false, false, false, false, false, false] rfl rfl (by kernel_rfl) (fun _ _ _ h => h) (Or.inl ⟨by rfl, ?_⟩) ?_ ?_
  rotate_left
  · intro w'
    go_simp
    with_reducible rfl
  rotate_left
  · simp only [Act.put, List.setIfInBounds_toArray, List.set_cons_zero, List.set_cons_succ, i64_w, i32_w]
    rfl
  refine pure_ (i := 1) (N := some 11) (v := ?_) (a' := ?_) #[true, true, false, false, false, false, false, false, false, false, false, false] rfl rfl (by kernel_rfl) (fun _ _ _ h => h) (Or.inl ⟨by rfl, ?_⟩) ?_ ?_
  rotate_left
  · intro w'
    go_simp
    with_reducible rfl
  rotate_left
  · simp only [Act.put, List.setIfInBounds_toArray, List.set_cons_zero, List.set_cons_succ, i64_w, i32_w]
    rfl
  refine pure_ (i := 2) (N := some 12) (v := ?_) (a' := ?_) #[true, true, true, false, false, false, false, false, false, false, false, false] rfl rfl (by kernel_rfl) (fun _ _ _ h => h) (Or.inl ⟨by rfl, ?_⟩) ?_ ?_
  rotate_left
  · intro w'
    go_simp
    with_reducible rfl
  rotate_left
  · simp only [Act.put, List.setIfInBounds_toArray, List.set_cons_zero, List.set_cons_succ, i64_w, i32_w]
    rfl
  refine pure_ (i := 4) (N := some 14) (v := ?_) (a' := ?_) #[true, true, true, false, true, false, false, false, false, false, false, false] rfl rfl (by kernel_rfl) (fun _ _ _ h => h) (Or.inl ⟨by rfl, ?_⟩) ?_ ?_
  rotate_left
  · intro w'
    go_simp
    with_reducible rfl
  rotate_left
  · simp only [Act.put, List.setIfInBounds_toArray, List.set_cons_zero, List.set_cons_succ, i64_w, i32_w]
    rfl
  refine pure_ (i := 5) (N := some 15) (v := ?_) (a' := ?_) #[true, true, true, false, true, true, false, false, false, false, false, false] rfl rfl (by kernel_rfl) (fun _ _ _ h => h) (Or.inl ⟨by rfl, ?_⟩) ?_ ?_
  rotate_left
  · intro w'
    go_simp
    with_reducible rfl
  rotate_left
  · simp only [Act.put, List.setIfInBounds_toArray, List.set_cons_zero, List.set_cons_succ, i64_w, i32_w]
    rfl
  refine pure_ (i := 6) (N := some 16) (v := ?_) (a' := ?_) #[true, true, true, false, true, true, true, false, false, false, false, false] rfl rfl (by kernel_rfl) (fun _ _ _ h => h) (Or.inl ⟨by rfl, ?_⟩) ?_ ?_
  rotate_left
  · intro w'
    go_simp
    with_reducible rfl
  rotate_left
  · simp only [Act.put, List.setIfInBounds_toArray, List.set_cons_zero, List.set_cons_succ, i64_w, i32_w]
    rfl
  refine take_ (i := 3) (N := some 13) (v := ?_) (a' := ?_) #[true, true, true, true, true, true, true, false, false, false, false, false] rfl rfl (by kernel_rfl) (fun _ _ _ h => h) (Or.inl ⟨by rfl, ?_⟩) hHeld ?_ ?_
  rotate_left
  · rintro w' ⟨s0, s1, s2, s3, s4, s5, s6, s7, s8, s9⟩
    go_simp
    with_reducible rfl
  rotate_left
  · simp only [Act.put, List.setIfInBounds_toArray, List.set_cons_zero, List.set_cons_succ, i64_w, i32_w]
    rfl
  refine take_ (i := 7) (N := some 17) (v := ?_) (a' := ?_) #[true, true, true, true, true, true, true, true, false, false, false, false] rfl rfl (by kernel_rfl) (fun _ _ _ h => h) (Or.inl ⟨by rfl, ?_⟩) hHeld ?_ ?_
  rotate_left
  · rintro w' ⟨s0, s1, s2, s3, s4, s5, s6, s7, s8, s9⟩
    go_simp
    with_reducible rfl
  rotate_left
  · simp only [Act.put, List.setIfInBounds_toArray, List.set_cons_zero, List.set_cons_succ, i64_w, i32_w]
    rfl
  refine one_ (i := 8) (N := some 18) #[true, true, true, true, true, true, true, true, true, false, false, false] rfl rfl (by kernel_rfl) (by decide) (fun K hK => ?_)
  refine QT.append_step (N := some 18) (by rfl) rfl _ _ 23 23 rfl 5 i0 (.int .u8 0) 1 Try.underlying23 hi hz0 rfl hz1 hz2 rfl (OwnAt.nil _ B _) _ rfl (nums .u8 r) (QT.src_own Try.underlying23 (show OwnAt w1.drew _ _ _ _ from HR1.out)) (QT.nums_one _ _) (by rw [nums_length]; simp; omega) (by decide) HSZ1.out ?_
  intro v2 w2 hO2 hG2a hv2
  have hG2 : w1.drew.grownBy w2 none := hG2a
  rw [List.nil_append] at hO2
  obtain ⟨A2, cA2, e2, hl2, hl2'⟩ := hO2.slice
  rw [nums_length] at e2
  subst e2
  have hd2 : Dig w2 g s0 s1 s2 s3 s4 s5 s6 s7 b (.slice AR r.length cR) n := (hG2.block g (blk_lt HD1.out) (by simp)).trans HD1.out
  refine hK.out _ _ ⟨((blk_cell hd2 0).trans rfl), ((blk_cell hd2 1).trans rfl), ((blk_cell hd2 2).trans rfl), ((blk_cell hd2 3).trans rfl), ((blk_cell hd2 4).trans rfl), ((blk_cell hd2 5).trans rfl), ((blk_cell hd2 6).trans rfl), ((blk_cell hd2 7).trans rfl), ((blk_cell hd2 8).trans rfl), ((blk_cell hd2 9).trans rfl)⟩ (fun hHeld => ?_)
  clear hK K
  refine norm_ (a' := ?_) ?_ ?_
  rotate_left
  · show Act.put _ (some 18) _ = _
    simp only [Act.put, List.setIfInBounds_toArray, List.set_cons_zero, List.set_cons_succ, i64_w, i32_w]
    rfl
  refine pure_ (i := 9) (N := some 19) (v := ?_) (a' := ?_) #[true, true, true, true, true, true, true, true, true, true, false, false] rfl rfl (by kernel_rfl) (fun _ _ _ h => h) (Or.inl ⟨by rfl, ?_⟩) ?_ ?_
  rotate_left
  · intro w'
    go_simp
    with_reducible rfl
  rotate_left
  · simp only [Act.put, List.setIfInBounds_toArray, List.set_cons_zero, List.set_cons_succ, i64_w, i32_w]
    rfl
  refine one_ (i := 10) (N := some 20) #[true, true, true, true, true, true, true, true, true, true, true, false] rfl rfl (by kernel_rfl) (by decide) (fun K hK => ?_)
  refine value_ (w1 := ?_) (v := ?_) (by rfl) rfl ?_ ?_
  rotate_left 2
  · go_simp
    constructor
    · rfl
    · rfl
  refine hK.out _ _ ⟨((blk_cell (blk_alloc hd2 _) 0).trans rfl), ((blk_cell (blk_alloc hd2 _) 1).trans rfl), ((blk_cell (blk_alloc hd2 _) 2).trans rfl), ((blk_cell (blk_alloc hd2 _) 3).trans rfl), ((blk_cell (blk_alloc hd2 _) 4).trans rfl), ((blk_cell (blk_alloc hd2 _) 5).trans rfl), ((blk_cell (blk_alloc hd2 _) 6).trans rfl), ((blk_cell (blk_alloc hd2 _) 7).trans rfl), ((blk_cell (blk_alloc hd2 _) 8).trans rfl), ((blk_cell (blk_alloc hd2 _) 9).trans rfl)⟩ (fun hHeld => ?_)
  clear hK K
  refine norm_ (a' := ?_) ?_ ?_
  rotate_left
  · show Act.put _ (some 20) _ = _
    simp only [Act.put, List.setIfInBounds_toArray, List.set_cons_zero, List.set_cons_succ, i64_w, i32_w]
    rfl
  refine pure_ (i := 11) (N := some 3) (v := ?_) (a' := ?_) #[true, true, true, true, true, true, true, true, true, true, true, true] rfl rfl (by kernel_rfl) (fun _ _ _ h => h) (Or.inl ⟨by rfl, ?_⟩) ?_ ?_
  rotate_left
  · intro w'
    go_simp
    with_reducible rfl
  rotate_left
  · simp only [Act.put, List.setIfInBounds_toArray, List.set_cons_zero, List.set_cons_succ, i64_w, i32_w]
    rfl
  refine done_ (by kernel_rfl) ?_

  have hgx0 : w2.heap.size ≠ g := by have := blk_lt hd2; omega
  obtain ⟨w3, hw3⟩ : ∃ w3, w3 = w2.alloc (.cells #[.int .u32 s0, .int .u32 s1, .int .u32 s2, .int .u32 s3, .int .u32 s4, .int .u32 s5, .int .u32 s6, .int .u32 s7, .bool b, .slice A2 r.length cA2, .int .i64 0] 38) := ⟨_, rfl⟩
  rw [← hw3]
  obtain ⟨gx, hgx⟩ : ∃ gx, gx = w2.heap.size := ⟨_, rfl⟩
  rw [← hgx]
  have hI : SumInv w g B (.cells #[.int .u32 s0, .int .u32 s1, .int .u32 s2, .int .u32 s3, .int .u32 s4, .int .u32 s5, .int .u32 s6, .int .u32 s7, .bool b, .slice AR r.length cR, .int .i64 n] 38 (0, 0)) gx (S8.list ⟨s0, s1, s2, s3, s4, s5, s6, s7⟩) b (.slice A2 r.length cA2) w3 (.slice A2 r.length cA2) r := by
    have hs2 : B ≤ w2.heap.size := Nat.le_trans HSZ1.out hG2.size
    refine ⟨by rw [hw3, hgx]; exact blk_new _ _, ?_, by rw [hw3]; exact hO2.alloc _, fun he => ?_, ?_, by rw [hgx]; exact hs2, HNB.out, HGB.out, by rw [hw3]; exact blk_alloc hd2 _⟩
    · rw [hw3]; exact blk_alloc ((hG2.block _ (blk_lt HP1.out) (by simp)).trans HP1.out) _
    · have := hO2.lt _ he; omega
    · rw [hw3]; exact (HB1.out.trans (Below.trans (below_drew (Below.refl _ _)) ⟨hG2.os, hG2.tape, hG2.output, hG2.size, fun i hi => hG2.block i (Nat.lt_of_lt_of_le hi HB1.out.size) (by simp)⟩)).alloc (Nat.le_trans (Nat.le_of_lt HNB.out) hs2) _
  have HI := Aside0.mk hI
  have HI' := fun x => Aside0.mk (hI.lit x)
  have c9 := hI.1.rest rfl
  have HSZ2 : Aside0 (r.length ≤ 70368744177664) := ⟨hsz⟩
  clear hI hw3 hgx hO2 hG2 hG2a hv2 hd2 HD1 HR1 HP1 HB1 HSZ1 hgx0 hHeld hl2 hl2'
  go_wp2_with (at_builtin; refine QT.wpList_append_at rfl _ _ 23 23 rfl 5 i0 (.int .u8 0) 1 Try.underlying23 hi hz0 rfl hz1 hz2 rfl (HI' 128).out.2.2.1 _ rfl (nums .u8 [128]) (QT.src_byte Try.underlying23 .u8 128 _ _) (QT.nums_one _ _) (by rw [nums_length, nums_length]; have := HSZ2.out; show (_ + 1) * 1 ≤ _; omega) (by decide) ?_ ?_)
  · exact HI.out.base_le _
  · intro v4 w4 hO4 hG4 hv4
    have hI4 := HI.out.app hO4 hG4 hv4
    obtain ⟨A4, cA4, e4, hl4, hl4'⟩ := hO4.slice
    rw [← nums_append, nums_length] at e4
    obtain ⟨N4, hN4⟩ : ∃ N4, N4 = (r ++ [128]).length := ⟨_, rfl⟩
    rw [← hN4] at e4
    have HN4 := Aside0.mk hN4
    clear hN4
    subst e4
    have HI4 := Aside0.mk hI4
    clear hI4 hO4 hG4 hv4 hl4 hl4' HI HI' c9
    go_wp2
    go_loopg [4] 64 (fun gk v4 wr => ∃ (A : Option Addr) (c : Nat) (T : List Int), v4 = .slice A T.length c ∧ Aside0 ((120 - T.length % 64) % 64 ≤ gk) ∧ Aside0 (T.length + (120 - T.length % 64) % 64 ≤ 70368744177664 + 64) ∧ Aside0 (padZ gk T = padZ 64 (r ++ [128])) ∧ Aside0 (SumInv w g B (.cells #[.int .u32 s0, .int .u32 s1, .int .u32 s2, .int .u32 s3, .int .u32 s4, .int .u32 s5, .int .u32 s6, .int .u32 s7, .bool b, .slice AR r.length cR, .int .i64 n] 38 (0, 0)) gx (S8.list ⟨s0, s1, s2, s3, s4, s5, s6, s7⟩) b (.slice A2 r.length cA2) wr v4 T))
    case atStart => exact ⟨A4, cA4, r ++ [128], by rw [HN4.out], ⟨by omega⟩, ⟨by have := HSZ2.out; rw [List.length_append, List.length_singleton]; omega⟩, ⟨rfl⟩, HI4⟩
    case round =>
      clear HI4
      obtain ⟨A, c, T, rfl, HG, HTL, HPZ, HI⟩ := hrel
      have htl := HTL.out
      have zt : 0 ≤ (T.length : Int) := by omega
      have HI' := fun x => Aside0.mk (HI.out.lit x)
      by_cases h56 : T.length % 64 = 56
      · have e1 : (((T.length : Int) % 64) != 56) = false := by simp; omega
        have hPT : T = padZ 64 (r ++ [128]) := by rw [← HPZ.out]; cases gk with
          | zero => rfl
          | succ gk => rw [padZ, if_pos h56]
        have HD' : Aside0 (Dig wr g s0 s1 s2 s3 s4 s5 s6 s7 b (.slice AR r.length cR) n) := ⟨HI.out.2.2.2.2.2.2.2.2⟩
        have c10 := (blk_cell HD'.out 10).trans rfl
        have HPT := Aside0.mk hPT
        clear hPT HPZ HG
        go_wp2
        obtain ⟨N8, hN8⟩ : ∃ N8, N8 = n * 8 := ⟨_, rfl⟩
        rw [← hN8]
        have zn0 : 0 ≤ N8 := by omega
        have zn1 : N8 ≤ 562949953421312 := by omega
        have HN8 := Aside0.mk hN8
        have HPL : Aside0 (T.length ≤ 70368744177664 + 64) := ⟨by have := HTL.out; omega⟩
        clear hN8 c10 HD' HTL htl h56 e1 zt HI'
        obtain ⟨T0, hT0⟩ : ∃ T0, T0 = T := ⟨_, rfl⟩
        have HT0 := Aside0.mk hT0
        obtain ⟨wo, hwo⟩ : ∃ wo : World, wo = wr := ⟨_, rfl⟩
        subst hwo
        go_loopg [4, 6] 8 (fun gk v4 v6 wr => ∃ (A : Option Addr) (c : Nat) (T : List Int) (j : Nat), v4 = .slice A T.length c ∧ v6 = .int .i64 (56 - 8 * (j : Int)) ∧ Aside0 (j ≤ 8) ∧ Aside0 (8 - j ≤ gk) ∧ Aside0 (T = T0 ++ num8 N8 j) ∧ Aside0 (SumInv w g B (.cells #[.int .u32 s0, .int .u32 s1, .int .u32 s2, .int .u32 s3, .int .u32 s4, .int .u32 s5, .int .u32 s6, .int .u32 s7, .bool b, .slice AR r.length cR, .int .i64 n] 38 (0, 0)) gx (S8.list ⟨s0, s1, s2, s3, s4, s5, s6, s7⟩) b (.slice A2 r.length cA2) wr v4 T))
        case atStart => exact ⟨A, c, T, 0, rfl, rfl, ⟨by omega⟩, ⟨by omega⟩, ⟨by rw [HT0.out]; simp [num8]⟩, HI⟩
        case round =>
          clear HI
          obtain ⟨A, c, T', j, rfl, rfl, Hj, HG, HT', HI⟩ := hrel
          have hj := Hj.out
          have HI' := fun x => Aside0.mk (HI.out.lit x)
          by_cases hlt : j < 8
          · have e1 : decide (8 * (j : Int) ≤ 56) = true := decide_eq_true (by omega)
            have z1 : 0 ≤ 56 - 8 * (j : Int) := by omega
            have HTL' : Aside0 (T'.length ≤ 70368744177664 + 64 + 8) := ⟨by rw [HT'.out, List.length_append, num8_length, HT0.out]; have := HPL.out; omega⟩
            go_wp2_with (at_builtin; refine QT.wpList_append_at rfl _ _ 23 23 rfl 5 i0 (.int .u8 0) 1 Try.underlying23 hi hz0 rfl hz1 hz2 rfl (HI' (N8 / 2 ^ (56 - 8 * j) % 256)).out.2.2.1 _ rfl (nums .u8 [(N8 / 2 ^ (56 - 8 * j) % 256)]) (QT.src_byte Try.underlying23 .u8 (N8 / 2 ^ (56 - 8 * j) % 256) _ _) (QT.nums_one _ _) (by rw [nums_length, nums_length]; have := HTL'.out; show (_ + 1) * 1 ≤ _; omega) (by decide) ?_ ?_)
            · exact HI.out.base_le _
            · intro v4 w4 hO4 hG4 hv4
              have hI4 := HI.out.app hO4 hG4 hv4
              obtain ⟨A4, cA4, e4, hl4, hl4'⟩ := hO4.slice
              rw [← nums_append, nums_length] at e4
              subst e4
              have HI4 := Aside0.mk hI4
              clear hI4 hO4 hG4 hv4 hl4 hl4' HI HI'
              go_wp2
              go_roundg (8 - (j + 1))
              case measure => have := HG.out; omega
              case rel =>
                exact ⟨A4, cA4, T' ++ [N8 / 2 ^ (56 - 8 * j) % 256], j + 1, rfl, by (first | rfl | (congr 1; omega)), ⟨by omega⟩, ⟨Nat.le_refl _⟩, ⟨by rw [HT'.out, num8, List.append_assoc]⟩, HI4⟩
          · have e1 : decide (8 * (j : Int) ≤ 56) = false := decide_eq_false (by omega)
            have hj8 : j = 8 := by omega
            subst hj8
            have HTE : Aside0 (T' = padD r n) := ⟨by rw [HT'.out, HT0.out, HPT.out, HN8.out]; rfl⟩
            clear HT' HT0 HPT HN8 HPL HI' Hj HG zn0 zn1
            go_wp2
            obtain ⟨wo, hwo⟩ : ∃ wo : World, wo = wr := ⟨_, rfl⟩
            subst hwo
            have HM0 : Aside0 (T'.length % 64 = 0) := ⟨by rw [HTE.out]; exact padD_mod r n⟩
            have HE0 : Aside0 (∃ f, T'.length ≤ f ∧ eat f ⟨s0, s1, s2, s3, s4, s5, s6, s7⟩ b T' = (sF, bF, rF)) := ⟨_, Nat.le_refl _, by rw [HTE.out]; exact HEF.out⟩
            have HX0 : Aside0 (∀ x ∈ T', 0 ≤ x ∧ x ≤ 255) := ⟨by rw [HTE.out]; exact padD_bytes r n HRB.out⟩
            go_loopg [4] (T'.length) (fun gk v4 wr => ∃ (A : Option Addr) (c : Nat) (T : List Int) (sc : S8) (bc : Bool), v4 = .slice A T.length c ∧ Aside0 (T.length ≤ gk) ∧ Aside0 (T.length % 64 = 0) ∧ Aside0 (∃ f, T.length ≤ f ∧ eat f sc bc T = (sF, bF, rF)) ∧ Aside0 (SumInv w g B (.cells #[.int .u32 s0, .int .u32 s1, .int .u32 s2, .int .u32 s3, .int .u32 s4, .int .u32 s5, .int .u32 s6, .int .u32 s7, .bool b, .slice AR r.length cR, .int .i64 n] 38 (0, 0)) gx sc.list bc (.slice A2 r.length cA2) wr v4 T) ∧ Aside0 (∀ x ∈ T, 0 ≤ x ∧ x ≤ 255))
            case atStart => exact ⟨A, c, T', _, b, rfl, ⟨Nat.le_refl _⟩, HM0, HE0, HI, HX0⟩
            case round =>
              clear HI HM0 HE0 HX0 HTE HEF
              obtain ⟨A, c, T, sc, bc, rfl, HG, HM, HE, HI, HX⟩ := hrel
              by_cases hlt : 64 ≤ T.length
              · have e1 : decide (0 < T.length) = true := decide_eq_true (by omega)
                have HLT := Aside0.mk hlt
                obtain ⟨hd, hp, hO, hne, hB, hgx0, hNB, hgB, hod⟩ := HI.out
                have hgx : w.heap.size < gx := by omega
                have HREST := Aside0.mk (And.intro hgx0 (And.intro hNB (And.intro hgB hod)))
                clear hgx0 hNB hgB hod
                obtain ⟨Ax, cx, ex, hcc, hcc2⟩ := hO.slice
                rw [nums_length] at hcc
                have hcx : c = cx := (Value.slice.inj ex).2.2
                subst hcx
                obtain ⟨ad, rfl, hbad, hcells⟩ := hO.cells (by rw [nums_length]; omega)
                have hadg : ad.block ≠ gx := fun he => hne (by simp [Value.ownBlock, he])
                have HD := Aside0.mk hd
                have HP := Aside0.mk hp
                have HO := Aside0.mk hO
                have HB := Aside0.mk hB
                have HGX := Aside0.mk hgx
                have HC := Aside0.mk hcells
                have HADG := Aside0.mk hadg
                have z1 : 64 ≤ c := by omega
                clear hd hp hO hne hB hgx hcells hadg ex hlt
                go_wp2
                refine QT.region 5 (by kernel_rfl) (by kernel_rfl) ?_
                simp only [List.take_succ_cons, List.take_zero, List.drop_succ_cons, List.drop_zero]
                repeat (go_big_quiet_step ((fail)))
                refine wpQuiet_nil ?_
                intro nq
                go_wp2_with fail
                refine (take_calls gx sc bc _ _ _ (show DigL (wr.drewN nq) gx _ _ _ _ from HD.out) ad c T HADG.out (fun i => by
                    by_cases hi : i < T.length
                    · rw [List.getD_eq_getElem?_getD, List.getElem?_eq_getElem hi]; exact HX.out _ (List.getElem_mem hi)
                    · rw [List.getD_eq_getElem?_getD, List.getElem?_eq_none (by omega)]; exact ⟨by decide, by decide⟩) (fun j hj => HC.out j _ (by
                    have hlt := HLT.out
                    unfold nums
                    rw [List.getElem?_map, List.getElem?_eq_getElem (by omega), List.getD_eq_getElem?_getD, List.getElem?_eq_getElem (by omega)]; rfl))).mono ?_
                rintro e w5 ⟨rfl, hd5, hk5⟩
                have hI5 : SumInv w g B (.cells #[.int .u32 s0, .int .u32 s1, .int .u32 s2, .int .u32 s3, .int .u32 s4, .int .u32 s5, .int .u32 s6, .int .u32 s7, .bool b, .slice AR r.length cR, .int .i64 n] 38 (0, 0)) gx (blockS (begun bc sc) T).list true (.slice A2 r.length cA2) w5 (.slice (if c = 64 then some ad else (some ad).map (·.add 64)) (T.length - 64) (c - 64)) (T.drop 64) := by
                  have h1 : OwnAt w5 B 5 (.slice (some ad) T.length c) (nums .u8 T) := (HO.out.drewN nq).keep hk5.k (by simp only [Value.ownBlock]; intro he; cases he; exact HADG.out rfl)
                  have h2 := h1.drop 64 (by rw [nums_length]; exact HLT.out)
                  rw [show (nums .u8 T).drop 64 = nums .u8 (T.drop 64) from List.map_drop.symm] at h2
                  refine ⟨hd5, hk5.k.blk HP.out (Nat.ne_of_lt HGX.out) (by simp), h2, fun he => ?_, (pw_below_drewN HB.out nq).trans (hk5.b.mono (Nat.le_of_lt HGX.out)), HREST.out.1, HREST.out.2.1, HREST.out.2.2.1, hk5.k.blk HREST.out.2.2.2 (Nat.ne_of_lt (Nat.lt_of_lt_of_le HREST.out.2.2.1 HREST.out.1)) (by simp)⟩
                  split at he
                  · simp only [Value.ownBlock] at he; cases he; exact HADG.out rfl
                  · simp only [Value.ownBlock, Option.map_some, add_block] at he; cases he; exact HADG.out rfl
                have HI5 := Aside0.mk hI5
                clear hI5 hd5 hk5 HC HO HD HP HB
                by_cases h64 : c = 64
                · have z2 : (c : Int) = 64 := by omega
                  have z3 : 64 ≤ T.length := HLT.out
                  go_wp2
                  have hIn := HI5.out
                  simp only [if_pos h64, show c - 64 = 0 by omega] at hIn
                  go_roundg (T.length - 64)
                  case measure => have := HG.out; have := HLT.out; omega
                  case rel =>
                    refine ⟨_, _, T.drop 64, blockS (begun bc sc) T, true, by rw [List.length_drop], ⟨by rw [List.length_drop]; exact Nat.le_refl _⟩, ⟨by rw [List.length_drop]; have := HM.out; omega⟩, ⟨?_⟩, ⟨hIn⟩, ⟨fun x hx => HX.out x (List.mem_of_mem_drop hx)⟩⟩
                    obtain ⟨f, hf, he⟩ := HE.out
                    have hlt := HLT.out
                    cases f with
                    | zero => omega
                    | succ f => exact ⟨f, by rw [List.length_drop]; omega, by rw [eat, if_pos hlt] at he; exact he⟩
                · have z3 : 64 ≤ T.length := HLT.out
                  go_wp2
                  have hIn := HI5.out
                  simp only [if_neg h64, Option.map_some, Addr.add, if_neg (show ¬ (64 : Nat) = 0 by decide)] at hIn
                  go_roundg (T.length - 64)
                  case measure => have := HG.out; have := HLT.out; omega
                  case rel =>
                    refine ⟨_, _, T.drop 64, blockS (begun bc sc) T, true, by rw [List.length_drop], ⟨by rw [List.length_drop]; exact Nat.le_refl _⟩, ⟨by rw [List.length_drop]; have := HM.out; omega⟩, ⟨?_⟩, ⟨hIn⟩, ⟨fun x hx => HX.out x (List.mem_of_mem_drop hx)⟩⟩
                    obtain ⟨f, hf, he⟩ := HE.out
                    have hlt := HLT.out
                    cases f with
                    | zero => omega
                    | succ f => exact ⟨f, by rw [List.length_drop]; omega, by rw [eat, if_pos hlt] at he; exact he⟩
              · have hm := HM.out
                have e1 : decide (0 < T.length) = false := decide_eq_false (by omega)
                have hT0 : T = [] := List.eq_nil_of_length_eq_zero (by omega)
                obtain ⟨f, hf, he⟩ := HE.out
                have hfin : (sc, bc, T) = (sF, bF, rF) := by
                  cases f with
                  | zero => exact he
                  | succ f => rw [eat, if_neg hlt] at he; exact he
                simp only [Prod.mk.injEq] at hfin
                obtain ⟨rfl, rfl, h3⟩ := hfin
                clear h3
                obtain ⟨hd, hp, hO, hne, hB, hgx0, hNB, hgB, hod⟩ := HI.out
                have hgx : w.heap.size < gx := by omega
                have HREST := Aside0.mk (And.intro hgx0 (And.intro hNB (And.intro hgB hod)))
                clear hgx0 hNB hgB hod
                have HD := Aside0.mk hd
                have HP := Aside0.mk hp
                have HB := Aside0.mk hB
                have HGX := Aside0.mk hgx
                clear hd hp hO hne hB hgx HI HE HX HM HG hm hf he hT0
                go_wp2_with fail
                refine (hash_calls gx sc bc _ 0 wr HD.out).mono ?_
                rintro e w6 ⟨rfl, hd6, hk6⟩
                have hp6 : ArrB w6 w.heap.size 27 (List.replicate 32 0) := hk6.k.blk HP.out (Nat.ne_of_lt HGX.out) (by simp)
                obtain ⟨O, hO⟩ : ∃ O, O = hashL (begun bc sc).list 8 := ⟨_, rfl⟩
                have hO32 : O.length = 32 := by rw [hO]; exact hashL_length _ 8
                rw [← hO]
                have HP6 := Aside0.mk hp6
                have HI32 := Aside0.mk (info32 hO32)
                have HB6 := Aside0.mk (HB.out.trans (hk6.b.mono (Nat.le_of_lt HGX.out)))
                have HO32 := Aside0.mk hO32
                have HOO := Aside0.mk hO
                clear hp6 hO hO32 hd6 hk6
                go_wp2_with (refine wpList_store_row rfl 27 _ _ rfl w.heap.size (u8s O) rfl rfl 27 _ HP6.out HI32.out (by rw [u8s_size, u8s_size, HO32.out]; rfl) (u8s_one O) ?_)
                exact bodyPost_ret (v := .agg (u8s O)) (results_cell_row rfl _ _ w.heap.size 27 (u8s O) (0, 0) _ rfl (setRow_heap _ _ _ _ _ _ HP6.out) Try.underlying27 rfl HI32.out) rfl ⟨by rw [HOO.out], below_setRow HB6.out (Nat.le_refl _) _⟩
      · have e1 : (((T.length : Int) % 64) != 56) = true := by simp; omega
        cases gk with
        | zero => have := HG.out; omega
        | succ gk =>
          have HPZ' : Aside0 (padZ gk (T ++ [0]) = padZ 64 (r ++ [128])) := ⟨by rw [← HPZ.out, padZ, if_neg h56]⟩
          go_wp2_with (at_builtin; refine QT.wpList_append_at rfl _ _ 23 23 rfl 5 i0 (.int .u8 0) 1 Try.underlying23 hi hz0 rfl hz1 hz2 rfl (HI' 0).out.2.2.1 _ rfl (nums .u8 [0]) (QT.src_byte Try.underlying23 .u8 0 _ _) (QT.nums_one _ _) (by rw [nums_length, nums_length]; have := HTL.out; show (_ + 1) * 1 ≤ _; omega) (by decide) ?_ ?_)
          · exact HI.out.base_le _
          · intro v4 w4 hO4 hG4 hv4
            have hI4 := HI.out.app hO4 hG4 hv4
            obtain ⟨A4, cA4, e4, hl4, hl4'⟩ := hO4.slice
            rw [← nums_append, nums_length] at e4
            subst e4
            have HI4 := Aside0.mk hI4
            clear hI4 hO4 hG4 hv4 hl4 hl4' HI HI'
            go_wp2
            go_roundg gk
            case measure => omega
            case rel =>
              exact ⟨A4, cA4, T ++ [0], rfl, ⟨by have := HG.out; simp; omega⟩, ⟨by have := HTL.out; rw [List.length_append, List.length_singleton]; omega⟩, HPZ', HI4⟩
set_option maxHeartbeats 4000000 in
set_option maxRecDepth 100000 in
theorem dsum_nil (w : World) (sF : S8) (bF : Bool) (rF : List Int) (hEF : eat (padD [] 0).length ⟨0, 0, 0, 0, 0, 0, 0, 0⟩ false (padD [] 0) = (sF, bF, rF)) :
    Calls Try.prog 14 #[.pointer none] w fun e w' => e = .returned (.agg (u8s (hashL (begun bF sF).list 8))) ∧ Below w.heap.size w w' := by
  have HRB0 : Aside0 (∀ x ∈ ([] : List Int), 0 ≤ x ∧ x ≤ 255) := ⟨fun x hx => by cases hx⟩
  have HEF0 := Aside0.mk hEF
  clear hEF
  obtain ⟨i0, hi, hz0, hz1, hz2⟩ := info_parts infoB
  obtain ⟨r, hr0⟩ : ∃ r : List Int, r = [] := ⟨_, rfl⟩
  obtain ⟨AR, hA0⟩ : ∃ A : Option Addr, A = none := ⟨_, rfl⟩
  obtain ⟨cR, hc0⟩ : ∃ c : Nat, c = 0 := ⟨_, rfl⟩
  obtain ⟨n, hn⟩ : ∃ n : Int, n = 0 := ⟨_, rfl⟩
  obtain ⟨b, hbb⟩ : ∃ b : Bool, b = false := ⟨_, rfl⟩
  obtain ⟨s0, h0⟩ : ∃ n : Int, n = 0 := ⟨_, rfl⟩
  obtain ⟨s1, h1⟩ : ∃ n : Int, n = 0 := ⟨_, rfl⟩
  obtain ⟨s2, h2⟩ : ∃ n : Int, n = 0 := ⟨_, rfl⟩
  obtain ⟨s3, h3⟩ : ∃ n : Int, n = 0 := ⟨_, rfl⟩
  obtain ⟨s4, h4⟩ : ∃ n : Int, n = 0 := ⟨_, rfl⟩
  obtain ⟨s5, h5⟩ : ∃ n : Int, n = 0 := ⟨_, rfl⟩
  obtain ⟨s6, h6⟩ : ∃ n : Int, n = 0 := ⟨_, rfl⟩
  obtain ⟨s7, h7⟩ : ∃ n : Int, n = 0 := ⟨_, rfl⟩
  have HRB : Aside0 (∀ x ∈ r, 0 ≤ x ∧ x ≤ 255) := ⟨by rw [hr0]; exact HRB0.out⟩
  have HEF : Aside0 (eat (padD r n).length ⟨s0, s1, s2, s3, s4, s5, s6, s7⟩ b (padD r n) = (sF, bF, rF)) := ⟨by rw [hr0, hn, hbb, h0, h1, h2, h3, h4, h5, h6, h7]; exact HEF0.out⟩
  have HZ : Aside0 (∀ w : World, w.alloc (.cells (u32s [0, 0, 0, 0, 0, 0, 0, 0] ++ #[.bool false, .slice none 0 0, .int .i64 0]) 38) = w.alloc (.cells #[.int .u32 s0, .int .u32 s1, .int .u32 s2, .int .u32 s3, .int .u32 s4, .int .u32 s5, .int .u32 s6, .int .u32 s7, .bool b, .slice AR r.length cR, .int .i64 n] 38)) := ⟨fun w => by rw [hr0, hn, hbb, h0, h1, h2, h3, h4, h5, h6, h7, hA0, hc0]; rfl⟩
  have HRO : Aside0 (∀ w : World, ∀ base, OwnAt w base 5 (.slice AR r.length cR) (nums .u8 r)) := ⟨fun w base => by rw [hr0, hA0, hc0]; exact OwnAt.nil _ _ _⟩
  have hcR : (nums .u8 r).length ≤ cR := by rw [hr0, hc0]; exact Nat.le_refl _
  have hcR2 : cR ≤ 9223372036854775807 := by omega
  have hn0 : 0 ≤ n := by omega
  have hn1 : n ≤ 70368744177664 := by omega
  have hsz : r.length ≤ 70368744177664 := by rw [hr0]; decide
  clear hr0 hn hbb h0 h1 h2 h3 h4 h5 h6 h7 hA0 hc0 HRB0 HEF0
  obtain ⟨base, hbase⟩ : ∃ b : Nat, b = 0 := ⟨_, rfl⟩
  clear hbase
  go_enter Try.func14, Try.ntmps14
  go_wp2_with fail
  refine (new_calls _).mono ?_
  rintro e wn ⟨rfl, hwn⟩
  rw [HZ.out] at hwn
  obtain ⟨g, hg⟩ : ∃ g, g = (w.alloc (.cells #[.int .u8 0, .int .u8 0, .int .u8 0, .int .u8 0, .int .u8 0, .int .u8 0, .int .u8 0, .int .u8 0, .int .u8 0, .int .u8 0, .int .u8 0, .int .u8 0, .int .u8 0, .int .u8 0, .int .u8 0, .int .u8 0, .int .u8 0, .int .u8 0, .int .u8 0, .int .u8 0, .int .u8 0, .int .u8 0, .int .u8 0, .int .u8 0, .int .u8 0, .int .u8 0, .int .u8 0, .int .u8 0, .int .u8 0, .int .u8 0, .int .u8 0, .int .u8 0] 27)).heap.size := ⟨_, rfl⟩
  rw [← hg]
  obtain ⟨w1, hw1⟩ : ∃ w1, w1 = wn := ⟨_, rfl⟩
  have HD1 : Aside0 (Dig w1 g s0 s1 s2 s3 s4 s5 s6 s7 b (.slice AR r.length cR) n) := ⟨by rw [hw1, hwn, hg]; exact blk_new _ _⟩
  have HR1 : Aside0 (OwnAt w1 base 5 (.slice AR r.length cR) (nums .u8 r)) := ⟨HRO.out _ _⟩
  have HP1 : Aside0 (ArrB w1 w.heap.size 27 (List.replicate 32 0)) := ⟨by rw [hw1, hwn]; exact blk_alloc (blk_new _ _) _⟩
  have HB1 : Aside0 (Below w.heap.size w w1) := ⟨by rw [hw1, hwn]; exact below_alloc (below_alloc (Below.refl _ _) _) _⟩
  obtain ⟨B, hBB⟩ : ∃ B, B = w.heap.size + 2 := ⟨_, rfl⟩
  have HSZ1 : Aside0 (B ≤ w1.heap.size) := ⟨by rw [hBB, hw1, hwn]; simp⟩
  have HNB : Aside0 (w.heap.size < B) := ⟨by omega⟩
  have HGB : Aside0 (g < B) := ⟨by rw [hg, hBB]; simp⟩
  subst hw1
  clear hwn hg hBB HZ HRO
  go_upto_region 3 with (fail)
  refine start_ (n := 12) (S := fun w' => w'.cell? ⟨g, 0, none⟩ = some (.int .u32 s0) ∧ w'.cell? ⟨g, 1, none⟩ = some (.int .u32 s1) ∧ w'.cell? ⟨g, 2, none⟩ = some (.int .u32 s2) ∧ w'.cell? ⟨g, 3, none⟩ = some (.int .u32 s3) ∧ w'.cell? ⟨g, 4, none⟩ = some (.int .u32 s4) ∧ w'.cell? ⟨g, 5, none⟩ = some (.int .u32 s5) ∧ w'.cell? ⟨g, 6, none⟩ = some (.int .u32 s6) ∧ w'.cell? ⟨g, 7, none⟩ = some (.int .u32 s7) ∧ w'.cell? ⟨g, 8, none⟩ = some (.bool b) ∧ w'.cell? ⟨g, 9, none⟩ = some (.slice AR r.length cR)) (ds := []) #[false, false, false, false, false, false, false, false, false, false, false, false] (by kernel_rfl) rfl rfl ⟨((blk_cell (show w1.drew.heap[g]? = _ from HD1.out) 0).trans rfl), ((blk_cell (show w1.drew.heap[g]? = _ from HD1.out) 1).trans rfl), ((blk_cell (show w1.drew.heap[g]? = _ from HD1.out) 2).trans rfl), ((blk_cell (show w1.drew.heap[g]? = _ from HD1.out) 3).trans rfl), ((blk_cell (show w1.drew.heap[g]? = _ from HD1.out) 4).trans rfl), ((blk_cell (show w1.drew.heap[g]? = _ from HD1.out) 5).trans rfl), ((blk_cell (show w1.drew.heap[g]? = _ from HD1.out) 6).trans rfl), ((blk_cell (show w1.drew.heap[g]? = _ from HD1.out) 7).trans rfl), ((blk_cell (show w1.drew.heap[g]? = _ from HD1.out) 8).trans rfl), ((blk_cell (show w1.drew.heap[g]? = _ from HD1.out) 9).trans rfl)⟩ (fun hHeld => ?_)
  refine pure_ (i := 0) (N := some 10) (v := ?_) (a' := ?_) #[true, false, false, false, false, false, false, false, false, false, false, false] rfl rfl (by kernel_rfl) (fun _ _ _ h => h) (Or.inl ⟨by rfl, ?_⟩) ?_ ?_
  rotate_left
  · intro w'
    go_simp
    with_reducible rfl
  rotate_left
  · simp only [Act.put, List.setIfInBounds_toArray, List.set_cons_zero, List.set_cons_succ, i64_w, i32_w]
    rfl
  refine pure_ (i := 1) (N := some 11) (v := ?_) (a' := ?_) #[true, true, false, false, false, false, false, false, false, false, false, false] rfl rfl (by kernel_rfl) (fun _ _ _ h => h) (Or.inl ⟨by rfl, ?_⟩) ?_ ?_
  rotate_left
  · intro w'
    go_simp
    with_reducible rfl
  rotate_left
  · simp only [Act.put, List.setIfInBounds_toArray, List.set_cons_zero, List.set_cons_succ, i64_w, i32_w]
    rfl
  refine pure_ (i := 2) (N := some 12) (v := ?_) (a' := ?_) #[true, true, true, false, false, false, false, false, false, false, false, false] rfl rfl (by kernel_rfl) (fun _ _ _ h => h) (Or.inl ⟨by rfl, ?_⟩) ?_ ?_
  rotate_left
  · intro w'
    go_simp
    with_reducible rfl
  rotate_left
  · simp only [Act.put, List.setIfInBounds_toArray, List.set_cons_zero, List.set_cons_succ, i64_w, i32_w]
    rfl
  refine pure_ (i := 4) (N := some 14) (v := ?_) (a' := ?_) #[true, true, true, false, true, false, false, false, false, false, false, false] rfl rfl (by kernel_rfl) (fun _ _ _ h => h) (Or.inl ⟨by rfl, ?_⟩) ?_ ?_
  rotate_left
  · intro w'
    go_simp
    with_reducible rfl
  rotate_left
  · simp only [Act.put, List.setIfInBounds_toArray, List.set_cons_zero, List.set_cons_succ, i64_w, i32_w]
    rfl
  refine pure_ (i := 5) (N := some 15) (v := ?_) (a' := ?_) #[true, true, true, false, true, true, false, false, false, false, false, false] rfl rfl (by kernel_rfl) (fun _ _ _ h => h) (Or.inl ⟨by rfl, ?_⟩) ?_ ?_
  rotate_left
  · intro w'
    go_simp
    with_reducible rfl
  rotate_left
  · simp only [Act.put, List.setIfInBounds_toArray, List.set_cons_zero, List.set_cons_succ, i64_w, i32_w]
    rfl
  refine pure_ (i := 6) (N := some 16) (v := ?_) (a' := ?_) #[true, true, true, false, true, true, true, false, false, false, false, false] rfl rfl (by kernel_rfl) (fun _ _ _ h => h) (Or.inl ⟨by rfl, ?_⟩) ?_ ?_
  rotate_left
  · intro w'
    go_simp
    with_reducible rfl
  rotate_left
  · simp only [Act.put, List.setIfInBounds_toArray, List.set_cons_zero, List.set_cons_succ, i64_w, i32_w]
    rfl
  refine take_ (i := 3) (N := some 13) (v := ?_) (a' := ?_) #[true, true, true, true, true, true, true, false, false, false, false, false] rfl rfl (by kernel_rfl) (fun _ _ _ h => h) (Or.inl ⟨by rfl, ?_⟩) hHeld ?_ ?_
  rotate_left
  · rintro w' ⟨s0, s1, s2, s3, s4, s5, s6, s7, s8, s9⟩
    go_simp
    with_reducible rfl
  rotate_left
  · simp only [Act.put, List.setIfInBounds_toArray, List.set_cons_zero, List.set_cons_succ, i64_w, i32_w]
    rfl
  refine take_ (i := 7) (N := some 17) (v := ?_) (a' := ?_) #[true, true, true, true, true, true, true, true, false, false, false, false] rfl rfl (by kernel_rfl) (fun _ _ _ h => h) (Or.inl ⟨by rfl, ?_⟩) hHeld ?_ ?_
  rotate_left
  · rintro w' ⟨s0, s1, s2, s3, s4, s5, s6, s7, s8, s9⟩
    go_simp
    with_reducible rfl
  rotate_left
  · simp only [Act.put, List.setIfInBounds_toArray, List.set_cons_zero, List.set_cons_succ, i64_w, i32_w]
    rfl
  refine one_ (i := 8) (N := some 18) #[true, true, true, true, true, true, true, true, true, false, false, false] rfl rfl (by kernel_rfl) (by decide) (fun K hK => ?_)
  refine QT.append_step (N := some 18) (by rfl) rfl _ _ 23 23 rfl 5 i0 (.int .u8 0) 1 Try.underlying23 hi hz0 rfl hz1 hz2 rfl (OwnAt.nil _ B _) _ rfl (nums .u8 r) (QT.src_own Try.underlying23 (show OwnAt w1.drew _ _ _ _ from HR1.out)) (QT.nums_one _ _) (by rw [nums_length]; simp; omega) (by decide) HSZ1.out ?_
  intro v2 w2 hO2 hG2a hv2
  have hG2 : w1.drew.grownBy w2 none := hG2a
  rw [List.nil_append] at hO2
  obtain ⟨A2, cA2, e2, hl2, hl2'⟩ := hO2.slice
  rw [nums_length] at e2
  subst e2
  have hd2 : Dig w2 g s0 s1 s2 s3 s4 s5 s6 s7 b (.slice AR r.length cR) n := (hG2.block g (blk_lt HD1.out) (by simp)).trans HD1.out
  refine hK.out _ _ ⟨((blk_cell hd2 0).trans rfl), ((blk_cell hd2 1).trans rfl), ((blk_cell hd2 2).trans rfl), ((blk_cell hd2 3).trans rfl), ((blk_cell hd2 4).trans rfl), ((blk_cell hd2 5).trans rfl), ((blk_cell hd2 6).trans rfl), ((blk_cell hd2 7).trans rfl), ((blk_cell hd2 8).trans rfl), ((blk_cell hd2 9).trans rfl)⟩ (fun hHeld => ?_)
  clear hK K
  refine norm_ (a' := ?_) ?_ ?_
  rotate_left
  · show Act.put _ (some 18) _ = _
    simp only [Act.put, List.setIfInBounds_toArray, List.set_cons_zero, List.set_cons_succ, i64_w, i32_w]
    rfl
  refine pure_ (i := 9) (N := some 19) (v := ?_) (a' := ?_) #[true, true, true, true, true, true, true, true, true, true, false, false] rfl rfl (by kernel_rfl) (fun _ _ _ h => h) (Or.inl ⟨by rfl, ?_⟩) ?_ ?_
  rotate_left
  · intro w'
    go_simp
    with_reducible rfl
  rotate_left
  · simp only [Act.put, List.setIfInBounds_toArray, List.set_cons_zero, List.set_cons_succ, i64_w, i32_w]
    rfl
  refine one_ (i := 10) (N := some 20) #[true, true, true, true, true, true, true, true, true, true, true, false] rfl rfl (by kernel_rfl) (by decide) (fun K hK => ?_)
  refine value_ (w1 := ?_) (v := ?_) (by rfl) rfl ?_ ?_
  rotate_left 2
  · go_simp
    constructor
    · rfl
    · rfl
  refine hK.out _ _ ⟨((blk_cell (blk_alloc hd2 _) 0).trans rfl), ((blk_cell (blk_alloc hd2 _) 1).trans rfl), ((blk_cell (blk_alloc hd2 _) 2).trans rfl), ((blk_cell (blk_alloc hd2 _) 3).trans rfl), ((blk_cell (blk_alloc hd2 _) 4).trans rfl), ((blk_cell (blk_alloc hd2 _) 5).trans rfl), ((blk_cell (blk_alloc hd2 _) 6).trans rfl), ((blk_cell (blk_alloc hd2 _) 7).trans rfl), ((blk_cell (blk_alloc hd2 _) 8).trans rfl), ((blk_cell (blk_alloc hd2 _) 9).trans rfl)⟩ (fun hHeld => ?_)
  clear hK K
  refine norm_ (a' := ?_) ?_ ?_
  rotate_left
  · show Act.put _ (some 20) _ = _
    simp only [Act.put, List.setIfInBounds_toArray, List.set_cons_zero, List.set_cons_succ, i64_w, i32_w]
    rfl
  refine pure_ (i := 11) (N := some 3) (v := ?_) (a' := ?_) #[true, true, true, true, true, true, true, true, true, true, true, true] rfl rfl (by kernel_rfl) (fun _ _ _ h => h) (Or.inl ⟨by rfl, ?_⟩) ?_ ?_
  rotate_left
  · intro w'
    go_simp
    with_reducible rfl
  rotate_left
  · simp only [Act.put, List.setIfInBounds_toArray, List.set_cons_zero, List.set_cons_succ, i64_w, i32_w]
    rfl
  refine done_ (by kernel_rfl) ?_

  have hgx0 : w2.heap.size ≠ g := by have := blk_lt hd2; omega
  obtain ⟨w3, hw3⟩ : ∃ w3, w3 = w2.alloc (.cells #[.int .u32 s0, .int .u32 s1, .int .u32 s2, .int .u32 s3, .int .u32 s4, .int .u32 s5, .int .u32 s6, .int .u32 s7, .bool b, .slice A2 r.length cA2, .int .i64 0] 38) := ⟨_, rfl⟩
  rw [← hw3]
  obtain ⟨gx, hgx⟩ : ∃ gx, gx = w2.heap.size := ⟨_, rfl⟩
  rw [← hgx]
  have hI : SumInv w g B (.cells #[.int .u32 s0, .int .u32 s1, .int .u32 s2, .int .u32 s3, .int .u32 s4, .int .u32 s5, .int .u32 s6, .int .u32 s7, .bool b, .slice AR r.length cR, .int .i64 n] 38 (0, 0)) gx (S8.list ⟨s0, s1, s2, s3, s4, s5, s6, s7⟩) b (.slice A2 r.length cA2) w3 (.slice A2 r.length cA2) r := by
    have hs2 : B ≤ w2.heap.size := Nat.le_trans HSZ1.out hG2.size
    refine ⟨by rw [hw3, hgx]; exact blk_new _ _, ?_, by rw [hw3]; exact hO2.alloc _, fun he => ?_, ?_, by rw [hgx]; exact hs2, HNB.out, HGB.out, by rw [hw3]; exact blk_alloc hd2 _⟩
    · rw [hw3]; exact blk_alloc ((hG2.block _ (blk_lt HP1.out) (by simp)).trans HP1.out) _
    · have := hO2.lt _ he; omega
    · rw [hw3]; exact (HB1.out.trans (Below.trans (below_drew (Below.refl _ _)) ⟨hG2.os, hG2.tape, hG2.output, hG2.size, fun i hi => hG2.block i (Nat.lt_of_lt_of_le hi HB1.out.size) (by simp)⟩)).alloc (Nat.le_trans (Nat.le_of_lt HNB.out) hs2) _
  have HI := Aside0.mk hI
  have HI' := fun x => Aside0.mk (hI.lit x)
  have c9 := hI.1.rest rfl
  have HSZ2 : Aside0 (r.length ≤ 70368744177664) := ⟨hsz⟩
  clear hI hw3 hgx hO2 hG2 hG2a hv2 hd2 HD1 HR1 HP1 HB1 HSZ1 hgx0 hHeld hl2 hl2'
  go_wp2_with (at_builtin; refine QT.wpList_append_at rfl _ _ 23 23 rfl 5 i0 (.int .u8 0) 1 Try.underlying23 hi hz0 rfl hz1 hz2 rfl (HI' 128).out.2.2.1 _ rfl (nums .u8 [128]) (QT.src_byte Try.underlying23 .u8 128 _ _) (QT.nums_one _ _) (by rw [nums_length, nums_length]; have := HSZ2.out; show (_ + 1) * 1 ≤ _; omega) (by decide) ?_ ?_)
  · exact HI.out.base_le _
  · intro v4 w4 hO4 hG4 hv4
    have hI4 := HI.out.app hO4 hG4 hv4
    obtain ⟨A4, cA4, e4, hl4, hl4'⟩ := hO4.slice
    rw [← nums_append, nums_length] at e4
    obtain ⟨N4, hN4⟩ : ∃ N4, N4 = (r ++ [128]).length := ⟨_, rfl⟩
    rw [← hN4] at e4
    have HN4 := Aside0.mk hN4
    clear hN4
    subst e4
    have HI4 := Aside0.mk hI4
    clear hI4 hO4 hG4 hv4 hl4 hl4' HI HI' c9
    go_wp2
    go_loopg [4] 64 (fun gk v4 wr => ∃ (A : Option Addr) (c : Nat) (T : List Int), v4 = .slice A T.length c ∧ Aside0 ((120 - T.length % 64) % 64 ≤ gk) ∧ Aside0 (T.length + (120 - T.length % 64) % 64 ≤ 70368744177664 + 64) ∧ Aside0 (padZ gk T = padZ 64 (r ++ [128])) ∧ Aside0 (SumInv w g B (.cells #[.int .u32 s0, .int .u32 s1, .int .u32 s2, .int .u32 s3, .int .u32 s4, .int .u32 s5, .int .u32 s6, .int .u32 s7, .bool b, .slice AR r.length cR, .int .i64 n] 38 (0, 0)) gx (S8.list ⟨s0, s1, s2, s3, s4, s5, s6, s7⟩) b (.slice A2 r.length cA2) wr v4 T))
    case atStart => exact ⟨A4, cA4, r ++ [128], by rw [HN4.out], ⟨by omega⟩, ⟨by have := HSZ2.out; rw [List.length_append, List.length_singleton]; omega⟩, ⟨rfl⟩, HI4⟩
    case round =>
      clear HI4
      obtain ⟨A, c, T, rfl, HG, HTL, HPZ, HI⟩ := hrel
      have htl := HTL.out
      have zt : 0 ≤ (T.length : Int) := by omega
      have HI' := fun x => Aside0.mk (HI.out.lit x)
      by_cases h56 : T.length % 64 = 56
      · have e1 : (((T.length : Int) % 64) != 56) = false := by simp; omega
        have hPT : T = padZ 64 (r ++ [128]) := by rw [← HPZ.out]; cases gk with
          | zero => rfl
          | succ gk => rw [padZ, if_pos h56]
        have HD' : Aside0 (Dig wr g s0 s1 s2 s3 s4 s5 s6 s7 b (.slice AR r.length cR) n) := ⟨HI.out.2.2.2.2.2.2.2.2⟩
        have c10 := (blk_cell HD'.out 10).trans rfl
        have HPT := Aside0.mk hPT
        clear hPT HPZ HG
        go_wp2
        obtain ⟨N8, hN8⟩ : ∃ N8, N8 = n * 8 := ⟨_, rfl⟩
        rw [← hN8]
        have zn0 : 0 ≤ N8 := by omega
        have zn1 : N8 ≤ 562949953421312 := by omega
        have HN8 := Aside0.mk hN8
        have HPL : Aside0 (T.length ≤ 70368744177664 + 64) := ⟨by have := HTL.out; omega⟩
        clear hN8 c10 HD' HTL htl h56 e1 zt HI'
        obtain ⟨T0, hT0⟩ : ∃ T0, T0 = T := ⟨_, rfl⟩
        have HT0 := Aside0.mk hT0
        obtain ⟨wo, hwo⟩ : ∃ wo : World, wo = wr := ⟨_, rfl⟩
        subst hwo
        go_loopg [4, 6] 8 (fun gk v4 v6 wr => ∃ (A : Option Addr) (c : Nat) (T : List Int) (j : Nat), v4 = .slice A T.length c ∧ v6 = .int .i64 (56 - 8 * (j : Int)) ∧ Aside0 (j ≤ 8) ∧ Aside0 (8 - j ≤ gk) ∧ Aside0 (T = T0 ++ num8 N8 j) ∧ Aside0 (SumInv w g B (.cells #[.int .u32 s0, .int .u32 s1, .int .u32 s2, .int .u32 s3, .int .u32 s4, .int .u32 s5, .int .u32 s6, .int .u32 s7, .bool b, .slice AR r.length cR, .int .i64 n] 38 (0, 0)) gx (S8.list ⟨s0, s1, s2, s3, s4, s5, s6, s7⟩) b (.slice A2 r.length cA2) wr v4 T))
        case atStart => exact ⟨A, c, T, 0, rfl, rfl, ⟨by omega⟩, ⟨by omega⟩, ⟨by rw [HT0.out]; simp [num8]⟩, HI⟩
        case round =>
          clear HI
          obtain ⟨A, c, T', j, rfl, rfl, Hj, HG, HT', HI⟩ := hrel
          have hj := Hj.out
          have HI' := fun x => Aside0.mk (HI.out.lit x)
          by_cases hlt : j < 8
          · have e1 : decide (8 * (j : Int) ≤ 56) = true := decide_eq_true (by omega)
            have z1 : 0 ≤ 56 - 8 * (j : Int) := by omega
            have HTL' : Aside0 (T'.length ≤ 70368744177664 + 64 + 8) := ⟨by rw [HT'.out, List.length_append, num8_length, HT0.out]; have := HPL.out; omega⟩
            go_wp2_with (at_builtin; refine QT.wpList_append_at rfl _ _ 23 23 rfl 5 i0 (.int .u8 0) 1 Try.underlying23 hi hz0 rfl hz1 hz2 rfl (HI' (N8 / 2 ^ (56 - 8 * j) % 256)).out.2.2.1 _ rfl (nums .u8 [(N8 / 2 ^ (56 - 8 * j) % 256)]) (QT.src_byte Try.underlying23 .u8 (N8 / 2 ^ (56 - 8 * j) % 256) _ _) (QT.nums_one _ _) (by rw [nums_length, nums_length]; have := HTL'.out; show (_ + 1) * 1 ≤ _; omega) (by decide) ?_ ?_)
            · exact HI.out.base_le _
            · intro v4 w4 hO4 hG4 hv4
              have hI4 := HI.out.app hO4 hG4 hv4
              obtain ⟨A4, cA4, e4, hl4, hl4'⟩ := hO4.slice
              rw [← nums_append, nums_length] at e4
              subst e4
              have HI4 := Aside0.mk hI4
              clear hI4 hO4 hG4 hv4 hl4 hl4' HI HI'
              go_wp2
              go_roundg (8 - (j + 1))
              case measure => have := HG.out; omega
              case rel =>
                exact ⟨A4, cA4, T' ++ [N8 / 2 ^ (56 - 8 * j) % 256], j + 1, rfl, by (first | rfl | (congr 1; omega)), ⟨by omega⟩, ⟨Nat.le_refl _⟩, ⟨by rw [HT'.out, num8, List.append_assoc]⟩, HI4⟩
          · have e1 : decide (8 * (j : Int) ≤ 56) = false := decide_eq_false (by omega)
            have hj8 : j = 8 := by omega
            subst hj8
            have HTE : Aside0 (T' = padD r n) := ⟨by rw [HT'.out, HT0.out, HPT.out, HN8.out]; rfl⟩
            clear HT' HT0 HPT HN8 HPL HI' Hj HG zn0 zn1
            go_wp2
            obtain ⟨wo, hwo⟩ : ∃ wo : World, wo = wr := ⟨_, rfl⟩
            subst hwo
            have HM0 : Aside0 (T'.length % 64 = 0) := ⟨by rw [HTE.out]; exact padD_mod r n⟩
            have HE0 : Aside0 (∃ f, T'.length ≤ f ∧ eat f ⟨s0, s1, s2, s3, s4, s5, s6, s7⟩ b T' = (sF, bF, rF)) := ⟨_, Nat.le_refl _, by rw [HTE.out]; exact HEF.out⟩
            have HX0 : Aside0 (∀ x ∈ T', 0 ≤ x ∧ x ≤ 255) := ⟨by rw [HTE.out]; exact padD_bytes r n HRB.out⟩
            go_loopg [4] (T'.length) (fun gk v4 wr => ∃ (A : Option Addr) (c : Nat) (T : List Int) (sc : S8) (bc : Bool), v4 = .slice A T.length c ∧ Aside0 (T.length ≤ gk) ∧ Aside0 (T.length % 64 = 0) ∧ Aside0 (∃ f, T.length ≤ f ∧ eat f sc bc T = (sF, bF, rF)) ∧ Aside0 (SumInv w g B (.cells #[.int .u32 s0, .int .u32 s1, .int .u32 s2, .int .u32 s3, .int .u32 s4, .int .u32 s5, .int .u32 s6, .int .u32 s7, .bool b, .slice AR r.length cR, .int .i64 n] 38 (0, 0)) gx sc.list bc (.slice A2 r.length cA2) wr v4 T) ∧ Aside0 (∀ x ∈ T, 0 ≤ x ∧ x ≤ 255))
            case atStart => exact ⟨A, c, T', _, b, rfl, ⟨Nat.le_refl _⟩, HM0, HE0, HI, HX0⟩
            case round =>
              clear HI HM0 HE0 HX0 HTE HEF
              obtain ⟨A, c, T, sc, bc, rfl, HG, HM, HE, HI, HX⟩ := hrel
              by_cases hlt : 64 ≤ T.length
              · have e1 : decide (0 < T.length) = true := decide_eq_true (by omega)
                have HLT := Aside0.mk hlt
                obtain ⟨hd, hp, hO, hne, hB, hgx0, hNB, hgB, hod⟩ := HI.out
                have hgx : w.heap.size < gx := by omega
                have HREST := Aside0.mk (And.intro hgx0 (And.intro hNB (And.intro hgB hod)))
                clear hgx0 hNB hgB hod
                obtain ⟨Ax, cx, ex, hcc, hcc2⟩ := hO.slice
                rw [nums_length] at hcc
                have hcx : c = cx := (Value.slice.inj ex).2.2
                subst hcx
                obtain ⟨ad, rfl, hbad, hcells⟩ := hO.cells (by rw [nums_length]; omega)
                have hadg : ad.block ≠ gx := fun he => hne (by simp [Value.ownBlock, he])
                have HD := Aside0.mk hd
                have HP := Aside0.mk hp
                have HO := Aside0.mk hO
                have HB := Aside0.mk hB
                have HGX := Aside0.mk hgx
                have HC := Aside0.mk hcells
                have HADG := Aside0.mk hadg
                have z1 : 64 ≤ c := by omega
                clear hd hp hO hne hB hgx hcells hadg ex hlt
                go_wp2
                refine QT.region 5 (by kernel_rfl) (by kernel_rfl) ?_
                simp only [List.take_succ_cons, List.take_zero, List.drop_succ_cons, List.drop_zero]
                repeat (go_big_quiet_step ((fail)))
                refine wpQuiet_nil ?_
                intro nq
                go_wp2_with fail
                refine (take_calls gx sc bc _ _ _ (show DigL (wr.drewN nq) gx _ _ _ _ from HD.out) ad c T HADG.out (fun i => by
                    by_cases hi : i < T.length
                    · rw [List.getD_eq_getElem?_getD, List.getElem?_eq_getElem hi]; exact HX.out _ (List.getElem_mem hi)
                    · rw [List.getD_eq_getElem?_getD, List.getElem?_eq_none (by omega)]; exact ⟨by decide, by decide⟩) (fun j hj => HC.out j _ (by
                    have hlt := HLT.out
                    unfold nums
                    rw [List.getElem?_map, List.getElem?_eq_getElem (by omega), List.getD_eq_getElem?_getD, List.getElem?_eq_getElem (by omega)]; rfl))).mono ?_
                rintro e w5 ⟨rfl, hd5, hk5⟩
                have hI5 : SumInv w g B (.cells #[.int .u32 s0, .int .u32 s1, .int .u32 s2, .int .u32 s3, .int .u32 s4, .int .u32 s5, .int .u32 s6, .int .u32 s7, .bool b, .slice AR r.length cR, .int .i64 n] 38 (0, 0)) gx (blockS (begun bc sc) T).list true (.slice A2 r.length cA2) w5 (.slice (if c = 64 then some ad else (some ad).map (·.add 64)) (T.length - 64) (c - 64)) (T.drop 64) := by
                  have h1 : OwnAt w5 B 5 (.slice (some ad) T.length c) (nums .u8 T) := (HO.out.drewN nq).keep hk5.k (by simp only [Value.ownBlock]; intro he; cases he; exact HADG.out rfl)
                  have h2 := h1.drop 64 (by rw [nums_length]; exact HLT.out)
                  rw [show (nums .u8 T).drop 64 = nums .u8 (T.drop 64) from List.map_drop.symm] at h2
                  refine ⟨hd5, hk5.k.blk HP.out (Nat.ne_of_lt HGX.out) (by simp), h2, fun he => ?_, (pw_below_drewN HB.out nq).trans (hk5.b.mono (Nat.le_of_lt HGX.out)), HREST.out.1, HREST.out.2.1, HREST.out.2.2.1, hk5.k.blk HREST.out.2.2.2 (Nat.ne_of_lt (Nat.lt_of_lt_of_le HREST.out.2.2.1 HREST.out.1)) (by simp)⟩
                  split at he
                  · simp only [Value.ownBlock] at he; cases he; exact HADG.out rfl
                  · simp only [Value.ownBlock, Option.map_some, add_block] at he; cases he; exact HADG.out rfl
                have HI5 := Aside0.mk hI5
                clear hI5 hd5 hk5 HC HO HD HP HB
                by_cases h64 : c = 64
                · have z2 : (c : Int) = 64 := by omega
                  have z3 : 64 ≤ T.length := HLT.out
                  go_wp2
                  have hIn := HI5.out
                  simp only [if_pos h64, show c - 64 = 0 by omega] at hIn
                  go_roundg (T.length - 64)
                  case measure => have := HG.out; have := HLT.out; omega
                  case rel =>
                    refine ⟨_, _, T.drop 64, blockS (begun bc sc) T, true, by rw [List.length_drop], ⟨by rw [List.length_drop]; exact Nat.le_refl _⟩, ⟨by rw [List.length_drop]; have := HM.out; omega⟩, ⟨?_⟩, ⟨hIn⟩, ⟨fun x hx => HX.out x (List.mem_of_mem_drop hx)⟩⟩
                    obtain ⟨f, hf, he⟩ := HE.out
                    have hlt := HLT.out
                    cases f with
                    | zero => omega
                    | succ f => exact ⟨f, by rw [List.length_drop]; omega, by rw [eat, if_pos hlt] at he; exact he⟩
                · have z3 : 64 ≤ T.length := HLT.out
                  go_wp2
                  have hIn := HI5.out
                  simp only [if_neg h64, Option.map_some, Addr.add, if_neg (show ¬ (64 : Nat) = 0 by decide)] at hIn
                  go_roundg (T.length - 64)
                  case measure => have := HG.out; have := HLT.out; omega
                  case rel =>
                    refine ⟨_, _, T.drop 64, blockS (begun bc sc) T, true, by rw [List.length_drop], ⟨by rw [List.length_drop]; exact Nat.le_refl _⟩, ⟨by rw [List.length_drop]; have := HM.out; omega⟩, ⟨?_⟩, ⟨hIn⟩, ⟨fun x hx => HX.out x (List.mem_of_mem_drop hx)⟩⟩
                    obtain ⟨f, hf, he⟩ := HE.out
                    have hlt := HLT.out
                    cases f with
                    | zero => omega
                    | succ f => exact ⟨f, by rw [List.length_drop]; omega, by rw [eat, if_pos hlt] at he; exact he⟩
              · have hm := HM.out
                have e1 : decide (0 < T.length) = false := decide_eq_false (by omega)
                have hT0 : T = [] := List.eq_nil_of_length_eq_zero (by omega)
                obtain ⟨f, hf, he⟩ := HE.out
                have hfin : (sc, bc, T) = (sF, bF, rF) := by
                  cases f with
                  | zero => exact he
                  | succ f => rw [eat, if_neg hlt] at he; exact he
                simp only [Prod.mk.injEq] at hfin
                obtain ⟨rfl, rfl, h3⟩ := hfin
                clear h3
                obtain ⟨hd, hp, hO, hne, hB, hgx0, hNB, hgB, hod⟩ := HI.out
                have hgx : w.heap.size < gx := by omega
                have HREST := Aside0.mk (And.intro hgx0 (And.intro hNB (And.intro hgB hod)))
                clear hgx0 hNB hgB hod
                have HD := Aside0.mk hd
                have HP := Aside0.mk hp
                have HB := Aside0.mk hB
                have HGX := Aside0.mk hgx
                clear hd hp hO hne hB hgx HI HE HX HM HG hm hf he hT0
                go_wp2_with fail
                refine (hash_calls gx sc bc _ 0 wr HD.out).mono ?_
                rintro e w6 ⟨rfl, hd6, hk6⟩
                have hp6 : ArrB w6 w.heap.size 27 (List.replicate 32 0) := hk6.k.blk HP.out (Nat.ne_of_lt HGX.out) (by simp)
                obtain ⟨O, hO⟩ : ∃ O, O = hashL (begun bc sc).list 8 := ⟨_, rfl⟩
                have hO32 : O.length = 32 := by rw [hO]; exact hashL_length _ 8
                rw [← hO]
                have HP6 := Aside0.mk hp6
                have HI32 := Aside0.mk (info32 hO32)
                have HB6 := Aside0.mk (HB.out.trans (hk6.b.mono (Nat.le_of_lt HGX.out)))
                have HO32 := Aside0.mk hO32
                have HOO := Aside0.mk hO
                clear hp6 hO hO32 hd6 hk6
                go_wp2_with (refine wpList_store_row rfl 27 _ _ rfl w.heap.size (u8s O) rfl rfl 27 _ HP6.out HI32.out (by rw [u8s_size, u8s_size, HO32.out]; rfl) (u8s_one O) ?_)
                exact bodyPost_ret (v := .agg (u8s O)) (results_cell_row rfl _ _ w.heap.size 27 (u8s O) (0, 0) _ rfl (setRow_heap _ _ _ _ _ _ HP6.out) Try.underlying27 rfl HI32.out) rfl ⟨by rw [HOO.out], below_setRow HB6.out (Nat.le_refl _) _⟩
      · have e1 : (((T.length : Int) % 64) != 56) = true := by simp; omega
        cases gk with
        | zero => have := HG.out; omega
        | succ gk =>
          have HPZ' : Aside0 (padZ gk (T ++ [0]) = padZ 64 (r ++ [128])) := ⟨by rw [← HPZ.out, padZ, if_neg h56]⟩
          go_wp2_with (at_builtin; refine QT.wpList_append_at rfl _ _ 23 23 rfl 5 i0 (.int .u8 0) 1 Try.underlying23 hi hz0 rfl hz1 hz2 rfl (HI' 0).out.2.2.1 _ rfl (nums .u8 [0]) (QT.src_byte Try.underlying23 .u8 0 _ _) (QT.nums_one _ _) (by rw [nums_length, nums_length]; have := HTL.out; show (_ + 1) * 1 ≤ _; omega) (by decide) ?_ ?_)
          · exact HI.out.base_le _
          · intro v4 w4 hO4 hG4 hv4
            have hI4 := HI.out.app hO4 hG4 hv4
            obtain ⟨A4, cA4, e4, hl4, hl4'⟩ := hO4.slice
            rw [← nums_append, nums_length] at e4
            subst e4
            have HI4 := Aside0.mk hI4
            clear hI4 hO4 hG4 hv4 hl4 hl4' HI HI'
            go_wp2
            go_roundg gk
            case measure => omega
            case rel =>
              exact ⟨A4, cA4, T ++ [0], rfl, ⟨by have := HG.out; simp; omega⟩, ⟨by have := HTL.out; rw [List.length_append, List.length_singleton]; omega⟩, HPZ', HI4⟩
end Go.Proofs.Ytlonhkechpgbiaa.Sh
