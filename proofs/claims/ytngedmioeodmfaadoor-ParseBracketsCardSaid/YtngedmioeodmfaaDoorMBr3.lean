/- 9 texts of the proof, put together, less what is not used; what a tool printed stands among them. -/
import Derived.IntWalk
import Derived.Test.YtngedmioeodmfaaDoorMBr2
namespace Go.Proofs.YtngedmioeodmfaaDoor.Lx
open Go.RowKit Go.Proofs.YtngedmioeodmfaaDoor.Pr Go.Proofs.YtngedmioeodmfaaDoorW.PrintWords Go.Proofs.YtngedmioeodmfaaDoorW.PrintLast Go.Proofs.YtngedmioeodmfaaDoorW.PrintMore
set_option linter.unusedVariables false
set_option linter.unusedSimpArgs false
set_option maxHeartbeats 4000000 in
set_option maxRecDepth 100000 in
theorem token_p40 (s : ByteArray) (i : Nat) (L : Value) (ts : List Tk) (g base : Nat) (w : World) (hs : s.size ≤ 140737488351232) (hi : i < s.size) (hb : Blk w g s i L)
    (hO : Kd.R k40 40 w base (fun k => k ≠ g) L ts) (hbase : base ≤ g) (hts : ts.length ≤ 1000000000) (hl : pLetter (bt s i) = false) (q : bt s (i : Int) = 40) :
    Calls Tryd.prog 37 #[.pointer (some ⟨g, 0, none⟩)] w fun e w' =>
      e = .returned (.bool true) ∧ ∃ L', Blk w' g s ((i : Int) + 1) L' ∧ Kd.R k40 40 w' base (fun k => k ≠ g) L' (ts ++ [⟨3, i, s.extract i (i + 1)⟩]) ∧ Below base w w' := by
  have hg := blk_lt hb
  have c0 := hb.c0
  have c1 := hb.c1
  have hr := bt_range s (i : Int)
  have HLT := Aside0.mk (show ∀ W : World, Calls Tryd.prog 60 #[.int .u8 (bt s (i : Int))] W fun e w' => e = .returned (.bool false) ∧ Drawn0 W w' from fun W => lex_letter.calls _ _ W ((pLetter_some _ hr.1 hr.2).trans (by rw [hl])))
  have hlt2 : (i : Int) < (s.size : Int) := by omega
  have hx : ∀ h : i < s.size, ((s[i]'h).toNat : Int) = bt s (i : Int) := fun h => bt_at s (i : Int) h
  have b34 : (bt s (i : Int) == 34) = false := by rw [q]; rfl
  have b40 : (bt s (i : Int) == 40) = true := by rw [q]; rfl
  have b41 : (bt s (i : Int) == 41) = false := by rw [q]; rfl
  have b59 : (bt s (i : Int) == 59) = false := by rw [q]; rfl
  have HQ := Aside0.mk (show ∀ W : World, Calls Tryd.prog 63 #[.string ⟨#[40, 41, 59]⟩, .int .u8 (bt s (i : Int))] W fun e w' => e = .returned (.int .i64 0) ∧ w' = W from fun W => by rw [q]; exact Tryd.strings_IndexByte _ _ W)
  clear q
  have HB := Aside0.mk hb
  have HS := Aside0.mk hs
  have HO := Aside0.mk hO
  have HG0 := Aside0.mk hg
  have hu := Tryd.underlying40
  clear hb hO hl
  go_enter Tryd.func37, Tryd.ntmps37
  go_wp2
  go_quiet (fail)
  go_wp2_with fail
  refine (HLT.out _).mono ?_
  rintro e w' ⟨rfl, ⟨n, rfl⟩⟩
  have hne : w.heap.size ≠ g := by omega
  have hz1 : (i : Int) ≤ (i : Int) + 1 := by omega
  have hz2 : (i : Int) + 1 ≤ (s.size : Int) := by omega
  go_wp2
  have hT1 : ((w.alloc (.cells #[.int .i64 0, .int .i64 i, .string ⟨#[]⟩] 40)).drewN (nq + n)).heap[w.heap.size]? = some (.cells #[.int .i64 0, .int .i64 i, .string ⟨#[]⟩] 40 (0, 0)) := blk_drewN (blk_new w _) _
  have hb1 : Blk ((w.alloc (.cells #[.int .i64 0, .int .i64 i, .string ⟨#[]⟩] 40)).drewN (nq + n)) g s i L := blk_drewN (blk_alloc HB.out _) _
  have ho1 : Kd.R k40 40 ((w.alloc (.cells #[.int .i64 0, .int .i64 i, .string ⟨#[]⟩] 40)).drewN (nq + n)) base (fun k => k ≠ g ∧ k ≠ w.heap.size) L ts := Kd.R_mono (Kd.R_drewN (Kd.R_alloc (Kd.R_bound HO.out) _) _) (fun k hk => ⟨hk.1, Nat.ne_of_lt hk.2.2.1⟩)
  have hw1 : Below base w ((w.alloc (.cells #[.int .i64 0, .int .i64 i, .string ⟨#[]⟩] 40)).drewN (nq + n)) := (pw_below_drewN (below_alloc (Below.refl w.heap.size w) _) _).mono (by omega)
  generalize ((w.alloc (.cells #[.int .i64 0, .int .i64 i, .string ⟨#[]⟩] 40)).drewN (nq + n)) = W1 at hT1 hb1 ho1 hw1 ⊢
  clear c0 c1
  have d0 := hb1.c0
  have d1 := hb1.c1
  have df1 := hb1.fr 1
  have t0 := (blk_cell hT1 0).trans rfl
  have t2 := (blk_cell hT1 2).trans rfl
  have tf0 := blk_frozen hT1 0
  have tf2 := blk_frozen hT1 2
  have HT1 := Aside0.mk hT1
  have HB1 := Aside0.mk hb1
  have HO1 := Aside0.mk ho1
  have HW1 := Aside0.mk hw1
  clear hT1 hb1 ho1 hw1
  have hz3 : i ≤ i + 1 := by omega
  have hz4 : i + 1 ≤ s.size := by omega
  have hz5 : (0 : Int) ≤ (i : Int) + 1 := by omega
  have hz6 : ((i : Int) + 1).toNat = i + 1 := by omega
  have hz7 : IntKind.i64.wrap ((i : Int) + 1) = (i : Int) + 1 := IntWalk.i64_in _ (by omega)
  refine start_ (n := 24) (S := fun w' => w'.cell? ⟨g, 0, none⟩ = some (.string s) ∧ w'.cell? ⟨g, 1, none⟩ = some (.int .i64 i)) (ds := []) #[false, false, false, false, false, false, false, false, false, false, false, false, false, false, false, false, false, false, false, false, false, false, false, false] (by kernel_rfl) rfl rfl ⟨d0, d1⟩ (fun hHeld => ?_)
  refine pure_ (i := 0) (N := some 49) (v := ?_) (a' := ?_) #[true, false, false, false, false, false, false, false, false, false, false, false, false, false, false, false, false, false, false, false, false, false, false, false] rfl rfl (by kernel_rfl) (fun _ _ _ h => h) (Or.inl ⟨by rfl, ?_⟩) ?_ ?_
  rotate_left
  · intro w'
    go_simp
    with_reducible rfl
  rotate_left
  · simp only [Act.put, List.setIfInBounds_toArray, List.set_cons_zero, List.set_cons_succ, i64_w, i32_w]
    rfl
  refine pure_ (i := 3) (N := some 52) (v := ?_) (a' := ?_) #[true, false, false, true, false, false, false, false, false, false, false, false, false, false, false, false, false, false, false, false, false, false, false, false] rfl rfl (by kernel_rfl) (fun _ _ _ h => h) (Or.inl ⟨by rfl, ?_⟩) ?_ ?_
  rotate_left
  · intro w'
    go_simp
    with_reducible rfl
  rotate_left
  · simp only [Act.put, List.setIfInBounds_toArray, List.set_cons_zero, List.set_cons_succ, i64_w, i32_w]
    rfl
  refine pure_ (i := 4) (N := some 53) (v := ?_) (a' := ?_) #[true, false, false, true, true, false, false, false, false, false, false, false, false, false, false, false, false, false, false, false, false, false, false, false] rfl rfl (by kernel_rfl) (fun _ _ _ h => h) (Or.inl ⟨by rfl, ?_⟩) ?_ ?_
  rotate_left
  · intro w'
    go_simp
    with_reducible rfl
  rotate_left
  · simp only [Act.put, List.setIfInBounds_toArray, List.set_cons_zero, List.set_cons_succ, i64_w, i32_w]
    rfl
  refine pure_ (i := 5) (N := some 54) (v := ?_) (a' := ?_) #[true, false, false, true, true, true, false, false, false, false, false, false, false, false, false, false, false, false, false, false, false, false, false, false] rfl rfl (by kernel_rfl) (fun _ _ _ h => h) (Or.inl ⟨by rfl, ?_⟩) ?_ ?_
  rotate_left
  · intro w'
    go_simp
    with_reducible rfl
  rotate_left
  · simp only [Act.put, List.setIfInBounds_toArray, List.set_cons_zero, List.set_cons_succ, i64_w, i32_w]
    rfl
  refine pure_ (i := 6) (N := some 55) (v := ?_) (a' := ?_) #[true, false, false, true, true, true, true, false, false, false, false, false, false, false, false, false, false, false, false, false, false, false, false, false] rfl rfl (by kernel_rfl) (fun _ _ _ h => h) (Or.inl ⟨by rfl, ?_⟩) ?_ ?_
  rotate_left
  · intro w'
    go_simp
    with_reducible rfl
  rotate_left
  · simp only [Act.put, List.setIfInBounds_toArray, List.set_cons_zero, List.set_cons_succ, i64_w, i32_w]
    rfl
  refine pure_ (i := 8) (N := some 57) (v := ?_) (a' := ?_) #[true, false, false, true, true, true, true, false, true, false, false, false, false, false, false, false, false, false, false, false, false, false, false, false] rfl rfl (by kernel_rfl) (fun _ _ _ h => h) (Or.inl ⟨by rfl, ?_⟩) ?_ ?_
  rotate_left
  · intro w'
    go_simp
    with_reducible rfl
  rotate_left
  · simp only [Act.put, List.setIfInBounds_toArray, List.set_cons_zero, List.set_cons_succ, i64_w, i32_w]
    rfl
  refine pure_ (i := 9) (N := some 58) (v := ?_) (a' := ?_) #[true, false, false, true, true, true, true, false, true, true, false, false, false, false, false, false, false, false, false, false, false, false, false, false] rfl rfl (by kernel_rfl) (fun _ _ _ h => h) (Or.inl ⟨by rfl, ?_⟩) ?_ ?_
  rotate_left
  · intro w'
    go_simp
    with_reducible rfl
  rotate_left
  · simp only [Act.put, List.setIfInBounds_toArray, List.set_cons_zero, List.set_cons_succ, i64_w, i32_w]
    rfl
  refine pure_ (i := 10) (N := some 59) (v := ?_) (a' := ?_) #[true, false, false, true, true, true, true, false, true, true, true, false, false, false, false, false, false, false, false, false, false, false, false, false] rfl rfl (by kernel_rfl) (fun _ _ _ h => h) (Or.inl ⟨by rfl, ?_⟩) ?_ ?_
  rotate_left
  · intro w'
    go_simp
    with_reducible rfl
  rotate_left
  · simp only [Act.put, List.setIfInBounds_toArray, List.set_cons_zero, List.set_cons_succ, i64_w, i32_w]
    rfl
  refine pure_ (i := 11) (N := some 60) (v := ?_) (a' := ?_) #[true, false, false, true, true, true, true, false, true, true, true, true, false, false, false, false, false, false, false, false, false, false, false, false] rfl rfl (by kernel_rfl) (fun _ _ _ h => h) (Or.inl ⟨by rfl, ?_⟩) ?_ ?_
  rotate_left
  · intro w'
    go_simp
    with_reducible rfl
  rotate_left
  · simp only [Act.put, List.setIfInBounds_toArray, List.set_cons_zero, List.set_cons_succ, i64_w, i32_w]
    rfl
  refine pure_ (i := 13) (N := some 62) (v := ?_) (a' := ?_) #[true, false, false, true, true, true, true, false, true, true, true, true, false, true, false, false, false, false, false, false, false, false, false, false] rfl rfl (by kernel_rfl) (fun _ _ _ h => h) (Or.inl ⟨by rfl, ?_⟩) ?_ ?_
  rotate_left
  · intro w'
    go_simp
    with_reducible rfl
  rotate_left
  · simp only [Act.put, List.setIfInBounds_toArray, List.set_cons_zero, List.set_cons_succ, i64_w, i32_w]
    rfl
  refine pure_ (i := 14) (N := some 63) (v := ?_) (a' := ?_) #[true, false, false, true, true, true, true, false, true, true, true, true, false, true, true, false, false, false, false, false, false, false, false, false] rfl rfl (by kernel_rfl) (fun _ _ _ h => h) (Or.inl ⟨by rfl, ?_⟩) ?_ ?_
  rotate_left
  · intro w'
    go_simp
    with_reducible rfl
  rotate_left
  · simp only [Act.put, List.setIfInBounds_toArray, List.set_cons_zero, List.set_cons_succ, i64_w, i32_w]
    rfl
  refine pure_ (i := 15) (N := some 64) (v := ?_) (a' := ?_) #[true, false, false, true, true, true, true, false, true, true, true, true, false, true, true, true, false, false, false, false, false, false, false, false] rfl rfl (by kernel_rfl) (fun _ _ _ h => h) (Or.inl ⟨by rfl, ?_⟩) ?_ ?_
  rotate_left
  · intro w'
    go_simp
    with_reducible rfl
  rotate_left
  · simp only [Act.put, List.setIfInBounds_toArray, List.set_cons_zero, List.set_cons_succ, i64_w, i32_w]
    rfl
  refine pure_ (i := 16) (N := some 65) (v := ?_) (a' := ?_) #[true, false, false, true, true, true, true, false, true, true, true, true, false, true, true, true, true, false, false, false, false, false, false, false] rfl rfl (by kernel_rfl) (fun _ _ _ h => h) (Or.inl ⟨by rfl, ?_⟩) ?_ ?_
  rotate_left
  · intro w'
    go_simp
    with_reducible rfl
  rotate_left
  · simp only [Act.put, List.setIfInBounds_toArray, List.set_cons_zero, List.set_cons_succ, i64_w, i32_w]
    rfl
  refine take_ (i := 7) (N := some 56) (v := ?_) (a' := ?_) #[true, false, false, true, true, true, true, true, true, true, true, true, false, true, true, true, true, false, false, false, false, false, false, false] rfl rfl (by kernel_rfl) (fun _ _ _ h => h) (Or.inl ⟨by rfl, ?_⟩) hHeld ?_ ?_
  rotate_left
  · rintro w' ⟨s0, s1⟩
    go_simp
    with_reducible rfl
  rotate_left
  · simp only [Act.put, List.setIfInBounds_toArray, List.set_cons_zero, List.set_cons_succ, i64_w, i32_w]
    rfl
  refine take_ (i := 12) (N := some 61) (v := ?_) (a' := ?_) #[true, false, false, true, true, true, true, true, true, true, true, true, true, true, true, true, true, false, false, false, false, false, false, false] rfl rfl (by kernel_rfl) (fun _ _ _ h => h) (Or.inl ⟨by rfl, ?_⟩) hHeld ?_ ?_
  rotate_left
  · rintro w' ⟨s0, s1⟩
    go_simp
    with_reducible rfl
  rotate_left
  · simp only [Act.put, List.setIfInBounds_toArray, List.set_cons_zero, List.set_cons_succ, i64_w, i32_w]
    rfl
  refine take_ (i := 17) (N := some 66) (v := ?_) (a' := ?_) #[true, false, false, true, true, true, true, true, true, true, true, true, true, true, true, true, true, true, false, false, false, false, false, false] rfl rfl (by kernel_rfl) (fun _ _ _ h => h) (Or.inl ⟨by rfl, ?_⟩) hHeld ?_ ?_
  rotate_left
  · rintro w' ⟨s0, s1⟩
    go_simp
    with_reducible rfl
  rotate_left
  · simp only [Act.put, List.setIfInBounds_toArray, List.set_cons_zero, List.set_cons_succ, i64_w, i32_w]
    rfl
  refine pure_ (i := 18) (N := some 67) (v := ?_) (a' := ?_) #[true, false, false, true, true, true, true, true, true, true, true, true, true, true, true, true, true, true, true, false, false, false, false, false] rfl rfl (by kernel_rfl) (fun _ _ _ h => h) (Or.inl ⟨by rfl, ?_⟩) ?_ ?_
  rotate_left
  · intro w'
    go_simp
    with_reducible rfl
  rotate_left
  · simp only [Act.put, List.setIfInBounds_toArray, List.set_cons_zero, List.set_cons_succ, i64_w, i32_w]
    rfl
  refine pure_ (i := 19) (N := some 68) (v := ?_) (a' := ?_) #[true, false, false, true, true, true, true, true, true, true, true, true, true, true, true, true, true, true, true, true, false, false, false, false] rfl rfl (by kernel_rfl) (fun _ _ _ h => h) (Or.inl ⟨by rfl, ?_⟩) ?_ ?_
  rotate_left
  · intro w'
    go_simp
    with_reducible rfl
  rotate_left
  · simp only [Act.put, List.setIfInBounds_toArray, List.set_cons_zero, List.set_cons_succ, i64_w, i32_w]
    rfl
  refine one_ (i := 1) (N := some 50) #[true, true, false, true, true, true, true, true, true, true, true, true, true, true, true, true, true, true, true, true, false, false, false, false] rfl rfl (by kernel_rfl) (by decide) (fun K hK => ?_)
  refine goes_ Tryd.func63 (by kernel_rfl) rfl #[.string ⟨#[40, 41, 59]⟩, .int .u8 (bt s (i : Int))] (by rfl) rfl rfl (by simp only [List.map_toArray, List.map_cons, List.map_nil]; rfl) ?_
  with_reducible refine (HQ.out _).mono ?_
  rintro e w' ⟨rfl, rfl⟩
  refine ⟨_, rfl, ?_⟩
  refine hK.out _ _ ⟨hHeld.1, hHeld.2⟩ (fun hHeld => ?_)
  clear hK K
  refine norm_ (a' := ?_) ?_ ?_
  rotate_left
  · show Act.put _ (some 50) _ = _
    simp only [Act.put, List.setIfInBounds_toArray, List.set_cons_zero, List.set_cons_succ, i64_w, i32_w]
    rfl
  refine pure_ (i := 2) (N := some 51) (v := ?_) (a' := ?_) #[true, true, true, true, true, true, true, true, true, true, true, true, true, true, true, true, true, true, true, true, false, false, false, false] rfl rfl (by kernel_rfl) (fun _ _ _ h => h) (Or.inl ⟨by rfl, ?_⟩) ?_ ?_
  rotate_left
  · intro w'
    go_simp
    with_reducible rfl
  rotate_left
  · simp only [Act.put, List.setIfInBounds_toArray, List.set_cons_zero, List.set_cons_succ, i64_w, i32_w]
    rfl
  refine pure_ (i := 20) (N := some 69) (v := ?_) (a' := ?_) #[true, true, true, true, true, true, true, true, true, true, true, true, true, true, true, true, true, true, true, true, true, false, false, false] rfl rfl (by kernel_rfl) (fun _ _ _ h => h) (Or.inl ⟨by rfl, ?_⟩) ?_ ?_
  rotate_left
  · intro w'
    go_simp
    with_reducible rfl
  rotate_left
  · simp only [Act.put, List.setIfInBounds_toArray, List.set_cons_zero, List.set_cons_succ, i64_w, i32_w]
    rfl
  refine one_ (i := 21) (N := none) #[true, true, true, true, true, true, true, true, true, true, true, true, true, true, true, true, true, true, true, true, true, true, false, false] rfl rfl (by kernel_rfl) (by decide) (fun K hK => ?_)
  refine skip_ (w1 := ?_) (by rfl) rfl ?_ ?_
  rotate_left
  · go_simp
    rfl
  refine hK.out _ _ ⟨(Blk.c0 (blk_far (blk_drew HB1.out) (Ne.symm hne) _)), (Blk.c1 (blk_far (blk_drew HB1.out) (Ne.symm hne) _))⟩ (fun hHeld => ?_)
  clear hK K
  refine pure_ (i := 22) (N := some 70) (v := ?_) (a' := ?_) #[true, true, true, true, true, true, true, true, true, true, true, true, true, true, true, true, true, true, true, true, true, true, true, false] rfl rfl (by kernel_rfl) (fun _ _ _ h => h) (Or.inl ⟨by rfl, ?_⟩) ?_ ?_
  rotate_left
  · intro w'
    go_simp
    with_reducible rfl
  rotate_left
  · simp only [Act.put, List.setIfInBounds_toArray, List.set_cons_zero, List.set_cons_succ, i64_w, i32_w]
    rfl
  refine one_ (i := 23) (N := none) #[true, true, true, true, true, true, true, true, true, true, true, true, true, true, true, true, true, true, true, true, true, true, true, true] rfl rfl (by kernel_rfl) (by decide) (fun K hK => ?_)
  refine skip_ (w1 := ?_) (by rfl) rfl ?_ ?_
  rotate_left
  · go_simp
    rfl
  refine hK.out _ _ ⟨(Blk.c0 (blk_far (blk_far (blk_drew HB1.out) (Ne.symm hne) _) (Ne.symm hne) _)), (Blk.c1 (blk_far (blk_far (blk_drew HB1.out) (Ne.symm hne) _) (Ne.symm hne) _))⟩ (fun hHeld => ?_)
  clear hK K
  refine done_ (by kernel_rfl) ?_

  clear hz3 hz4 hz5 hz6 hz7
  go_wp2
  simp only [show wrap64 3 = (3 : Int) from by unfold wrap64; omega]
  have hT3 : ((((W1.setCell ⟨w.heap.size, 0, none⟩ (.int .i64 3)).setCell ⟨w.heap.size, 2, none⟩ (.string (s.extract i (i + 1)))).setCell ⟨g, 1, none⟩ (.int .i64 ((i : Int) + 1))).drew).heap[w.heap.size]? = some (.cells #[.int .i64 3, .int .i64 i, .string (s.extract i (i + 1))] 40 (0, 0)) :=
    blk_drew (blk_far (blk_put (blk_put HT1.out 0 (.int .i64 3) rfl) 2 (.string (s.extract i (i + 1))) rfl) hne _)
  have hB3 : Blk ((((W1.setCell ⟨w.heap.size, 0, none⟩ (.int .i64 3)).setCell ⟨w.heap.size, 2, none⟩ (.string (s.extract i (i + 1)))).setCell ⟨g, 1, none⟩ (.int .i64 ((i : Int) + 1))).drew) g s ((i : Int) + 1) L := blk_drew (Blk.at1 (blk_far (blk_far HB1.out (Ne.symm hne) _) (Ne.symm hne) _) _)
  have hO3 : Kd.R k40 40 ((((W1.setCell ⟨w.heap.size, 0, none⟩ (.int .i64 3)).setCell ⟨w.heap.size, 2, none⟩ (.string (s.extract i (i + 1)))).setCell ⟨g, 1, none⟩ (.int .i64 ((i : Int) + 1))).drew) base (fun k => k ≠ g) L ts :=
    Kd.R_mono (Kd.R_drew (Kd.R_far (Kd.R_far (Kd.R_far HO1.out (p := ⟨w.heap.size, 0, none⟩) (fun k hk => hk.2) _) (p := ⟨w.heap.size, 2, none⟩) (fun k hk => hk.2) _) (p := ⟨g, 1, none⟩) (fun k hk => hk.1) _)) (fun k hk => hk.1)
  have hW3 : Below base w ((((W1.setCell ⟨w.heap.size, 0, none⟩ (.int .i64 3)).setCell ⟨w.heap.size, 2, none⟩ (.string (s.extract i (i + 1)))).setCell ⟨g, 1, none⟩ (.int .i64 ((i : Int) + 1))).drew) := (((HW1.out.setCell (by simp; omega) _).setCell (by simp; omega) _).setCell (by simpa using hbase) _).drew
  clear t0 t2 tf0 tf2 d0 d1 df1 hne
  generalize ((((W1.setCell ⟨w.heap.size, 0, none⟩ (.int .i64 3)).setCell ⟨w.heap.size, 2, none⟩ (.string (s.extract i (i + 1)))).setCell ⟨g, 1, none⟩ (.int .i64 ((i : Int) + 1))).drew) = W3 at hT3 hB3 hO3 hW3 ⊢
  have HT3 := Aside0.mk hT3
  have HB3 := Aside0.mk hB3
  have HO3 := Aside0.mk hO3
  have HW3 := Aside0.mk hW3
  have t0 := (blk_cell hT3 0).trans rfl
  have t1 := (blk_cell hT3 1).trans rfl
  have t2 := (blk_cell hT3 2).trans rfl
  have d2 := hB3.c2
  have df := hB3.fr 2
  have hg3 := blk_lt hB3
  have hb3 := blk_lt hT3
  have hne : g ≠ w.heap.size := by omega
  clear hT3 hB3 hO3 hW3
  have hbase3 : base ≤ W3.heap.size := by omega
  go_region_law ((refine app_tok base g (by rfl) (.tmp 84) (.tmp 86) rfl L ts (⟨3, i, s.extract i (i + 1)⟩ : Tk) ?aV ?aX ?aG ?aO ?aS ?aL ?_; (case aV => first | rfl | (simp [Act.eval])); (case aX => first | rfl | (simp [Act.eval])); (case aG => exact hg3); (case aO => exact HO3.out); (case aS => exact hbase3); (case aL => omega); intro v1 w1 ho hb1 hg1; obtain ⟨A1, k1, e1⟩ := Kd.R_slice ho; subst e1; have hB4 : Blk w1 g s ((i : Int) + 1) L := blk_grown (blk_drew HB3.out) hg1 (Kd.R_away HO3.out (fun k hk => hk)); have f1' := hB4.fr 2; have c2' := hB4.c2; have HO4 := Aside0.mk ho; have HB4 := Aside0.mk hB4; have HW4 := Aside0.mk (HW3.out.trans hb1); clear ho hb1 hg1 hB4))
  all_goals
    go_wp2
    go_ret
    refine ⟨rfl, _, ?_, Kd.R_far HO4.out (fun k hk => hk) _, HW4.out.setCell (by simp; omega) _⟩
    have := blk_set HB4.out 2 (.slice A1 (ts ++ [(⟨3, i, s.extract i (i + 1)⟩ : Tk)]).length k1)
    simpa [Blk] using this
set_option maxHeartbeats 4000000 in
set_option maxRecDepth 100000 in
theorem token_p41 (s : ByteArray) (i : Nat) (L : Value) (ts : List Tk) (g base : Nat) (w : World) (hs : s.size ≤ 140737488351232) (hi : i < s.size) (hb : Blk w g s i L)
    (hO : Kd.R k40 40 w base (fun k => k ≠ g) L ts) (hbase : base ≤ g) (hts : ts.length ≤ 1000000000) (hl : pLetter (bt s i) = false) (q : bt s (i : Int) = 41) :
    Calls Tryd.prog 37 #[.pointer (some ⟨g, 0, none⟩)] w fun e w' =>
      e = .returned (.bool true) ∧ ∃ L', Blk w' g s ((i : Int) + 1) L' ∧ Kd.R k40 40 w' base (fun k => k ≠ g) L' (ts ++ [⟨4, i, s.extract i (i + 1)⟩]) ∧ Below base w w' := by
  have hg := blk_lt hb
  have c0 := hb.c0
  have c1 := hb.c1
  have hr := bt_range s (i : Int)
  have HLT := Aside0.mk (show ∀ W : World, Calls Tryd.prog 60 #[.int .u8 (bt s (i : Int))] W fun e w' => e = .returned (.bool false) ∧ Drawn0 W w' from fun W => lex_letter.calls _ _ W ((pLetter_some _ hr.1 hr.2).trans (by rw [hl])))
  have hlt2 : (i : Int) < (s.size : Int) := by omega
  have hx : ∀ h : i < s.size, ((s[i]'h).toNat : Int) = bt s (i : Int) := fun h => bt_at s (i : Int) h
  have b34 : (bt s (i : Int) == 34) = false := by rw [q]; rfl
  have b40 : (bt s (i : Int) == 40) = false := by rw [q]; rfl
  have b41 : (bt s (i : Int) == 41) = true := by rw [q]; rfl
  have b59 : (bt s (i : Int) == 59) = false := by rw [q]; rfl
  have HQ := Aside0.mk (show ∀ W : World, Calls Tryd.prog 63 #[.string ⟨#[40, 41, 59]⟩, .int .u8 (bt s (i : Int))] W fun e w' => e = .returned (.int .i64 1) ∧ w' = W from fun W => by rw [q]; exact Tryd.strings_IndexByte _ _ W)
  clear q
  have HB := Aside0.mk hb
  have HS := Aside0.mk hs
  have HO := Aside0.mk hO
  have HG0 := Aside0.mk hg
  have hu := Tryd.underlying40
  clear hb hO hl
  go_enter Tryd.func37, Tryd.ntmps37
  go_wp2
  go_quiet (fail)
  go_wp2_with fail
  refine (HLT.out _).mono ?_
  rintro e w' ⟨rfl, ⟨n, rfl⟩⟩
  have hne : w.heap.size ≠ g := by omega
  have hz1 : (i : Int) ≤ (i : Int) + 1 := by omega
  have hz2 : (i : Int) + 1 ≤ (s.size : Int) := by omega
  go_wp2
  have hT1 : ((w.alloc (.cells #[.int .i64 0, .int .i64 i, .string ⟨#[]⟩] 40)).drewN (nq + n)).heap[w.heap.size]? = some (.cells #[.int .i64 0, .int .i64 i, .string ⟨#[]⟩] 40 (0, 0)) := blk_drewN (blk_new w _) _
  have hb1 : Blk ((w.alloc (.cells #[.int .i64 0, .int .i64 i, .string ⟨#[]⟩] 40)).drewN (nq + n)) g s i L := blk_drewN (blk_alloc HB.out _) _
  have ho1 : Kd.R k40 40 ((w.alloc (.cells #[.int .i64 0, .int .i64 i, .string ⟨#[]⟩] 40)).drewN (nq + n)) base (fun k => k ≠ g ∧ k ≠ w.heap.size) L ts := Kd.R_mono (Kd.R_drewN (Kd.R_alloc (Kd.R_bound HO.out) _) _) (fun k hk => ⟨hk.1, Nat.ne_of_lt hk.2.2.1⟩)
  have hw1 : Below base w ((w.alloc (.cells #[.int .i64 0, .int .i64 i, .string ⟨#[]⟩] 40)).drewN (nq + n)) := (pw_below_drewN (below_alloc (Below.refl w.heap.size w) _) _).mono (by omega)
  generalize ((w.alloc (.cells #[.int .i64 0, .int .i64 i, .string ⟨#[]⟩] 40)).drewN (nq + n)) = W1 at hT1 hb1 ho1 hw1 ⊢
  clear c0 c1
  have d0 := hb1.c0
  have d1 := hb1.c1
  have df1 := hb1.fr 1
  have t0 := (blk_cell hT1 0).trans rfl
  have t2 := (blk_cell hT1 2).trans rfl
  have tf0 := blk_frozen hT1 0
  have tf2 := blk_frozen hT1 2
  have HT1 := Aside0.mk hT1
  have HB1 := Aside0.mk hb1
  have HO1 := Aside0.mk ho1
  have HW1 := Aside0.mk hw1
  clear hT1 hb1 ho1 hw1
  have hz3 : i ≤ i + 1 := by omega
  have hz4 : i + 1 ≤ s.size := by omega
  have hz5 : (0 : Int) ≤ (i : Int) + 1 := by omega
  have hz6 : ((i : Int) + 1).toNat = i + 1 := by omega
  have hz7 : IntKind.i64.wrap ((i : Int) + 1) = (i : Int) + 1 := IntWalk.i64_in _ (by omega)
  refine start_ (n := 24) (S := fun w' => w'.cell? ⟨g, 0, none⟩ = some (.string s) ∧ w'.cell? ⟨g, 1, none⟩ = some (.int .i64 i)) (ds := []) #[false, false, false, false, false, false, false, false, false, false, false, false, false, false, false, false, false, false, false, false, false, false, false, false] (by kernel_rfl) rfl rfl ⟨d0, d1⟩ (fun hHeld => ?_)
  refine pure_ (i := 0) (N := some 49) (v := ?_) (a' := ?_) #[true, false, false, false, false, false, false, false, false, false, false, false, false, false, false, false, false, false, false, false, false, false, false, false] rfl rfl (by kernel_rfl) (fun _ _ _ h => h) (Or.inl ⟨by rfl, ?_⟩) ?_ ?_
  rotate_left
  · intro w'
    go_simp
    with_reducible rfl
  rotate_left
  · simp only [Act.put, List.setIfInBounds_toArray, List.set_cons_zero, List.set_cons_succ, i64_w, i32_w]
    rfl
  refine pure_ (i := 3) (N := some 52) (v := ?_) (a' := ?_) #[true, false, false, true, false, false, false, false, false, false, false, false, false, false, false, false, false, false, false, false, false, false, false, false] rfl rfl (by kernel_rfl) (fun _ _ _ h => h) (Or.inl ⟨by rfl, ?_⟩) ?_ ?_
  rotate_left
  · intro w'
    go_simp
    with_reducible rfl
  rotate_left
  · simp only [Act.put, List.setIfInBounds_toArray, List.set_cons_zero, List.set_cons_succ, i64_w, i32_w]
    rfl
  refine pure_ (i := 4) (N := some 53) (v := ?_) (a' := ?_) #[true, false, false, true, true, false, false, false, false, false, false, false, false, false, false, false, false, false, false, false, false, false, false, false] rfl rfl (by kernel_rfl) (fun _ _ _ h => h) (Or.inl ⟨by rfl, ?_⟩) ?_ ?_
  rotate_left
  · intro w'
    go_simp
    with_reducible rfl
  rotate_left
  · simp only [Act.put, List.setIfInBounds_toArray, List.set_cons_zero, List.set_cons_succ, i64_w, i32_w]
    rfl
  refine pure_ (i := 5) (N := some 54) (v := ?_) (a' := ?_) #[true, false, false, true, true, true, false, false, false, false, false, false, false, false, false, false, false, false, false, false, false, false, false, false] rfl rfl (by kernel_rfl) (fun _ _ _ h => h) (Or.inl ⟨by rfl, ?_⟩) ?_ ?_
  rotate_left
  · intro w'
    go_simp
    with_reducible rfl
  rotate_left
  · simp only [Act.put, List.setIfInBounds_toArray, List.set_cons_zero, List.set_cons_succ, i64_w, i32_w]
    rfl
  refine pure_ (i := 6) (N := some 55) (v := ?_) (a' := ?_) #[true, false, false, true, true, true, true, false, false, false, false, false, false, false, false, false, false, false, false, false, false, false, false, false] rfl rfl (by kernel_rfl) (fun _ _ _ h => h) (Or.inl ⟨by rfl, ?_⟩) ?_ ?_
  rotate_left
  · intro w'
    go_simp
    with_reducible rfl
  rotate_left
  · simp only [Act.put, List.setIfInBounds_toArray, List.set_cons_zero, List.set_cons_succ, i64_w, i32_w]
    rfl
  refine pure_ (i := 8) (N := some 57) (v := ?_) (a' := ?_) #[true, false, false, true, true, true, true, false, true, false, false, false, false, false, false, false, false, false, false, false, false, false, false, false] rfl rfl (by kernel_rfl) (fun _ _ _ h => h) (Or.inl ⟨by rfl, ?_⟩) ?_ ?_
  rotate_left
  · intro w'
    go_simp
    with_reducible rfl
  rotate_left
  · simp only [Act.put, List.setIfInBounds_toArray, List.set_cons_zero, List.set_cons_succ, i64_w, i32_w]
    rfl
  refine pure_ (i := 9) (N := some 58) (v := ?_) (a' := ?_) #[true, false, false, true, true, true, true, false, true, true, false, false, false, false, false, false, false, false, false, false, false, false, false, false] rfl rfl (by kernel_rfl) (fun _ _ _ h => h) (Or.inl ⟨by rfl, ?_⟩) ?_ ?_
  rotate_left
  · intro w'
    go_simp
    with_reducible rfl
  rotate_left
  · simp only [Act.put, List.setIfInBounds_toArray, List.set_cons_zero, List.set_cons_succ, i64_w, i32_w]
    rfl
  refine pure_ (i := 10) (N := some 59) (v := ?_) (a' := ?_) #[true, false, false, true, true, true, true, false, true, true, true, false, false, false, false, false, false, false, false, false, false, false, false, false] rfl rfl (by kernel_rfl) (fun _ _ _ h => h) (Or.inl ⟨by rfl, ?_⟩) ?_ ?_
  rotate_left
  · intro w'
    go_simp
    with_reducible rfl
  rotate_left
  · simp only [Act.put, List.setIfInBounds_toArray, List.set_cons_zero, List.set_cons_succ, i64_w, i32_w]
    rfl
  refine pure_ (i := 11) (N := some 60) (v := ?_) (a' := ?_) #[true, false, false, true, true, true, true, false, true, true, true, true, false, false, false, false, false, false, false, false, false, false, false, false] rfl rfl (by kernel_rfl) (fun _ _ _ h => h) (Or.inl ⟨by rfl, ?_⟩) ?_ ?_
  rotate_left
  · intro w'
    go_simp
    with_reducible rfl
  rotate_left
  · simp only [Act.put, List.setIfInBounds_toArray, List.set_cons_zero, List.set_cons_succ, i64_w, i32_w]
    rfl
  refine pure_ (i := 13) (N := some 62) (v := ?_) (a' := ?_) #[true, false, false, true, true, true, true, false, true, true, true, true, false, true, false, false, false, false, false, false, false, false, false, false] rfl rfl (by kernel_rfl) (fun _ _ _ h => h) (Or.inl ⟨by rfl, ?_⟩) ?_ ?_
  rotate_left
  · intro w'
    go_simp
    with_reducible rfl
  rotate_left
  · simp only [Act.put, List.setIfInBounds_toArray, List.set_cons_zero, List.set_cons_succ, i64_w, i32_w]
    rfl
  refine pure_ (i := 14) (N := some 63) (v := ?_) (a' := ?_) #[true, false, false, true, true, true, true, false, true, true, true, true, false, true, true, false, false, false, false, false, false, false, false, false] rfl rfl (by kernel_rfl) (fun _ _ _ h => h) (Or.inl ⟨by rfl, ?_⟩) ?_ ?_
  rotate_left
  · intro w'
    go_simp
    with_reducible rfl
  rotate_left
  · simp only [Act.put, List.setIfInBounds_toArray, List.set_cons_zero, List.set_cons_succ, i64_w, i32_w]
    rfl
  refine pure_ (i := 15) (N := some 64) (v := ?_) (a' := ?_) #[true, false, false, true, true, true, true, false, true, true, true, true, false, true, true, true, false, false, false, false, false, false, false, false] rfl rfl (by kernel_rfl) (fun _ _ _ h => h) (Or.inl ⟨by rfl, ?_⟩) ?_ ?_
  rotate_left
  · intro w'
    go_simp
    with_reducible rfl
  rotate_left
  · simp only [Act.put, List.setIfInBounds_toArray, List.set_cons_zero, List.set_cons_succ, i64_w, i32_w]
    rfl
  refine pure_ (i := 16) (N := some 65) (v := ?_) (a' := ?_) #[true, false, false, true, true, true, true, false, true, true, true, true, false, true, true, true, true, false, false, false, false, false, false, false] rfl rfl (by kernel_rfl) (fun _ _ _ h => h) (Or.inl ⟨by rfl, ?_⟩) ?_ ?_
  rotate_left
  · intro w'
    go_simp
    with_reducible rfl
  rotate_left
  · simp only [Act.put, List.setIfInBounds_toArray, List.set_cons_zero, List.set_cons_succ, i64_w, i32_w]
    rfl
  refine take_ (i := 7) (N := some 56) (v := ?_) (a' := ?_) #[true, false, false, true, true, true, true, true, true, true, true, true, false, true, true, true, true, false, false, false, false, false, false, false] rfl rfl (by kernel_rfl) (fun _ _ _ h => h) (Or.inl ⟨by rfl, ?_⟩) hHeld ?_ ?_
  rotate_left
  · rintro w' ⟨s0, s1⟩
    go_simp
    with_reducible rfl
  rotate_left
  · simp only [Act.put, List.setIfInBounds_toArray, List.set_cons_zero, List.set_cons_succ, i64_w, i32_w]
    rfl
  refine take_ (i := 12) (N := some 61) (v := ?_) (a' := ?_) #[true, false, false, true, true, true, true, true, true, true, true, true, true, true, true, true, true, false, false, false, false, false, false, false] rfl rfl (by kernel_rfl) (fun _ _ _ h => h) (Or.inl ⟨by rfl, ?_⟩) hHeld ?_ ?_
  rotate_left
  · rintro w' ⟨s0, s1⟩
    go_simp
    with_reducible rfl
  rotate_left
  · simp only [Act.put, List.setIfInBounds_toArray, List.set_cons_zero, List.set_cons_succ, i64_w, i32_w]
    rfl
  refine take_ (i := 17) (N := some 66) (v := ?_) (a' := ?_) #[true, false, false, true, true, true, true, true, true, true, true, true, true, true, true, true, true, true, false, false, false, false, false, false] rfl rfl (by kernel_rfl) (fun _ _ _ h => h) (Or.inl ⟨by rfl, ?_⟩) hHeld ?_ ?_
  rotate_left
  · rintro w' ⟨s0, s1⟩
    go_simp
    with_reducible rfl
  rotate_left
  · simp only [Act.put, List.setIfInBounds_toArray, List.set_cons_zero, List.set_cons_succ, i64_w, i32_w]
    rfl
  refine pure_ (i := 18) (N := some 67) (v := ?_) (a' := ?_) #[true, false, false, true, true, true, true, true, true, true, true, true, true, true, true, true, true, true, true, false, false, false, false, false] rfl rfl (by kernel_rfl) (fun _ _ _ h => h) (Or.inl ⟨by rfl, ?_⟩) ?_ ?_
  rotate_left
  · intro w'
    go_simp
    with_reducible rfl
  rotate_left
  · simp only [Act.put, List.setIfInBounds_toArray, List.set_cons_zero, List.set_cons_succ, i64_w, i32_w]
    rfl
  refine pure_ (i := 19) (N := some 68) (v := ?_) (a' := ?_) #[true, false, false, true, true, true, true, true, true, true, true, true, true, true, true, true, true, true, true, true, false, false, false, false] rfl rfl (by kernel_rfl) (fun _ _ _ h => h) (Or.inl ⟨by rfl, ?_⟩) ?_ ?_
  rotate_left
  · intro w'
    go_simp
    with_reducible rfl
  rotate_left
  · simp only [Act.put, List.setIfInBounds_toArray, List.set_cons_zero, List.set_cons_succ, i64_w, i32_w]
    rfl
  refine one_ (i := 1) (N := some 50) #[true, true, false, true, true, true, true, true, true, true, true, true, true, true, true, true, true, true, true, true, false, false, false, false] rfl rfl (by kernel_rfl) (by decide) (fun K hK => ?_)
  refine goes_ Tryd.func63 (by kernel_rfl) rfl #[.string ⟨#[40, 41, 59]⟩, .int .u8 (bt s (i : Int))] (by rfl) rfl rfl (by simp only [List.map_toArray, List.map_cons, List.map_nil]; rfl) ?_
  with_reducible refine (HQ.out _).mono ?_
  rintro e w' ⟨rfl, rfl⟩
  refine ⟨_, rfl, ?_⟩
  refine hK.out _ _ ⟨hHeld.1, hHeld.2⟩ (fun hHeld => ?_)
  clear hK K
  refine norm_ (a' := ?_) ?_ ?_
  rotate_left
  · show Act.put _ (some 50) _ = _
    simp only [Act.put, List.setIfInBounds_toArray, List.set_cons_zero, List.set_cons_succ, i64_w, i32_w]
    rfl
  refine pure_ (i := 2) (N := some 51) (v := ?_) (a' := ?_) #[true, true, true, true, true, true, true, true, true, true, true, true, true, true, true, true, true, true, true, true, false, false, false, false] rfl rfl (by kernel_rfl) (fun _ _ _ h => h) (Or.inl ⟨by rfl, ?_⟩) ?_ ?_
  rotate_left
  · intro w'
    go_simp
    with_reducible rfl
  rotate_left
  · simp only [Act.put, List.setIfInBounds_toArray, List.set_cons_zero, List.set_cons_succ, i64_w, i32_w]
    rfl
  refine pure_ (i := 20) (N := some 69) (v := ?_) (a' := ?_) #[true, true, true, true, true, true, true, true, true, true, true, true, true, true, true, true, true, true, true, true, true, false, false, false] rfl rfl (by kernel_rfl) (fun _ _ _ h => h) (Or.inl ⟨by rfl, ?_⟩) ?_ ?_
  rotate_left
  · intro w'
    go_simp
    with_reducible rfl
  rotate_left
  · simp only [Act.put, List.setIfInBounds_toArray, List.set_cons_zero, List.set_cons_succ, i64_w, i32_w]
    rfl
  refine one_ (i := 21) (N := none) #[true, true, true, true, true, true, true, true, true, true, true, true, true, true, true, true, true, true, true, true, true, true, false, false] rfl rfl (by kernel_rfl) (by decide) (fun K hK => ?_)
  refine skip_ (w1 := ?_) (by rfl) rfl ?_ ?_
  rotate_left
  · go_simp
    rfl
  refine hK.out _ _ ⟨(Blk.c0 (blk_far (blk_drew HB1.out) (Ne.symm hne) _)), (Blk.c1 (blk_far (blk_drew HB1.out) (Ne.symm hne) _))⟩ (fun hHeld => ?_)
  clear hK K
  refine pure_ (i := 22) (N := some 70) (v := ?_) (a' := ?_) #[true, true, true, true, true, true, true, true, true, true, true, true, true, true, true, true, true, true, true, true, true, true, true, false] rfl rfl (by kernel_rfl) (fun _ _ _ h => h) (Or.inl ⟨by rfl, ?_⟩) ?_ ?_
  rotate_left
  · intro w'
    go_simp
    with_reducible rfl
  rotate_left
  · simp only [Act.put, List.setIfInBounds_toArray, List.set_cons_zero, List.set_cons_succ, i64_w, i32_w]
    rfl
  refine one_ (i := 23) (N := none) #[true, true, true, true, true, true, true, true, true, true, true, true, true, true, true, true, true, true, true, true, true, true, true, true] rfl rfl (by kernel_rfl) (by decide) (fun K hK => ?_)
  refine skip_ (w1 := ?_) (by rfl) rfl ?_ ?_
  rotate_left
  · go_simp
    rfl
  refine hK.out _ _ ⟨(Blk.c0 (blk_far (blk_far (blk_drew HB1.out) (Ne.symm hne) _) (Ne.symm hne) _)), (Blk.c1 (blk_far (blk_far (blk_drew HB1.out) (Ne.symm hne) _) (Ne.symm hne) _))⟩ (fun hHeld => ?_)
  clear hK K
  refine done_ (by kernel_rfl) ?_

  clear hz3 hz4 hz5 hz6 hz7
  go_wp2
  simp only [show wrap64 4 = (4 : Int) from by unfold wrap64; omega]
  have hT3 : ((((W1.setCell ⟨w.heap.size, 0, none⟩ (.int .i64 4)).setCell ⟨w.heap.size, 2, none⟩ (.string (s.extract i (i + 1)))).setCell ⟨g, 1, none⟩ (.int .i64 ((i : Int) + 1))).drew).heap[w.heap.size]? = some (.cells #[.int .i64 4, .int .i64 i, .string (s.extract i (i + 1))] 40 (0, 0)) :=
    blk_drew (blk_far (blk_put (blk_put HT1.out 0 (.int .i64 4) rfl) 2 (.string (s.extract i (i + 1))) rfl) hne _)
  have hB3 : Blk ((((W1.setCell ⟨w.heap.size, 0, none⟩ (.int .i64 4)).setCell ⟨w.heap.size, 2, none⟩ (.string (s.extract i (i + 1)))).setCell ⟨g, 1, none⟩ (.int .i64 ((i : Int) + 1))).drew) g s ((i : Int) + 1) L := blk_drew (Blk.at1 (blk_far (blk_far HB1.out (Ne.symm hne) _) (Ne.symm hne) _) _)
  have hO3 : Kd.R k40 40 ((((W1.setCell ⟨w.heap.size, 0, none⟩ (.int .i64 4)).setCell ⟨w.heap.size, 2, none⟩ (.string (s.extract i (i + 1)))).setCell ⟨g, 1, none⟩ (.int .i64 ((i : Int) + 1))).drew) base (fun k => k ≠ g) L ts :=
    Kd.R_mono (Kd.R_drew (Kd.R_far (Kd.R_far (Kd.R_far HO1.out (p := ⟨w.heap.size, 0, none⟩) (fun k hk => hk.2) _) (p := ⟨w.heap.size, 2, none⟩) (fun k hk => hk.2) _) (p := ⟨g, 1, none⟩) (fun k hk => hk.1) _)) (fun k hk => hk.1)
  have hW3 : Below base w ((((W1.setCell ⟨w.heap.size, 0, none⟩ (.int .i64 4)).setCell ⟨w.heap.size, 2, none⟩ (.string (s.extract i (i + 1)))).setCell ⟨g, 1, none⟩ (.int .i64 ((i : Int) + 1))).drew) := (((HW1.out.setCell (by simp; omega) _).setCell (by simp; omega) _).setCell (by simpa using hbase) _).drew
  clear t0 t2 tf0 tf2 d0 d1 df1 hne
  generalize ((((W1.setCell ⟨w.heap.size, 0, none⟩ (.int .i64 4)).setCell ⟨w.heap.size, 2, none⟩ (.string (s.extract i (i + 1)))).setCell ⟨g, 1, none⟩ (.int .i64 ((i : Int) + 1))).drew) = W3 at hT3 hB3 hO3 hW3 ⊢
  have HT3 := Aside0.mk hT3
  have HB3 := Aside0.mk hB3
  have HO3 := Aside0.mk hO3
  have HW3 := Aside0.mk hW3
  have t0 := (blk_cell hT3 0).trans rfl
  have t1 := (blk_cell hT3 1).trans rfl
  have t2 := (blk_cell hT3 2).trans rfl
  have d2 := hB3.c2
  have df := hB3.fr 2
  have hg3 := blk_lt hB3
  have hb3 := blk_lt hT3
  have hne : g ≠ w.heap.size := by omega
  clear hT3 hB3 hO3 hW3
  have hbase3 : base ≤ W3.heap.size := by omega
  go_region_law ((refine app_tok base g (by rfl) (.tmp 84) (.tmp 86) rfl L ts (⟨4, i, s.extract i (i + 1)⟩ : Tk) ?aV ?aX ?aG ?aO ?aS ?aL ?_; (case aV => first | rfl | (simp [Act.eval])); (case aX => first | rfl | (simp [Act.eval])); (case aG => exact hg3); (case aO => exact HO3.out); (case aS => exact hbase3); (case aL => omega); intro v1 w1 ho hb1 hg1; obtain ⟨A1, k1, e1⟩ := Kd.R_slice ho; subst e1; have hB4 : Blk w1 g s ((i : Int) + 1) L := blk_grown (blk_drew HB3.out) hg1 (Kd.R_away HO3.out (fun k hk => hk)); have f1' := hB4.fr 2; have c2' := hB4.c2; have HO4 := Aside0.mk ho; have HB4 := Aside0.mk hB4; have HW4 := Aside0.mk (HW3.out.trans hb1); clear ho hb1 hg1 hB4))
  all_goals
    go_wp2
    go_ret
    refine ⟨rfl, _, ?_, Kd.R_far HO4.out (fun k hk => hk) _, HW4.out.setCell (by simp; omega) _⟩
    have := blk_set HB4.out 2 (.slice A1 (ts ++ [(⟨4, i, s.extract i (i + 1)⟩ : Tk)]).length k1)
    simpa [Blk] using this
set_option maxHeartbeats 4000000 in
set_option maxRecDepth 100000 in
theorem token_p59 (s : ByteArray) (i : Nat) (L : Value) (ts : List Tk) (g base : Nat) (w : World) (hs : s.size ≤ 140737488351232) (hi : i < s.size) (hb : Blk w g s i L)
    (hO : Kd.R k40 40 w base (fun k => k ≠ g) L ts) (hbase : base ≤ g) (hts : ts.length ≤ 1000000000) (hl : pLetter (bt s i) = false) (q : bt s (i : Int) = 59) :
    Calls Tryd.prog 37 #[.pointer (some ⟨g, 0, none⟩)] w fun e w' =>
      e = .returned (.bool true) ∧ ∃ L', Blk w' g s ((i : Int) + 1) L' ∧ Kd.R k40 40 w' base (fun k => k ≠ g) L' (ts ++ [⟨5, i, s.extract i (i + 1)⟩]) ∧ Below base w w' := by
  have hg := blk_lt hb
  have c0 := hb.c0
  have c1 := hb.c1
  have hr := bt_range s (i : Int)
  have HLT := Aside0.mk (show ∀ W : World, Calls Tryd.prog 60 #[.int .u8 (bt s (i : Int))] W fun e w' => e = .returned (.bool false) ∧ Drawn0 W w' from fun W => lex_letter.calls _ _ W ((pLetter_some _ hr.1 hr.2).trans (by rw [hl])))
  have hlt2 : (i : Int) < (s.size : Int) := by omega
  have hx : ∀ h : i < s.size, ((s[i]'h).toNat : Int) = bt s (i : Int) := fun h => bt_at s (i : Int) h
  have b34 : (bt s (i : Int) == 34) = false := by rw [q]; rfl
  have b40 : (bt s (i : Int) == 40) = false := by rw [q]; rfl
  have b41 : (bt s (i : Int) == 41) = false := by rw [q]; rfl
  have b59 : (bt s (i : Int) == 59) = true := by rw [q]; rfl
  have HQ := Aside0.mk (show ∀ W : World, Calls Tryd.prog 63 #[.string ⟨#[40, 41, 59]⟩, .int .u8 (bt s (i : Int))] W fun e w' => e = .returned (.int .i64 2) ∧ w' = W from fun W => by rw [q]; exact Tryd.strings_IndexByte _ _ W)
  clear q
  have HB := Aside0.mk hb
  have HS := Aside0.mk hs
  have HO := Aside0.mk hO
  have HG0 := Aside0.mk hg
  have hu := Tryd.underlying40
  clear hb hO hl
  go_enter Tryd.func37, Tryd.ntmps37
  go_wp2
  go_quiet (fail)
  go_wp2_with fail
  refine (HLT.out _).mono ?_
  rintro e w' ⟨rfl, ⟨n, rfl⟩⟩
  have hne : w.heap.size ≠ g := by omega
  have hz1 : (i : Int) ≤ (i : Int) + 1 := by omega
  have hz2 : (i : Int) + 1 ≤ (s.size : Int) := by omega
  go_wp2
  have hT1 : ((w.alloc (.cells #[.int .i64 0, .int .i64 i, .string ⟨#[]⟩] 40)).drewN (nq + n)).heap[w.heap.size]? = some (.cells #[.int .i64 0, .int .i64 i, .string ⟨#[]⟩] 40 (0, 0)) := blk_drewN (blk_new w _) _
  have hb1 : Blk ((w.alloc (.cells #[.int .i64 0, .int .i64 i, .string ⟨#[]⟩] 40)).drewN (nq + n)) g s i L := blk_drewN (blk_alloc HB.out _) _
  have ho1 : Kd.R k40 40 ((w.alloc (.cells #[.int .i64 0, .int .i64 i, .string ⟨#[]⟩] 40)).drewN (nq + n)) base (fun k => k ≠ g ∧ k ≠ w.heap.size) L ts := Kd.R_mono (Kd.R_drewN (Kd.R_alloc (Kd.R_bound HO.out) _) _) (fun k hk => ⟨hk.1, Nat.ne_of_lt hk.2.2.1⟩)
  have hw1 : Below base w ((w.alloc (.cells #[.int .i64 0, .int .i64 i, .string ⟨#[]⟩] 40)).drewN (nq + n)) := (pw_below_drewN (below_alloc (Below.refl w.heap.size w) _) _).mono (by omega)
  generalize ((w.alloc (.cells #[.int .i64 0, .int .i64 i, .string ⟨#[]⟩] 40)).drewN (nq + n)) = W1 at hT1 hb1 ho1 hw1 ⊢
  clear c0 c1
  have d0 := hb1.c0
  have d1 := hb1.c1
  have df1 := hb1.fr 1
  have t0 := (blk_cell hT1 0).trans rfl
  have t2 := (blk_cell hT1 2).trans rfl
  have tf0 := blk_frozen hT1 0
  have tf2 := blk_frozen hT1 2
  have HT1 := Aside0.mk hT1
  have HB1 := Aside0.mk hb1
  have HO1 := Aside0.mk ho1
  have HW1 := Aside0.mk hw1
  clear hT1 hb1 ho1 hw1
  have hz3 : i ≤ i + 1 := by omega
  have hz4 : i + 1 ≤ s.size := by omega
  have hz5 : (0 : Int) ≤ (i : Int) + 1 := by omega
  have hz6 : ((i : Int) + 1).toNat = i + 1 := by omega
  have hz7 : IntKind.i64.wrap ((i : Int) + 1) = (i : Int) + 1 := IntWalk.i64_in _ (by omega)
  refine start_ (n := 24) (S := fun w' => w'.cell? ⟨g, 0, none⟩ = some (.string s) ∧ w'.cell? ⟨g, 1, none⟩ = some (.int .i64 i)) (ds := []) #[false, false, false, false, false, false, false, false, false, false, false, false, false, false, false, false, false, false, false, false, false, false, false, false] (by kernel_rfl) rfl rfl ⟨d0, d1⟩ (fun hHeld => ?_)
  refine pure_ (i := 0) (N := some 49) (v := ?_) (a' := ?_) #[true, false, false, false, false, false, false, false, false, false, false, false, false, false, false, false, false, false, false, false, false, false, false, false] rfl rfl (by kernel_rfl) (fun _ _ _ h => h) (Or.inl ⟨by rfl, ?_⟩) ?_ ?_
  rotate_left
  · intro w'
    go_simp
    with_reducible rfl
  rotate_left
  · simp only [Act.put, List.setIfInBounds_toArray, List.set_cons_zero, List.set_cons_succ, i64_w, i32_w]
    rfl
  refine pure_ (i := 3) (N := some 52) (v := ?_) (a' := ?_) #[true, false, false, true, false, false, false, false, false, false, false, false, false, false, false, false, false, false, false, false, false, false, false, false] rfl rfl (by kernel_rfl) (fun _ _ _ h => h) (Or.inl ⟨by rfl, ?_⟩) ?_ ?_
  rotate_left
  · intro w'
    go_simp
    with_reducible rfl
  rotate_left
  · simp only [Act.put, List.setIfInBounds_toArray, List.set_cons_zero, List.set_cons_succ, i64_w, i32_w]
    rfl
  refine pure_ (i := 4) (N := some 53) (v := ?_) (a' := ?_) #[true, false, false, true, true, false, false, false, false, false, false, false, false, false, false, false, false, false, false, false, false, false, false, false] rfl rfl (by kernel_rfl) (fun _ _ _ h => h) (Or.inl ⟨by rfl, ?_⟩) ?_ ?_
  rotate_left
  · intro w'
    go_simp
    with_reducible rfl
  rotate_left
  · simp only [Act.put, List.setIfInBounds_toArray, List.set_cons_zero, List.set_cons_succ, i64_w, i32_w]
    rfl
  refine pure_ (i := 5) (N := some 54) (v := ?_) (a' := ?_) #[true, false, false, true, true, true, false, false, false, false, false, false, false, false, false, false, false, false, false, false, false, false, false, false] rfl rfl (by kernel_rfl) (fun _ _ _ h => h) (Or.inl ⟨by rfl, ?_⟩) ?_ ?_
  rotate_left
  · intro w'
    go_simp
    with_reducible rfl
  rotate_left
  · simp only [Act.put, List.setIfInBounds_toArray, List.set_cons_zero, List.set_cons_succ, i64_w, i32_w]
    rfl
  refine pure_ (i := 6) (N := some 55) (v := ?_) (a' := ?_) #[true, false, false, true, true, true, true, false, false, false, false, false, false, false, false, false, false, false, false, false, false, false, false, false] rfl rfl (by kernel_rfl) (fun _ _ _ h => h) (Or.inl ⟨by rfl, ?_⟩) ?_ ?_
  rotate_left
  · intro w'
    go_simp
    with_reducible rfl
  rotate_left
  · simp only [Act.put, List.setIfInBounds_toArray, List.set_cons_zero, List.set_cons_succ, i64_w, i32_w]
    rfl
  refine pure_ (i := 8) (N := some 57) (v := ?_) (a' := ?_) #[true, false, false, true, true, true, true, false, true, false, false, false, false, false, false, false, false, false, false, false, false, false, false, false] rfl rfl (by kernel_rfl) (fun _ _ _ h => h) (Or.inl ⟨by rfl, ?_⟩) ?_ ?_
  rotate_left
  · intro w'
    go_simp
    with_reducible rfl
  rotate_left
  · simp only [Act.put, List.setIfInBounds_toArray, List.set_cons_zero, List.set_cons_succ, i64_w, i32_w]
    rfl
  refine pure_ (i := 9) (N := some 58) (v := ?_) (a' := ?_) #[true, false, false, true, true, true, true, false, true, true, false, false, false, false, false, false, false, false, false, false, false, false, false, false] rfl rfl (by kernel_rfl) (fun _ _ _ h => h) (Or.inl ⟨by rfl, ?_⟩) ?_ ?_
  rotate_left
  · intro w'
    go_simp
    with_reducible rfl
  rotate_left
  · simp only [Act.put, List.setIfInBounds_toArray, List.set_cons_zero, List.set_cons_succ, i64_w, i32_w]
    rfl
  refine pure_ (i := 10) (N := some 59) (v := ?_) (a' := ?_) #[true, false, false, true, true, true, true, false, true, true, true, false, false, false, false, false, false, false, false, false, false, false, false, false] rfl rfl (by kernel_rfl) (fun _ _ _ h => h) (Or.inl ⟨by rfl, ?_⟩) ?_ ?_
  rotate_left
  · intro w'
    go_simp
    with_reducible rfl
  rotate_left
  · simp only [Act.put, List.setIfInBounds_toArray, List.set_cons_zero, List.set_cons_succ, i64_w, i32_w]
    rfl
  refine pure_ (i := 11) (N := some 60) (v := ?_) (a' := ?_) #[true, false, false, true, true, true, true, false, true, true, true, true, false, false, false, false, false, false, false, false, false, false, false, false] rfl rfl (by kernel_rfl) (fun _ _ _ h => h) (Or.inl ⟨by rfl, ?_⟩) ?_ ?_
  rotate_left
  · intro w'
    go_simp
    with_reducible rfl
  rotate_left
  · simp only [Act.put, List.setIfInBounds_toArray, List.set_cons_zero, List.set_cons_succ, i64_w, i32_w]
    rfl
  refine pure_ (i := 13) (N := some 62) (v := ?_) (a' := ?_) #[true, false, false, true, true, true, true, false, true, true, true, true, false, true, false, false, false, false, false, false, false, false, false, false] rfl rfl (by kernel_rfl) (fun _ _ _ h => h) (Or.inl ⟨by rfl, ?_⟩) ?_ ?_
  rotate_left
  · intro w'
    go_simp
    with_reducible rfl
  rotate_left
  · simp only [Act.put, List.setIfInBounds_toArray, List.set_cons_zero, List.set_cons_succ, i64_w, i32_w]
    rfl
  refine pure_ (i := 14) (N := some 63) (v := ?_) (a' := ?_) #[true, false, false, true, true, true, true, false, true, true, true, true, false, true, true, false, false, false, false, false, false, false, false, false] rfl rfl (by kernel_rfl) (fun _ _ _ h => h) (Or.inl ⟨by rfl, ?_⟩) ?_ ?_
  rotate_left
  · intro w'
    go_simp
    with_reducible rfl
  rotate_left
  · simp only [Act.put, List.setIfInBounds_toArray, List.set_cons_zero, List.set_cons_succ, i64_w, i32_w]
    rfl
  refine pure_ (i := 15) (N := some 64) (v := ?_) (a' := ?_) #[true, false, false, true, true, true, true, false, true, true, true, true, false, true, true, true, false, false, false, false, false, false, false, false] rfl rfl (by kernel_rfl) (fun _ _ _ h => h) (Or.inl ⟨by rfl, ?_⟩) ?_ ?_
  rotate_left
  · intro w'
    go_simp
    with_reducible rfl
  rotate_left
  · simp only [Act.put, List.setIfInBounds_toArray, List.set_cons_zero, List.set_cons_succ, i64_w, i32_w]
    rfl
  refine pure_ (i := 16) (N := some 65) (v := ?_) (a' := ?_) #[true, false, false, true, true, true, true, false, true, true, true, true, false, true, true, true, true, false, false, false, false, false, false, false] rfl rfl (by kernel_rfl) (fun _ _ _ h => h) (Or.inl ⟨by rfl, ?_⟩) ?_ ?_
  rotate_left
  · intro w'
    go_simp
    with_reducible rfl
  rotate_left
  · simp only [Act.put, List.setIfInBounds_toArray, List.set_cons_zero, List.set_cons_succ, i64_w, i32_w]
    rfl
  refine take_ (i := 7) (N := some 56) (v := ?_) (a' := ?_) #[true, false, false, true, true, true, true, true, true, true, true, true, false, true, true, true, true, false, false, false, false, false, false, false] rfl rfl (by kernel_rfl) (fun _ _ _ h => h) (Or.inl ⟨by rfl, ?_⟩) hHeld ?_ ?_
  rotate_left
  · rintro w' ⟨s0, s1⟩
    go_simp
    with_reducible rfl
  rotate_left
  · simp only [Act.put, List.setIfInBounds_toArray, List.set_cons_zero, List.set_cons_succ, i64_w, i32_w]
    rfl
  refine take_ (i := 12) (N := some 61) (v := ?_) (a' := ?_) #[true, false, false, true, true, true, true, true, true, true, true, true, true, true, true, true, true, false, false, false, false, false, false, false] rfl rfl (by kernel_rfl) (fun _ _ _ h => h) (Or.inl ⟨by rfl, ?_⟩) hHeld ?_ ?_
  rotate_left
  · rintro w' ⟨s0, s1⟩
    go_simp
    with_reducible rfl
  rotate_left
  · simp only [Act.put, List.setIfInBounds_toArray, List.set_cons_zero, List.set_cons_succ, i64_w, i32_w]
    rfl
  refine take_ (i := 17) (N := some 66) (v := ?_) (a' := ?_) #[true, false, false, true, true, true, true, true, true, true, true, true, true, true, true, true, true, true, false, false, false, false, false, false] rfl rfl (by kernel_rfl) (fun _ _ _ h => h) (Or.inl ⟨by rfl, ?_⟩) hHeld ?_ ?_
  rotate_left
  · rintro w' ⟨s0, s1⟩
    go_simp
    with_reducible rfl
  rotate_left
  · simp only [Act.put, List.setIfInBounds_toArray, List.set_cons_zero, List.set_cons_succ, i64_w, i32_w]
    rfl
  refine pure_ (i := 18) (N := some 67) (v := ?_) (a' := ?_) #[true, false, false, true, true, true, true, true, true, true, true, true, true, true, true, true, true, true, true, false, false, false, false, false] rfl rfl (by kernel_rfl) (fun _ _ _ h => h) (Or.inl ⟨by rfl, ?_⟩) ?_ ?_
  rotate_left
  · intro w'
    go_simp
    with_reducible rfl
  rotate_left
  · simp only [Act.put, List.setIfInBounds_toArray, List.set_cons_zero, List.set_cons_succ, i64_w, i32_w]
    rfl
  refine pure_ (i := 19) (N := some 68) (v := ?_) (a' := ?_) #[true, false, false, true, true, true, true, true, true, true, true, true, true, true, true, true, true, true, true, true, false, false, false, false] rfl rfl (by kernel_rfl) (fun _ _ _ h => h) (Or.inl ⟨by rfl, ?_⟩) ?_ ?_
  rotate_left
  · intro w'
    go_simp
    with_reducible rfl
  rotate_left
  · simp only [Act.put, List.setIfInBounds_toArray, List.set_cons_zero, List.set_cons_succ, i64_w, i32_w]
    rfl
  refine one_ (i := 1) (N := some 50) #[true, true, false, true, true, true, true, true, true, true, true, true, true, true, true, true, true, true, true, true, false, false, false, false] rfl rfl (by kernel_rfl) (by decide) (fun K hK => ?_)
  refine goes_ Tryd.func63 (by kernel_rfl) rfl #[.string ⟨#[40, 41, 59]⟩, .int .u8 (bt s (i : Int))] (by rfl) rfl rfl (by simp only [List.map_toArray, List.map_cons, List.map_nil]; rfl) ?_
  with_reducible refine (HQ.out _).mono ?_
  rintro e w' ⟨rfl, rfl⟩
  refine ⟨_, rfl, ?_⟩
  refine hK.out _ _ ⟨hHeld.1, hHeld.2⟩ (fun hHeld => ?_)
  clear hK K
  refine norm_ (a' := ?_) ?_ ?_
  rotate_left
  · show Act.put _ (some 50) _ = _
    simp only [Act.put, List.setIfInBounds_toArray, List.set_cons_zero, List.set_cons_succ, i64_w, i32_w]
    rfl
  refine pure_ (i := 2) (N := some 51) (v := ?_) (a' := ?_) #[true, true, true, true, true, true, true, true, true, true, true, true, true, true, true, true, true, true, true, true, false, false, false, false] rfl rfl (by kernel_rfl) (fun _ _ _ h => h) (Or.inl ⟨by rfl, ?_⟩) ?_ ?_
  rotate_left
  · intro w'
    go_simp
    with_reducible rfl
  rotate_left
  · simp only [Act.put, List.setIfInBounds_toArray, List.set_cons_zero, List.set_cons_succ, i64_w, i32_w]
    rfl
  refine pure_ (i := 20) (N := some 69) (v := ?_) (a' := ?_) #[true, true, true, true, true, true, true, true, true, true, true, true, true, true, true, true, true, true, true, true, true, false, false, false] rfl rfl (by kernel_rfl) (fun _ _ _ h => h) (Or.inl ⟨by rfl, ?_⟩) ?_ ?_
  rotate_left
  · intro w'
    go_simp
    with_reducible rfl
  rotate_left
  · simp only [Act.put, List.setIfInBounds_toArray, List.set_cons_zero, List.set_cons_succ, i64_w, i32_w]
    rfl
  refine one_ (i := 21) (N := none) #[true, true, true, true, true, true, true, true, true, true, true, true, true, true, true, true, true, true, true, true, true, true, false, false] rfl rfl (by kernel_rfl) (by decide) (fun K hK => ?_)
  refine skip_ (w1 := ?_) (by rfl) rfl ?_ ?_
  rotate_left
  · go_simp
    rfl
  refine hK.out _ _ ⟨(Blk.c0 (blk_far (blk_drew HB1.out) (Ne.symm hne) _)), (Blk.c1 (blk_far (blk_drew HB1.out) (Ne.symm hne) _))⟩ (fun hHeld => ?_)
  clear hK K
  refine pure_ (i := 22) (N := some 70) (v := ?_) (a' := ?_) #[true, true, true, true, true, true, true, true, true, true, true, true, true, true, true, true, true, true, true, true, true, true, true, false] rfl rfl (by kernel_rfl) (fun _ _ _ h => h) (Or.inl ⟨by rfl, ?_⟩) ?_ ?_
  rotate_left
  · intro w'
    go_simp
    with_reducible rfl
  rotate_left
  · simp only [Act.put, List.setIfInBounds_toArray, List.set_cons_zero, List.set_cons_succ, i64_w, i32_w]
    rfl
  refine one_ (i := 23) (N := none) #[true, true, true, true, true, true, true, true, true, true, true, true, true, true, true, true, true, true, true, true, true, true, true, true] rfl rfl (by kernel_rfl) (by decide) (fun K hK => ?_)
  refine skip_ (w1 := ?_) (by rfl) rfl ?_ ?_
  rotate_left
  · go_simp
    rfl
  refine hK.out _ _ ⟨(Blk.c0 (blk_far (blk_far (blk_drew HB1.out) (Ne.symm hne) _) (Ne.symm hne) _)), (Blk.c1 (blk_far (blk_far (blk_drew HB1.out) (Ne.symm hne) _) (Ne.symm hne) _))⟩ (fun hHeld => ?_)
  clear hK K
  refine done_ (by kernel_rfl) ?_

  clear hz3 hz4 hz5 hz6 hz7
  go_wp2
  simp only [show wrap64 5 = (5 : Int) from by unfold wrap64; omega]
  have hT3 : ((((W1.setCell ⟨w.heap.size, 0, none⟩ (.int .i64 5)).setCell ⟨w.heap.size, 2, none⟩ (.string (s.extract i (i + 1)))).setCell ⟨g, 1, none⟩ (.int .i64 ((i : Int) + 1))).drew).heap[w.heap.size]? = some (.cells #[.int .i64 5, .int .i64 i, .string (s.extract i (i + 1))] 40 (0, 0)) :=
    blk_drew (blk_far (blk_put (blk_put HT1.out 0 (.int .i64 5) rfl) 2 (.string (s.extract i (i + 1))) rfl) hne _)
  have hB3 : Blk ((((W1.setCell ⟨w.heap.size, 0, none⟩ (.int .i64 5)).setCell ⟨w.heap.size, 2, none⟩ (.string (s.extract i (i + 1)))).setCell ⟨g, 1, none⟩ (.int .i64 ((i : Int) + 1))).drew) g s ((i : Int) + 1) L := blk_drew (Blk.at1 (blk_far (blk_far HB1.out (Ne.symm hne) _) (Ne.symm hne) _) _)
  have hO3 : Kd.R k40 40 ((((W1.setCell ⟨w.heap.size, 0, none⟩ (.int .i64 5)).setCell ⟨w.heap.size, 2, none⟩ (.string (s.extract i (i + 1)))).setCell ⟨g, 1, none⟩ (.int .i64 ((i : Int) + 1))).drew) base (fun k => k ≠ g) L ts :=
    Kd.R_mono (Kd.R_drew (Kd.R_far (Kd.R_far (Kd.R_far HO1.out (p := ⟨w.heap.size, 0, none⟩) (fun k hk => hk.2) _) (p := ⟨w.heap.size, 2, none⟩) (fun k hk => hk.2) _) (p := ⟨g, 1, none⟩) (fun k hk => hk.1) _)) (fun k hk => hk.1)
  have hW3 : Below base w ((((W1.setCell ⟨w.heap.size, 0, none⟩ (.int .i64 5)).setCell ⟨w.heap.size, 2, none⟩ (.string (s.extract i (i + 1)))).setCell ⟨g, 1, none⟩ (.int .i64 ((i : Int) + 1))).drew) := (((HW1.out.setCell (by simp; omega) _).setCell (by simp; omega) _).setCell (by simpa using hbase) _).drew
  clear t0 t2 tf0 tf2 d0 d1 df1 hne
  generalize ((((W1.setCell ⟨w.heap.size, 0, none⟩ (.int .i64 5)).setCell ⟨w.heap.size, 2, none⟩ (.string (s.extract i (i + 1)))).setCell ⟨g, 1, none⟩ (.int .i64 ((i : Int) + 1))).drew) = W3 at hT3 hB3 hO3 hW3 ⊢
  have HT3 := Aside0.mk hT3
  have HB3 := Aside0.mk hB3
  have HO3 := Aside0.mk hO3
  have HW3 := Aside0.mk hW3
  have t0 := (blk_cell hT3 0).trans rfl
  have t1 := (blk_cell hT3 1).trans rfl
  have t2 := (blk_cell hT3 2).trans rfl
  have d2 := hB3.c2
  have df := hB3.fr 2
  have hg3 := blk_lt hB3
  have hb3 := blk_lt hT3
  have hne : g ≠ w.heap.size := by omega
  clear hT3 hB3 hO3 hW3
  have hbase3 : base ≤ W3.heap.size := by omega
  go_region_law ((refine app_tok base g (by rfl) (.tmp 84) (.tmp 86) rfl L ts (⟨5, i, s.extract i (i + 1)⟩ : Tk) ?aV ?aX ?aG ?aO ?aS ?aL ?_; (case aV => first | rfl | (simp [Act.eval])); (case aX => first | rfl | (simp [Act.eval])); (case aG => exact hg3); (case aO => exact HO3.out); (case aS => exact hbase3); (case aL => omega); intro v1 w1 ho hb1 hg1; obtain ⟨A1, k1, e1⟩ := Kd.R_slice ho; subst e1; have hB4 : Blk w1 g s ((i : Int) + 1) L := blk_grown (blk_drew HB3.out) hg1 (Kd.R_away HO3.out (fun k hk => hk)); have f1' := hB4.fr 2; have c2' := hB4.c2; have HO4 := Aside0.mk ho; have HB4 := Aside0.mk hB4; have HW4 := Aside0.mk (HW3.out.trans hb1); clear ho hb1 hg1 hB4))
  all_goals
    go_wp2
    go_ret
    refine ⟨rfl, _, ?_, Kd.R_far HO4.out (fun k hk => hk) _, HW4.out.setCell (by simp; omega) _⟩
    have := blk_set HB4.out 2 (.slice A1 (ts ++ [(⟨5, i, s.extract i (i + 1)⟩ : Tk)]).length k1)
    simpa [Blk] using this
end Go.Proofs.YtngedmioeodmfaaDoor.Lx
namespace Go.Proofs.YtngedmioeodmfaaDoor.Lx
open Go.RowKit Go.Proofs.YtngedmioeodmfaaDoor.Pr Go.Proofs.YtngedmioeodmfaaDoorW.PrintWords Go.Proofs.YtngedmioeodmfaaDoorW.PrintLast Go.Proofs.YtngedmioeodmfaaDoorW.PrintMore
set_option linter.unusedVariables false
set_option linter.unusedSimpArgs false
theorem quo_ge (s : ByteArray) : ∀ d i out, i ≤ s.size → i ≤ (quo s d i out).2.1 ∧ (quo s d i out).2.1 ≤ s.size := by
  intro d
  induction d with
  | zero => intro i out h; exact ⟨Nat.le_refl _, h⟩
  | succ d ih =>
    intro i out h
    rw [quo]
    repeat' split
    all_goals try (simp only; omega)
    · have := ih (i + 2) (out ++ [bt s ((i + 1 : Nat) : Int)]) (by omega); omega
    · have := ih (i + 1) (out ++ [bt s (i : Int)]) (by omega); omega
theorem letter_word : ∀ c : Fin 256, pLetter (c.val : Int) = true → pWord (c.val : Int) = true := by decide +kernel
theorem wEnd_lt (s : ByteArray) (i : Nat) (h : i < s.size) (hl : pLetter (bt s i) = true) : i < wEnd s i := by
  have hr := bt_range s (i : Int)
  obtain ⟨q, hq⟩ : ∃ q : Fin 256, (q.val : Int) = bt s (i : Int) := ⟨⟨(bt s (i : Int)).toNat, by omega⟩, by simp; omega⟩
  have hw : pWord (bt s (i : Int)) = true := by rw [← hq]; exact letter_word q (by rw [hq]; exact hl)
  have e : wEnd s i = rowEnd s pWord (s.size - (i + 1)) (i + 1) := rowEnd_go s pWord i h hw
  have := rowEnd_le s pWord (s.size - (i + 1)) (i + 1) (by omega)
  omega
theorem tokE_ge (s : ByteArray) (i : Nat) (h : i < s.size) {t : Tk} {j : Nat} {ok : Bool} (e : tokE s i = some (t, j, ok)) : i < j ∧ j ≤ s.size := by
  unfold tokE at e
  split at e
  · rename_i hl
    simp only [Option.some.injEq, Prod.mk.injEq] at e
    obtain ⟨_, rfl, _⟩ := e
    exact ⟨wEnd_lt s i h hl, (wEnd_le s i (by omega)).2⟩
  · split at e
    · simp only [Option.some.injEq, Prod.mk.injEq] at e
      obtain ⟨_, rfl, _⟩ := e
      have := quo_ge s (s.size - (i + 1)) (i + 1) [] (by omega)
      unfold quoE; omega
    · split at e
      · simp only [Option.some.injEq, Prod.mk.injEq] at e
        obtain ⟨_, rfl, _⟩ := e
        omega
      · cases e
/-- The tokens from a place on; the place that offends, if one does. -/
def runF (s : ByteArray) : Nat → Nat → List Tk → List Tk × Option Nat
  | 0, _, ts => (ts, none)
  | d + 1, i, ts =>
    if i < s.size then
      match tokE s i with
      | some (t, j, true) => runF s d (btw s j) (ts ++ [t])
      | some (t, j, false) => (ts ++ [t], some j)
      | none => (ts, some i)
    else (ts, none)
def run (s : ByteArray) (i : Nat) (ts : List Tk) : List Tk × Option Nat := runF s (s.size - i) i ts
theorem runF_more (s : ByteArray) : ∀ d d' i ts, s.size - i ≤ d → s.size - i ≤ d' → runF s d i ts = runF s d' i ts := by
  intro d
  induction d with
  | zero => intro d' i ts h h'; cases d' with
    | zero => rfl
    | succ d' => rw [runF, runF, if_neg (by omega)]
  | succ d ih =>
    intro d' i ts h h'
    cases d' with
    | zero => rw [runF, runF, if_neg (by omega)]
    | succ d' =>
      rw [runF, runF]
      by_cases q : i < s.size
      · rw [if_pos q, if_pos q]
        match e : tokE s i with
        | some (t, j, true) =>
          have hj := tokE_ge s i q e
          have hb := btw_le s j hj.2
          exact ih d' _ _ (by omega) (by omega)
        | some (t, j, false) => rfl
        | none => rfl
      · rw [if_neg q, if_neg q]
theorem run_stop (s : ByteArray) (i : Nat) (ts : List Tk) (h : ¬ i < s.size) : run s i ts = (ts, none) := by
  unfold run; rw [show s.size - i = 0 by omega, runF]
theorem run_go (s : ByteArray) (i : Nat) (ts : List Tk) (h : i < s.size) {t : Tk} {j : Nat} (e : tokE s i = some (t, j, true)) : run s i ts = run s (btw s j) (ts ++ [t]) := by
  have hj := tokE_ge s i h e
  have hb := btw_le s j hj.2
  unfold run
  rw [show s.size - i = (s.size - i - 1) + 1 by omega, runF, if_pos h, e]
  exact runF_more s _ _ _ _ (by omega) (by omega)
theorem run_bad (s : ByteArray) (i : Nat) (ts : List Tk) (h : i < s.size) {t : Tk} {j : Nat} (e : tokE s i = some (t, j, false)) : run s i ts = (ts ++ [t], some j) := by
  unfold run
  rw [show s.size - i = (s.size - i - 1) + 1 by omega, runF, if_pos h, e]
theorem run_none (s : ByteArray) (i : Nat) (ts : List Tk) (h : i < s.size) (e : tokE s i = none) : run s i ts = (ts, some i) := by
  unfold run
  rw [show s.size - i = (s.size - i - 1) + 1 by omega, runF, if_pos h, e]
/-- One call of token, whatever stands there. -/
theorem token_calls (s : ByteArray) (i : Nat) (L : Value) (ts : List Tk) (g base : Nat) (w : World) (hs : s.size ≤ 140737488351232) (hi : i < s.size) (hb : Blk w g s i L)
    (hO : Kd.R k40 40 w base (fun k => k ≠ g) L ts) (hbase : base ≤ g) (hts : ts.length ≤ 1000000000) {t : Tk} {j : Nat} {ok : Bool} (ht : tokE s i = some (t, j, ok)) :
    Calls Tryd.prog 37 #[.pointer (some ⟨g, 0, none⟩)] w fun e w' =>
      e = .returned (.bool ok) ∧ ∃ L', Blk w' g s (j : Nat) L' ∧ Kd.R k40 40 w' base (fun k => k ≠ g) L' (ts ++ [t]) ∧ Below base w w' := by
  unfold tokE at ht
  split at ht
  · rename_i hl
    simp only [Option.some.injEq, Prod.mk.injEq] at ht
    obtain ⟨rfl, rfl, rfl⟩ := ht
    exact token_letter s i L ts g base w hs hi hb hO hbase hts hl
  · rename_i hl
    have hl' : pLetter (bt s (i : Int)) = false := by cases h : pLetter (bt s (i : Int)) with
      | true => exact absurd h hl
      | false => rfl
    split at ht
    · rename_i q
      simp only [Option.some.injEq, Prod.mk.injEq] at ht
      obtain ⟨rfl, rfl, rfl⟩ := ht
      exact token_quote s i L ts g base w hs hi hb hO hbase hts hl' q _ _ _ rfl
    · split at ht
      · rename_i q
        simp only [Option.some.injEq, Prod.mk.injEq] at ht
        obtain ⟨rfl, rfl, rfl⟩ := ht
        have hc : (((i + 1 : Nat)) : Int) = (i : Int) + 1 := by omega
        rw [hc]
        rcases q with q | q | q
        · have := token_p40 s i L ts g base w hs hi hb hO hbase hts hl' q; rw [q]; exact this
        · have := token_p41 s i L ts g base w hs hi hb hO hbase hts hl' q; rw [q]; exact this
        · have := token_p59 s i L ts g base w hs hi hb hO hbase hts hl' q; rw [q]; exact this
      · cases ht
theorem token_nothing (s : ByteArray) (i : Nat) (L : Value) (ts : List Tk) (g base : Nat) (w : World) (hs : s.size ≤ 140737488351232) (hi : i < s.size) (hb : Blk w g s i L)
    (hO : Kd.R k40 40 w base (fun k => k ≠ g) L ts) (hbase : base ≤ g) (hts : ts.length ≤ 1000000000) (ht : tokE s i = none) :
    Calls Tryd.prog 37 #[.pointer (some ⟨g, 0, none⟩)] w fun e w' => e = .returned (.bool false) ∧ Blk w' g s (i : Nat) L ∧ Below base w w' := by
  unfold tokE at ht
  split at ht
  · cases ht
  · rename_i hl
    split at ht
    · cases ht
    · rename_i q34
      split at ht
      · cases ht
      · rename_i q
        exact token_none s i L ts g base w hs hi hb hO hbase hts (by cases h : pLetter (bt s (i : Int)) with
          | true => exact absurd h hl
          | false => rfl) q34 (fun h => q (.inl h)) (fun h => q (.inr (.inl h))) (fun h => q (.inr (.inr h)))
end Go.Proofs.YtngedmioeodmfaaDoor.Lx
namespace Go.Proofs.YtngedmioeodmfaaDoor.Lx
open Go.RowKit Go.Proofs.YtngedmioeodmfaaDoor.Pr Go.Proofs.YtngedmioeodmfaaDoorW.PrintWords Go.Proofs.YtngedmioeodmfaaDoorW.PrintLast Go.Proofs.YtngedmioeodmfaaDoorW.PrintMore
set_option linter.unusedVariables false
set_option linter.unusedSimpArgs false
/-- What Tokens hands back: the tokens, the fault. -/
def tokRes (s : ByteArray) (bad : Int) : List Tk × Int × Int :=
  let r := run s (btw s 0) []
  let b := match r.2 with
    | some j => min bad (j : Int)
    | none => bad
  if b ≤ (s.size : Int) then ([], 8, b) else (r.1, 0, 0)
set_option maxHeartbeats 4000000 in
set_option maxRecDepth 100000 in
theorem tokens_big (s : ByteArray) (w : World) (h : s.size > 3000) :
    Calls Tryd.prog 15 #[.string s] w fun e w' => e = .returned (.tuple #[.slice none 0 0, .agg #[.int .i64 2, .int .i64 0]]) ∧ Below w.heap.size w w' := by
  have h1 : decide (3000 < s.size) = true := decide_eq_true h
  have hu := Tryd.underlying30
  go_enter Tryd.func15, Tryd.ntmps15
  go_wp2
  exact bodyPost_ret (v := .tuple #[.slice none 0 0, .agg #[.int .i64 2, .int .i64 0]]) (by simp [results, Tryd.results15, go_sem]) rfl ⟨rfl, below_alloc (Below.refl _ _) _⟩
set_option maxHeartbeats 4000000 in
set_option maxRecDepth 100000 in
theorem tokens_calls (s : ByteArray) (k : Nat) (bad : Int) (w : World) (hL : Laid w) (h : s.size ≤ 3000) (hw : lex_wrong.f k s = some bad) (r1 : List Tk) (r2 r3 : Int) (hr : tokRes s bad = (r1, r2, r3)) :
    Calls Tryd.prog 15 #[.string s] w fun e w' => ∃ v0_ : Value, e = .returned (.tuple #[v0_, .agg #[.int .i64 r2, .int .i64 r3]]) ∧ Kd.R k40 40 w' w.heap.size (fun _ => True) v0_ r1 ∧ Below w.heap.size w w' := by
  have h1 : decide (3000 < s.size) = false := decide_eq_false (by omega)
  have h1i : decide ((3000 : Int) < (s.size : Int)) = false := decide_eq_false (by omega)
  have h1j : ¬ ((3000 : Int) < (s.size : Int)) := by omega
  have hu := Tryd.underlying30
  have HL := Aside0.mk hL
  have HW := Aside0.mk hw
  have HR := Aside0.mk hr
  have HS := Aside0.mk h
  clear hL hw hr h
  go_enter Tryd.func15, Tryd.ntmps15
  go_wp2_with fail
  refine (lex_wrong.calls k s bad _ ?_ HW.out).mono ?_
  · exact HL.out.below (by exact below_alloc (below_alloc (Below.refl _ _) _) _)
  rintro e w1 ⟨rfl, hb1⟩
  have hF1 : w1.heap[w.heap.size]? = some (.cells #[.int .i64 0, .int .i64 0] 30 (0, 0)) := by
    rw [hb1.block _ (by simp; omega)]
    exact blk_alloc (blk_new w _) _
  have hB1 : Blk w1 (w.heap.size + 1) s (0 : Nat) (.slice none 0 0) := by
    unfold Blk
    rw [hb1.block _ (by simp)]
    have := blk_new (w.alloc (.cells #[.int .i64 0, .int .i64 0] 30)) (.cells #[.string s, .int .i64 0, .slice none 0 0] 79)
    simpa using this
  have hW1 : Below w.heap.size w w1 := Below.trans (below_alloc (below_alloc (Below.refl _ _) _) _) (hb1.mono (by simp; omega))
  clear hb1
  have HB1 := Aside0.mk hB1
  have HF1 := Aside0.mk hF1
  have HW1 := Aside0.mk hW1
  clear hB1 hF1 hW1
  go_wp2_with fail
  refine (between_calls s 0 _ _ _ (by have := HS.out; omega) (Nat.zero_le _) HB1.out).mono ?_
  rintro e w2 ⟨rfl, hb2, hk2⟩
  have HB2 := Aside0.mk hb2
  have HF2 := Aside0.mk (hk2.k.blk HF1.out (by omega) (by simp))
  have HW2 := Aside0.mk (HW1.out.trans (hk2.b.mono (by omega)))
  clear hb2 hk2 HB1 HF1 HW1
  have hRR : tokRes s bad = tokRes s bad := rfl
  obtain ⟨RR, hRun⟩ : ∃ R, run s (btw s 0) [] = R := ⟨_, rfl⟩
  have HRun := Aside0.mk hRun
  clear hRR hRun
  go_wp2_with fail
  have HRun0 := HRun
  go_loopg [5] (s.size) (fun gk v5 w' => ∃ (i : Nat) (ts : List Tk) (L : Value), v5 = .int .i64 bad ∧ Aside0 (i ≤ s.size) ∧ Aside0 (run s i ts = RR) ∧ Aside0 (Blk w' (w.heap.size + 1) s i L) ∧ Aside0 (w'.heap[w.heap.size]? = some (.cells #[.int .i64 0, .int .i64 0] 30 (0, 0))) ∧ Aside0 (Below w.heap.size w w') ∧ Aside0 (Kd.R k40 40 w' (w.heap.size + 1) (fun k => k ≠ w.heap.size + 1) L ts) ∧ Aside0 (ts.length ≤ i) ∧ Aside0 (s.size - i ≤ gk))
  case atStart =>
    have hbl := btw_le s 0 (Nat.zero_le _)
    exact ⟨btw s 0, [], _, rfl, ⟨hbl.2⟩, HRun, HB2, HF2, HW2, ⟨Kd.R_nil _ _ _ _ _⟩, ⟨Nat.zero_le _⟩, ⟨by omega⟩⟩
  case round =>
    clear HRun HB2 HF2 HW2
    obtain ⟨i, ts, L, rfl, Hi, HRun, HB, HF, HW2, HO, HLn, HG⟩ := hrel
    have hi := Hi.out
    have c0 := HB.out.c0
    have c1 := HB.out.c1
    by_cases hlt : i < s.size
    · have e1 : decide (s.size ≤ i) = false := decide_eq_false (by omega)
      have e1i : decide ((s.size : Int) ≤ (i : Int)) = false := decide_eq_false (by omega)
      match htk : tokE s i with
      | none =>
        have hst := run_none s i ts hlt htk
        rw [HRun.out] at hst
        subst hst
        go_wp2_with (first | (go_at_call 36; refine (end_calls s i L _ _ HB.out).mono ?_; rintro e w' ⟨rfl, ⟨n, rfl⟩⟩))
        refine (token_nothing s i L ts _ (w.heap.size + 1) _ (by have := HS.out; omega) hlt (by exact blk_drewN HB.out _) (by exact Kd.R_drewN HO.out _) (Nat.le_refl _) (by have := HS.out; have := HLn.out; omega) htk).mono ?_
        rintro e w3 ⟨rfl, hb3, hw3⟩
        have c1 := hb3.c1
        have c0 := hb3.c0
        have c2 := hb3.c2
        have hF3 : w3.heap[w.heap.size]? = some (.cells #[.int .i64 0, .int .i64 0] 30 (0, 0)) := by
          rw [hw3.block _ (by omega)]
          exact HF.out
        have f0 := blk_frozen hF3 0
        have f1 := blk_frozen hF3 1
        have d0 := (blk_cell hF3 0).trans rfl
        have d1 := (blk_cell hF3 1).trans rfl
        have HW3 := Aside0.mk ((HW2.out.trans (pw_below_drewN (Below.refl _ _) _)).trans (hw3.mono (by omega)))
        have HR2 := HR.out
        unfold tokRes at HR2
        rw [HRun0.out] at HR2
        clear hF3
        by_cases hbad : min bad (i : Int) ≤ (s.size : Int)
        · have b1 : decide (min bad (i : Int) ≤ (s.size : Int)) = true := decide_eq_true hbad
          simp only [if_pos hbad, Prod.mk.injEq] at HR2
          obtain ⟨rfl, rfl, rfl⟩ := HR2
          go_wp2_with fail
          all_goals
            exact bodyPost_ret (v := .tuple #[.slice none 0 0, .agg #[.int .i64 8, .int .i64 (min bad (i : Int))]]) (by simp [results, Tryd.results15, go_sem, d0, d1, hu]) rfl ⟨_, rfl, Kd.R_nil _ _ _ _ _, (HW3.out.setCell (Nat.le_refl _) _).setCell (Nat.le_refl _) _⟩
        · exact absurd (by omega) hbad
      | some (t, j, true) =>
        go_wp2_with (first | (go_at_call 36; refine (end_calls s i L _ _ HB.out).mono ?_; rintro e w' ⟨rfl, ⟨n, rfl⟩⟩))
        refine (token_calls s i L ts _ (w.heap.size + 1) _ (by have := HS.out; omega) hlt (by exact blk_drewN HB.out _) (by exact Kd.R_drewN HO.out _) (Nat.le_refl _) (by have := HS.out; have := HLn.out; omega) htk).mono ?_
        rintro e w3 ⟨rfl, L3, hb3, ho3, hw3⟩
        have hj := tokE_ge s i hlt htk
        go_wp2_with fail
        refine (between_calls s j _ _ _ (by have := HS.out; omega) hj.2 (by exact hb3)).mono ?_
        rintro e w4 ⟨rfl, hb4, hk4⟩
        have hbl := btw_le s j hj.2
        go_wp2
        go_roundg (s.size - btw s j)
        case measure => have := HG.out; omega
        case rel =>
          refine ⟨btw s j, ts ++ [t], L3, rfl, ⟨by omega⟩, ⟨by rw [← HRun.out]; exact (run_go s i ts hlt htk).symm⟩, ⟨hb4⟩, ⟨?_⟩, ⟨?_⟩, ⟨?_⟩, ⟨by have := HLn.out; simp; omega⟩, ⟨Nat.le_refl _⟩⟩
          · refine hk4.k.blk ?_ (by omega) (by simp)
            rw [hw3.block _ (by omega)]
            exact HF.out
          · exact (HW2.out.trans (pw_below_drewN (Below.refl _ _) _)).trans ((hw3.mono (by omega)).trans (hk4.b.mono (by omega)))
          · exact Kd.R_keep ho3 hk4.k (fun k hk => hk)
      | some (t, j, false) =>
        have hst := run_bad s i ts hlt htk
        rw [HRun.out] at hst
        subst hst
        go_wp2_with (first | (go_at_call 36; refine (end_calls s i L _ _ HB.out).mono ?_; rintro e w' ⟨rfl, ⟨n, rfl⟩⟩))
        refine (token_calls s i L ts _ (w.heap.size + 1) _ (by have := HS.out; omega) hlt (by exact blk_drewN HB.out _) (by exact Kd.R_drewN HO.out _) (Nat.le_refl _) (by have := HS.out; have := HLn.out; omega) htk).mono ?_
        rintro e w3 ⟨rfl, L3, hb3, ho3, hw3⟩
        have c1 := hb3.c1
        have c0 := hb3.c0
        have c2 := hb3.c2
        have hF3 : w3.heap[w.heap.size]? = some (.cells #[.int .i64 0, .int .i64 0] 30 (0, 0)) := by
          rw [hw3.block _ (by omega)]
          exact HF.out
        have f0 := blk_frozen hF3 0
        have f1 := blk_frozen hF3 1
        have d0 := (blk_cell hF3 0).trans rfl
        have d1 := (blk_cell hF3 1).trans rfl
        have HW3 := Aside0.mk ((HW2.out.trans (pw_below_drewN (Below.refl _ _) _)).trans (hw3.mono (by omega)))
        have HR2 := HR.out
        unfold tokRes at HR2
        rw [HRun0.out] at HR2
        clear hF3
        by_cases hbad : min bad (j : Int) ≤ (s.size : Int)
        · have b1 : decide (min bad (j : Int) ≤ (s.size : Int)) = true := decide_eq_true hbad
          simp only [if_pos hbad, Prod.mk.injEq] at HR2
          obtain ⟨rfl, rfl, rfl⟩ := HR2
          go_wp2_with fail
          all_goals
            exact bodyPost_ret (v := .tuple #[.slice none 0 0, .agg #[.int .i64 8, .int .i64 (min bad (j : Int))]]) (by simp [results, Tryd.results15, go_sem, d0, d1, hu]) rfl ⟨_, rfl, Kd.R_nil _ _ _ _ _, (HW3.out.setCell (Nat.le_refl _) _).setCell (Nat.le_refl _) _⟩
        · have b1 : decide (min bad (j : Int) ≤ (s.size : Int)) = false := decide_eq_false hbad
          simp only [if_neg hbad, Prod.mk.injEq] at HR2
          obtain ⟨rfl, rfl, rfl⟩ := HR2
          go_wp2_with fail
          all_goals
            exact bodyPost_ret (v := .tuple #[L3, .agg #[.int .i64 0, .int .i64 0]]) (by simp [results, Tryd.results15, go_sem, d0, d1, hu]) rfl ⟨_, rfl, Kd.R_lower (Kd.R_mono (Kd.R_far (Kd.R_far (Kd.R_bound ho3) (p := ⟨w.heap.size, 0, none⟩) (fun k hk => Nat.ne_of_gt hk.2.1) _) (p := ⟨w.heap.size, 1, none⟩) (fun k hk => Nat.ne_of_gt hk.2.1) _) (fun _ _ => trivial)) (by omega), (HW3.out.setCell (Nat.le_refl _) _).setCell (Nat.le_refl _) _⟩
    · have e1 : decide (s.size ≤ i) = true := decide_eq_true (by omega)
      have e1i : decide ((s.size : Int) ≤ (i : Int)) = true := decide_eq_true (by omega)
      have hst := run_stop s i ts hlt
      rw [HRun.out] at hst
      subst hst
      have HR2 := HR.out
      unfold tokRes at HR2
      rw [HRun0.out] at HR2
      have c2 := HB.out.c2
      have f0 := blk_frozen HF.out 0
      have f1 := blk_frozen HF.out 1
      have d0 := (blk_cell HF.out 0).trans rfl
      have d1 := (blk_cell HF.out 1).trans rfl
      by_cases hbad : bad ≤ (s.size : Int)
      · have b1 : decide (bad ≤ (s.size : Int)) = true := decide_eq_true hbad
        simp only [if_pos hbad, Prod.mk.injEq] at HR2
        obtain ⟨rfl, rfl, rfl⟩ := HR2
        go_wp2_with (go_at_call 36; refine (end_calls s i L _ _ HB.out).mono ?_; rintro e w' ⟨rfl, ⟨n, rfl⟩⟩)
        all_goals
          exact bodyPost_ret (v := .tuple #[.slice none 0 0, .agg #[.int .i64 8, .int .i64 bad]]) (by simp [results, Tryd.results15, go_sem, d0, d1, hu]) rfl ⟨_, rfl, Kd.R_nil _ _ _ _ _, ((pw_below_drewN HW2.out _).setCell (Nat.le_refl _) _).setCell (Nat.le_refl _) _⟩
      · have b1 : decide (bad ≤ (s.size : Int)) = false := decide_eq_false hbad
        simp only [if_neg hbad, Prod.mk.injEq] at HR2
        obtain ⟨rfl, rfl, rfl⟩ := HR2
        go_wp2_with (go_at_call 36; refine (end_calls s i L _ _ HB.out).mono ?_; rintro e w' ⟨rfl, ⟨n, rfl⟩⟩)
        all_goals
          exact bodyPost_ret (v := .tuple #[L, .agg #[.int .i64 0, .int .i64 0]]) (by simp [results, Tryd.results15, go_sem, d0, d1, hu]) rfl ⟨_, rfl, Kd.R_lower (Kd.R_mono (Kd.R_far (Kd.R_far (Kd.R_bound (Kd.R_drewN HO.out _)) (p := ⟨w.heap.size, 0, none⟩) (fun k hk => Nat.ne_of_gt hk.2.1) _) (p := ⟨w.heap.size, 1, none⟩) (fun k hk => Nat.ne_of_gt hk.2.1) _) (fun _ _ => trivial)) (by omega), ((pw_below_drewN HW2.out _).setCell (Nat.le_refl _) _).setCell (Nat.le_refl _) _⟩
end Go.Proofs.YtngedmioeodmfaaDoor.Lx
namespace Go.Proofs.YtngedmioeodmfaaDoor.Pr
open Go.RowKit Go.Proofs.YtngedmioeodmfaaDoorW.PrintWords Go.Proofs.YtngedmioeodmfaaDoorW.PrintLast Go.Proofs.YtngedmioeodmfaaDoorW.PrintMore
attribute [local go_sem] max2_int min2_int max_two min_two max_three min_three max_four min_four   -- for this text's walks alone
set_option linter.unusedVariables false
set_option linter.unusedSimpArgs false
def lex_Tokens.f (k : Nat) (a0 : ByteArray) : Option (List (S40) × Int × Int) := if (a0.size : Int) > 3000 then some ([], 2, 0) else (lex_wrong.f k a0).bind fun bad => some (Go.Proofs.YtngedmioeodmfaaDoor.Lx.tokRes a0 bad)
theorem lex_Tokens.mono : ∀ a0 k, LeO (lex_Tokens.f k a0) (lex_Tokens.f (k + 1) a0) := by
  intro a0 k
  unfold lex_Tokens.f
  exact LeO.ite (LeO.refl _) (LeO.bind (lex_wrong.mono _ _) (fun _ => LeO.refl _))
theorem lex_Tokens.calls (k : Nat) (a0 : ByteArray) (r1 : List (S40)) (r2 : Int) (r3 : Int) (w : World) (hL : Laid w) (h : lex_Tokens.f k a0 = some (r1, r2, r3)) :
    Calls Tryd.prog 15 #[.string a0] w fun e w' => ∃ v0_ : Value, e = .returned (.tuple #[v0_, .agg #[.int .i64 r2, .int .i64 r3]]) ∧ Kd.R k40 40 w' w.heap.size (fun _ => True) v0_ r1 ∧ Below w.heap.size w w' := by
  unfold lex_Tokens.f at h
  by_cases hs : (a0.size : Int) > 3000
  · rw [if_pos hs] at h
    simp only [Option.some.injEq, Prod.mk.injEq] at h
    obtain ⟨rfl, rfl, rfl⟩ := h
    refine (Go.Proofs.YtngedmioeodmfaaDoor.Lx.tokens_big a0 w (by omega)).mono ?_
    rintro e w' ⟨rfl, hb⟩
    exact ⟨_, rfl, Kd.R_nil _ _ _ _ _, hb⟩
  · rw [if_neg hs] at h
    obtain ⟨bad, hw, hr⟩ := Option.bind_eq_some_iff.mp h
    exact Go.Proofs.YtngedmioeodmfaaDoor.Lx.tokens_calls a0 k bad w hL (by omega) hw r1 r2 r3 (Option.some.inj hr)
end Go.Proofs.YtngedmioeodmfaaDoor.Pr
namespace Go.Proofs.YtngedmioeodmfaaDoor.Pr
open Go.RowKit Go.Proofs.YtngedmioeodmfaaDoorW.PrintWords Go.Proofs.YtngedmioeodmfaaDoorW.PrintLast Go.Proofs.YtngedmioeodmfaaDoorW.PrintMore
attribute [local go_sem] max2_int min2_int max_two min_two max_three min_three max_four min_four   -- for this text's walks alone
set_option linter.unusedVariables false
set_option linter.unusedSimpArgs false
def slices_Index_string_string.l0 : Nat → List ByteArray → ByteArray → Int → Int → Option (Int)
  | 0, _, _, _, _ => none
  | k + 1, x0, x1, x7, x8 => if x8 < x7 then (if 0 ≤ x8 then (if x8 < (x0.length : Int) then (if x1.toList = (rdOf ByteArray.empty x0 x8).toList then (some x8) else (slices_Index_string_string.l0 k x0 x1 x7 (wrap64 (x8 + 1)))) else (none)) else (none)) else (some (-1))
def slices_Index_string_string.f (k : Nat) (l0 : List ByteArray) (a1 : ByteArray) : Option (Int) := slices_Index_string_string.l0 k l0 a1 (l0.length : Int) 0
theorem slices_Index_string_string.mono_l : ∀ k, (∀ y0 y1 y2 y3, LeO (slices_Index_string_string.l0 k y0 y1 y2 y3) (slices_Index_string_string.l0 (k + 1) y0 y1 y2 y3))
  | 0 => fun _ _ _ _ r h => by simp [slices_Index_string_string.l0] at h
  | k + 1 => by
    have ih0 := slices_Index_string_string.mono_l k
    · intro y0 y1 y2 y3
      unfold slices_Index_string_string.l0
      repeat' first
      | (with_reducible exact ih0 _ _ _ _)
      | (with_reducible exact LeO.refl _)
      | (with_reducible exact LeO.none _)
      | (with_reducible refine LeO.ite ?_ ?_)
      | (with_reducible refine LeO.bind ?_ (fun _ => ?_))
      | exact ih0 _ _ _ _
      | exact LeO.none _
      | refine LeO.ite ?_ ?_
      | refine LeO.bind ?_ (fun _ => ?_)
theorem slices_Index_string_string.mono : ∀ a0 a1 k, LeO (slices_Index_string_string.f k a0 a1) (slices_Index_string_string.f (k + 1) a0 a1) := by
  intro a0 a1 k
  have ih0 := slices_Index_string_string.mono_l k
  unfold slices_Index_string_string.f
  repeat' first
      | (with_reducible exact ih0 _ _ _ _)
      | (with_reducible exact LeO.refl _)
      | (with_reducible exact LeO.none _)
      | (with_reducible refine LeO.ite ?_ ?_)
      | (with_reducible refine LeO.bind ?_ (fun _ => ?_))
      | exact ih0 _ _ _ _
      | exact LeO.none _
      | refine LeO.ite ?_ ?_
      | refine LeO.bind ?_ (fun _ => ?_)
set_option maxHeartbeats 8000000 in
set_option maxRecDepth 100000 in
theorem slices_Index_string_string.calls (k : Nat) (A0 : Option Addr) (c0 : Nat) (l0 : List ByteArray) (a1 : ByteArray) (r : Int) (w : World) (hr0 : Kd.C Kd.string w A0 l0.length l0) (hc0 : l0.length ≤ c0) (h : slices_Index_string_string.f k l0 a1 = some r) :
    Calls Tryd.prog 90 #[.slice A0 l0.length c0, .string a1] w fun e w' => e = .returned (.int .i64 r) ∧ Drawn0 w w' := by
  have HR0 := Aside0.mk hr0
  have HC0 := Aside0.mk hc0
  clear hr0 hc0
  have H : (slices_Index_string_string.l0 k l0 a1 (l0.length : Int) 0) = some r := h
  clear h
  have H' := Aside0.mk H
  clear H
  go_enter Tryd.func90, Tryd.ntmps90
  go_wp2
  go_loopg [8] k (fun kq v8 w' => ∃ (x8_1 : Int), v8 = .int .i64 x8_1 ∧ Aside0 (slices_Index_string_string.l0 kq l0 a1 (l0.length : Int) x8_1 = some r) ∧ Aside0 (kq ≤ k) ∧ Drawn0 w w')
  case atStart => exact ⟨(0), (by first | rfl | (simp; done) | (simp [*]; done)), H', ⟨Nat.le_refl _⟩, by repeat (first | exact Drawn0.refl _ | apply Drawn0.step)⟩
  case round =>
    clear H'
    try clear p2
    obtain ⟨x8_1, rfl, HA, HK1, ⟨m1, rfl⟩⟩ := hrel
    cases gk with
    | zero => exact absurd HA.out (by simp [slices_Index_string_string.l0])
    | succ k1 =>
      have H := HA.out
      clear HA
      simp only [slices_Index_string_string.l0] at H
      by_cases c3 : x8_1 < (l0.length : Int)
      · rw [if_pos c3] at H
        have c3b0 : decide (x8_1 < (l0.length : Int)) = true := decide_eq_true c3
        clear c3
        by_cases c4 : 0 ≤ x8_1
        · rw [if_pos c4] at H
          have c4b0 : decide (0 ≤ x8_1) = true := decide_eq_true c4
          clear c4
          by_cases c5 : x8_1 < (l0.length : Int)
          · rw [if_pos c5] at H
            have c5b0 : decide (x8_1 < (l0.length : Int)) = true := decide_eq_true c5
            clear c5
            by_cases c6 : a1.toList = (rdOf ByteArray.empty l0 x8_1).toList
            · rw [if_pos c6] at H
              have c6b0 : (a1.toList == (rdOf ByteArray.empty l0 x8_1).toList) = true := beq_iff_eq.mpr c6
              have c6b1 : (a1.toList != (rdOf ByteArray.empty l0 x8_1).toList) = false := bne_eq_false_iff_eq.mpr c6
              clear c6
              obtain rfl := Option.some.inj H
              have p330 : 0 ≤ (x8_1 : Int) := of_decide_eq_true (by first | (with_reducible assumption) | assumption)
              have q330 : x8_1 < (l0.length : Int) := of_decide_eq_true (by first | (with_reducible assumption) | assumption)
              obtain ⟨ad330, e330, hx330_0⟩ := Kd.at_string HR0.out x8_1 p330 q330
              cases e330
              replace p330 := eq_true p330
              replace q330 := eq_true q330
              go_wp2
              go_ret
              exact ⟨by first | rfl | (simp; done) | (simp [*]; done), by repeat (first | exact Drawn0.refl _ | apply Drawn0.step)⟩
            · rw [if_neg c6] at H
              have c6b0 : (a1.toList == (rdOf ByteArray.empty l0 x8_1).toList) = false := beq_eq_false_iff_ne.mpr c6
              have c6b1 : (a1.toList != (rdOf ByteArray.empty l0 x8_1).toList) = true := bne_iff_ne.mpr c6
              have H' := Aside0.mk H
              clear H
              have p330 : 0 ≤ (x8_1 : Int) := of_decide_eq_true (by first | (with_reducible assumption) | assumption)
              have q330 : x8_1 < (l0.length : Int) := of_decide_eq_true (by first | (with_reducible assumption) | assumption)
              obtain ⟨ad330, e330, hx330_0⟩ := Kd.at_string HR0.out x8_1 p330 q330
              cases e330
              replace p330 := eq_true p330
              replace q330 := eq_true q330
              go_wp2
              go_roundg k1
              case measure => have := HK1.out; omega
              case rel => exact ⟨(wrap64 (x8_1 + 1)), (by first | rfl | (simp; done) | (simp [*]; done)), H', ⟨by have := HK1.out; omega⟩, by repeat (first | exact Drawn0.refl _ | apply Drawn0.step)⟩
          · rw [if_neg c5] at H
            exact absurd H (by simp)
        · rw [if_neg c4] at H
          exact absurd H (by simp)
      · rw [if_neg c3] at H
        have c3b0 : decide (x8_1 < (l0.length : Int)) = false := decide_eq_false c3
        clear c3
        obtain rfl := Option.some.inj H
        go_wp2
        go_ret
        exact ⟨by first | rfl | (simp; done) | (simp [*]; done), by repeat (first | exact Drawn0.refl _ | apply Drawn0.step)⟩
def slices_Contains_string_string.f (k : Nat) (l0 : List ByteArray) (a1 : ByteArray) : Option (Bool) := (slices_Index_string_string.f k l0 a1).bind fun t331 => (some (decide (t331 ≥ 0)))
theorem slices_Contains_string_string.mono : ∀ a0 a1 k, LeO (slices_Contains_string_string.f k a0 a1) (slices_Contains_string_string.f (k + 1) a0 a1) := by
  intro a0 a1 k
  unfold slices_Contains_string_string.f
  repeat' first
      | (with_reducible exact slices_Index_string_string.mono _ _ _)
      | (with_reducible exact LeO.refl _)
      | (with_reducible exact LeO.none _)
      | (with_reducible refine LeO.ite ?_ ?_)
      | (with_reducible refine LeO.bind ?_ (fun _ => ?_))
      | exact slices_Index_string_string.mono _ _ _
      | exact LeO.none _
      | refine LeO.ite ?_ ?_
      | refine LeO.bind ?_ (fun _ => ?_)
set_option maxHeartbeats 8000000 in
set_option maxRecDepth 100000 in
theorem slices_Contains_string_string.calls (k : Nat) (A0 : Option Addr) (c0 : Nat) (l0 : List ByteArray) (a1 : ByteArray) (r : Bool) (w : World) (hr0 : Kd.C Kd.string w A0 l0.length l0) (hc0 : l0.length ≤ c0) (h : slices_Contains_string_string.f k l0 a1 = some r) :
    Calls Tryd.prog 82 #[.slice A0 l0.length c0, .string a1] w fun e w' => e = .returned (.bool r) ∧ Drawn0 w w' := by
  have HR0 := Aside0.mk hr0
  have HC0 := Aside0.mk hc0
  clear hr0 hc0
  have H : ((slices_Index_string_string.f k l0 a1).bind fun t331 => (some (decide (t331 ≥ 0)))) = some r := h
  clear h
  replace H := Option.bind_eq_some_iff.mp H
  obtain ⟨t331, A30, H⟩ := H
  replace H : (some (decide (t331 ≥ 0))) = some r := H
  have A3 := Aside0.mk A30
  clear A30
  obtain rfl := Option.some.inj H
  go_enter Tryd.func82, Tryd.ntmps82
  go_wp2_with (first | ((with_reducible refine gate_callee (f := 90) rfl ?_); refine goesL_ (some 7) rfl rfl Tryd.func90 (by kernel_rfl) rfl #[.slice A0 l0.length c0, .string a1] rfl (by (try simp only [List.map_toArray, List.map_cons, List.map_nil]); first | done | rfl | (simp only [List.length_drop, List.length_take]; rfl)) ?_; (with_reducible refine (slices_Index_string_string.calls k _ _ l0 a1 t331 _ ?side1 ?side2 A3.out).mono ?_); (case side1 => repeat (first | exact HR0.out | (with_reducible refine Kd.C_alloc ?_ _) | (with_reducible refine Kd.C_drewN ?_ _) | (with_reducible refine Kd.C_drew ?_))); (case side2 => exact HC0.out); rintro e w' ⟨rfl, ⟨nd, rfl⟩⟩; refine ⟨_, rfl, ?_⟩))
  go_ret
  exact ⟨by first | rfl | (simp; done) | (simp [*]; done), by repeat (first | exact Drawn0.refl _ | apply Drawn0.step)⟩
def ascii_Any.f (k : Nat) (a0 : ByteArray) (l1 : List ByteArray) : Option (Bool) := (slices_Contains_string_string.f k l1 a0).bind fun t332 => (some t332)
theorem ascii_Any.mono : ∀ a0 a1 k, LeO (ascii_Any.f k a0 a1) (ascii_Any.f (k + 1) a0 a1) := by
  intro a0 a1 k
  unfold ascii_Any.f
  repeat' first
      | (with_reducible exact slices_Contains_string_string.mono _ _ _)
      | (with_reducible exact LeO.refl _)
      | (with_reducible exact LeO.none _)
      | (with_reducible refine LeO.ite ?_ ?_)
      | (with_reducible refine LeO.bind ?_ (fun _ => ?_))
      | exact slices_Contains_string_string.mono _ _ _
      | exact LeO.none _
      | refine LeO.ite ?_ ?_
      | refine LeO.bind ?_ (fun _ => ?_)
set_option maxHeartbeats 8000000 in
set_option maxRecDepth 100000 in
theorem ascii_Any.calls (k : Nat) (a0 : ByteArray) (A1 : Option Addr) (c1 : Nat) (l1 : List ByteArray) (r : Bool) (w : World) (hr1 : Kd.C Kd.string w A1 l1.length l1) (hc1 : l1.length ≤ c1) (h : ascii_Any.f k a0 l1 = some r) :
    Calls Tryd.prog 70 #[.string a0, .slice A1 l1.length c1] w fun e w' => e = .returned (.bool r) ∧ Drawn0 w w' := by
  have HR1 := Aside0.mk hr1
  have HC1 := Aside0.mk hc1
  clear hr1 hc1
  have H : ((slices_Contains_string_string.f k l1 a0).bind fun t332 => (some t332)) = some r := h
  clear h
  replace H := Option.bind_eq_some_iff.mp H
  obtain ⟨t332, A30, H⟩ := H
  replace H : (some t332) = some r := H
  have A3 := Aside0.mk A30
  clear A30
  obtain rfl := Option.some.inj H
  go_enter Tryd.func70, Tryd.ntmps70
  go_wp2_with (first | ((with_reducible refine gate_callee (f := 82) rfl ?_); refine goesL_ (some 7) rfl rfl Tryd.func82 (by kernel_rfl) rfl #[.slice A1 l1.length c1, .string a0] rfl (by (try simp only [List.map_toArray, List.map_cons, List.map_nil]); first | done | rfl | (simp only [List.length_drop, List.length_take]; rfl)) ?_; (with_reducible refine (slices_Contains_string_string.calls k _ _ l1 a0 t332 _ ?side1 ?side2 A3.out).mono ?_); (case side1 => repeat (first | exact HR1.out | (with_reducible refine Kd.C_alloc ?_ _) | (with_reducible refine Kd.C_drewN ?_ _) | (with_reducible refine Kd.C_drew ?_))); (case side2 => exact HC1.out); rintro e w' ⟨rfl, ⟨nd, rfl⟩⟩; refine ⟨_, rfl, ?_⟩))
  go_ret
  exact ⟨by first | rfl | (simp; done) | (simp [*]; done), by repeat (first | exact Drawn0.refl _ | apply Drawn0.step)⟩
/-- A state of type 67 at block g of W; what its slices lead to came in by w0. -/
def IsS67 (w0 W : World) (g : Nat) (f0 : List (S40)) (f1 : Int) (f2 : Int) (f3 : Int) (f4 : Int) : Prop := ∃ A0 c0, W.heap[g]? = some (.cells #[.slice A0 f0.length c0, .int .i64 f1, .int .i64 f2, .int .i64 f3, .int .i64 f4] 67 (0, 0)) ∧ w0.heap.size ≤ g ∧ Kd.C k40 w0 A0 f0.length f0
theorem IsS67.grown {w0 W : World} {g : Nat} {f0 : List (S40)} {f1 : Int} {f2 : Int} {f3 : Int} {f4 : Int} {W1 : World} {row : Option Nat} (h : IsS67 w0 W g f0 f1 f2 f3 f4) (hw : W.grownBy W1 row) (hne : some g ≠ row) : IsS67 w0 W1 g f0 f1 f2 f3 f4 := by
  obtain ⟨A0, c0, hb, hg, hr0⟩ := h
  exact ⟨A0, c0, blk_grown hb hw hne, hg, hr0⟩
theorem IsS67.kept {w0 W : World} {g : Nat} {f0 : List (S40)} {f1 : Int} {f2 : Int} {f3 : Int} {f4 : Int} {W1 : World} {S : Nat → Prop} (h : IsS67 w0 W g f0 f1 f2 f3 f4) (hk : Kept W W1 S) (hne : ¬ S g) : IsS67 w0 W1 g f0 f1 f2 f3 f4 := by
  obtain ⟨A0, c0, hb, hg, hr0⟩ := h
  exact ⟨A0, c0, blk_kept hb hk hne, hg, hr0⟩
theorem IsS67.below {w0 W : World} {g : Nat} {f0 : List (S40)} {f1 : Int} {f2 : Int} {f3 : Int} {f4 : Int} {W1 : World} (h : IsS67 w0 W g f0 f1 f2 f3 f4) (hw : Below W.heap.size W W1) : IsS67 w0 W1 g f0 f1 f2 f3 f4 := h.grown (grown_of_below hw none) (by simp)
theorem IsS67.alloc {w0 W : World} {g : Nat} {f0 : List (S40)} {f1 : Int} {f2 : Int} {f3 : Int} {f4 : Int} (h : IsS67 w0 W g f0 f1 f2 f3 f4) (o : Obj) : IsS67 w0 (W.alloc o) g f0 f1 f2 f3 f4 := h.below (below_alloc (Below.refl _ _) o)
theorem IsS67.drewN {w0 W : World} {g : Nat} {f0 : List (S40)} {f1 : Int} {f2 : Int} {f3 : Int} {f4 : Int} (h : IsS67 w0 W g f0 f1 f2 f3 f4) (m : Nat) : IsS67 w0 (W.drewN m) g f0 f1 f2 f3 f4 := h
theorem IsS67.drew {w0 W : World} {g : Nat} {f0 : List (S40)} {f1 : Int} {f2 : Int} {f3 : Int} {f4 : Int} (h : IsS67 w0 W g f0 f1 f2 f3 f4) : IsS67 w0 W.drew g f0 f1 f2 f3 f4 := h
theorem IsS67.at_ {w0 W : World} {g : Nat} {f0 : List (S40)} {f1 : Int} {f2 : Int} {f3 : Int} {f4 : Int} {w' : World} {m : Nat} (hq : W.drewN m = w') (h : IsS67 w0 W g f0 f1 f2 f3 f4) : IsS67 w0 w' g f0 f1 f2 f3 f4 := by subst hq; exact IsS67.drewN h m
theorem IsS67.apart {w0 W : World} {g : Nat} {f0 : List (S40)} {f1 : Int} {f2 : Int} {f3 : Int} {f4 : Int} {α : Type} {d : Kd α} {e : Nat} {base : Nat} {ok : Nat → Prop} {v : Value} {xs : List α} (h : IsS67 w0 W g f0 f1 f2 f3 f4) (ho : d.R e W base ok v xs) (ht : ∀ q, q ∈ e :: d.E → q ≠ 67) : d.R e W base (fun k => ok k ∧ k ≠ g) v xs := by
  obtain ⟨A0, c0, hb, hg, hr0⟩ := h
  exact Kd.R_types ho hb ht
theorem IsS67.own_ne {w0 W : World} {g : Nat} {f0 : List (S40)} {f1 : Int} {f2 : Int} {f3 : Int} {f4 : Int} {α : Type} {d : Kd α} {e : Nat} {base : Nat} {ok : Nat → Prop} {v : Value} {xs : List α} (h : IsS67 w0 W g f0 f1 f2 f3 f4) (ho : d.R e W base ok v xs) (ht : e ≠ 67) : some g ≠ v.ownBlock := by
  obtain ⟨A0, c0, hb, hg, hr0⟩ := h
  exact Kd.R_ne ho hb ht
theorem IsS67.lt {w0 W : World} {g : Nat} {f0 : List (S40)} {f1 : Int} {f2 : Int} {f3 : Int} {f4 : Int} (h : IsS67 w0 W g f0 f1 f2 f3 f4) : g < W.heap.size := by
  obtain ⟨A0, c0, hb, hg, hr0⟩ := h
  exact blk_lt hb
theorem IsS67.far {w0 W : World} {g : Nat} {f0 : List (S40)} {f1 : Int} {f2 : Int} {f3 : Int} {f4 : Int} {p : Addr} (h : IsS67 w0 W g f0 f1 f2 f3 f4) (hne : g ≠ p.block) (u : Value) : IsS67 w0 (W.setCell p u) g f0 f1 f2 f3 f4 := by
  obtain ⟨A0, c0, hb, hg, hr0⟩ := h
  exact ⟨A0, c0, blk_far hb hne u, hg, hr0⟩
theorem IsS67.new (w0 W : World) (A0 : Option Addr) (c0 : Nat) (f0 : List (S40)) (f1 : Int) (f2 : Int) (f3 : Int) (f4 : Int) (hB : Below w0.heap.size w0 W) (hr0 : Kd.C k40 w0 A0 f0.length f0) : IsS67 w0 (W.alloc (.cells #[.slice A0 f0.length c0, .int .i64 f1, .int .i64 f2, .int .i64 f3, .int .i64 f4] 67)) W.heap.size f0 f1 f2 f3 f4 := ⟨A0, c0, by simpa using heap_alloc_new W _, hB.size, hr0⟩
end Go.Proofs.YtngedmioeodmfaaDoor.Pr
namespace Go.Proofs.YtngedmioeodmfaaDoor.Ps
open Go.RowKit Go.Proofs.YtngedmioeodmfaaDoor.Pr
set_option linter.unusedVariables false
set_option linter.unusedSimpArgs false
abbrev Tk := S40
abbrev Cd := S49
abbrev Res (α : Type) := Except (Int × Int) (α × Nat)
/-- The token that is next. -/
def nxt (T : List Tk) (e : Int) (p : Nat) : Tk := if h : p < T.length then T[p] else ⟨0, e, ⟨#[]⟩⟩
theorem bytes_toList {a b : ByteArray} : a.toList = b.toList ↔ a = b := by
  constructor
  · intro h
    rw [ByteArray.toList_eq, ByteArray.toList_eq] at h
    exact ByteArray.ext (Array.ext' h)
  · rintro rfl; rfl
def memB (s : ByteArray) (ws : List ByteArray) : Bool := ws.any fun w => decide (s = w)
theorem memB_cons (s a : ByteArray) (l : List ByteArray) : memB s (a :: l) = (decide (s = a) || memB s l) := rfl
section
variable (T : List Tk) (e : Int)
def isP (ws : List ByteArray) (p : Nat) : Bool := decide ((nxt T e p).f0 = 1) && memB (nxt T e p).f2 ws
def takeP (kind : Int) (p : Nat) : Res ByteArray := if (nxt T e p).f0 = kind then .ok ((nxt T e p).f2, p + 1) else .error (8, (nxt T e p).f1)
def wordP (ws : List ByteArray) (p : Nat) : Res ByteArray := if isP T e ws p then takeP T e 1 p else .error (8, (nxt T e p).f1)
/-- One more behind each word. -/
def kidsL (one : Nat → Res Cd) (w : ByteArray) : Nat → List Cd → Nat → Res (List Cd)
  | 0, acc, p => .ok (acc, p)
  | f + 1, acc, p => if isP T e [w] p then (match one (p + 1) with
    | .error x => .error x
    | .ok (c, q) => kidsL one w f (acc ++ [c]) q) else .ok (acc, p)
def cond0 (k : Int) (l : List Cd) : Cd := ⟨k, ⟨⟨#[]⟩, ⟨#[]⟩⟩, l⟩
def kidsP (kind : Int) (w : ByteArray) (one : Nat → Res Cd) (p : Nat) : Res Cd :=
  match one p with
  | .error x => .error x
  | .ok (c, q) => match kidsL T e one w (T.length + 1 - q) [c] q with
    | .error x => .error x
    | .ok (l, r) => if l.length = 1 then .ok (l.getD 0 z49, r) else .ok (cond0 kind l, r)
def wNot : ByteArray := ⟨#[110, 111, 116]⟩
def wAnd : ByteArray := ⟨#[97, 110, 100]⟩
def wOr : ByteArray := ⟨#[111, 114]⟩
def wTrue : ByteArray := ⟨#[116, 114, 117, 101]⟩
def wFalse : ByteArray := ⟨#[102, 97, 108, 115, 101]⟩
def lowB (s : ByteArray) : ByteArray := ⟨s.data.map fun c => if 65 ≤ c ∧ c ≤ 90 then c + 32 else c⟩
def wMethod : ByteArray := ⟨#[109, 101, 116, 104, 111, 100]⟩
def wDest : ByteArray := ⟨#[100, 101, 115, 116]⟩
def wScheme : ByteArray := ⟨#[115, 99, 104, 101, 109, 101]⟩
def wHeader : ByteArray := ⟨#[104, 101, 97, 100, 101, 114]⟩
def wHost : ByteArray := ⟨#[104, 111, 115, 116]⟩
def wPath : ByteArray := ⟨#[112, 97, 116, 104]⟩
def wSame : ByteArray := ⟨#[115, 97, 109, 101, 45, 111, 114, 105, 103, 105, 110]⟩
def wTrusted : ByteArray := ⟨#[116, 114, 117, 115, 116, 101, 100]⟩
def wCreds : ByteArray := ⟨#[99, 114, 101, 100, 115]⟩
def wCors : ByteArray := ⟨#[99, 111, 114, 115]⟩
def atomWords : List ByteArray := [wTrue, wFalse, wSame, wTrusted, wCreds, wCors, wMethod, wDest, wScheme, wHeader, wHost, wPath]
def atomT (w : ByteArray) (f : ByteArray → ByteArray) : Res ByteArray → Res Cd
  | .error x => .error x
  | .ok (t, q) => .ok (⟨3, ⟨w, f t⟩, []⟩, q)
def atomK (w : ByteArray) (q : Nat) : Res Cd :=
  if w = wTrue then .ok (cond0 1 [], q) else if w = wFalse then .ok (cond0 2 [], q)
  else if w = wMethod then atomT w id (takeP T e 1 q)
  else if w = wDest ∨ w = wScheme ∨ w = wHeader then atomT w lowB (takeP T e 1 q)
  else if w = wHost ∨ w = wPath then atomT w id (takeP T e 2 q)
  else .ok (⟨3, ⟨w, ⟨#[]⟩⟩, []⟩, q)
def atomP (p : Nat) : Res Cd :=
  match wordP T e atomWords p with
  | .error x => .error x
  | .ok (w, q) => atomK T e w q
def closeK (c : Cd) : Res ByteArray → Res Cd
  | .error x => .error x
  | .ok (_, r) => .ok (c, r)
def closeP : Res Cd → Res Cd
  | .error x => .error x
  | .ok (c, q) => closeK c (takeP T e 4 q)
def orP (one : Nat → Res Cd) (p : Nat) : Res Cd := kidsP T e 6 wOr (kidsP T e 5 wAnd one) p
def wrapNot : Res Cd → Res Cd
  | .error x => .error x
  | .ok (c, q) => .ok (cond0 4 [c], q)
/-- not, at a depth; one: what reads one deeper. -/
def notR (deep : Int) (one : Nat → Res Cd) (p : Nat) : Res Cd :=
  if isP T e [wNot] p then wrapNot (if deep < 30 then one (p + 1) else .error (2, (nxt T e p).f1))
  else if (nxt T e p).f0 = 3 then (if deep < 30 then closeP T e (orP T e one (p + 1)) else .error (2, (nxt T e p).f1))
  else atomP T e p
/-- not, n brackets or nots still to come. -/
def notN : Nat → Nat → Res Cd
  | 0, p => if isP T e [wNot] p then .error (2, (nxt T e p).f1) else if (nxt T e p).f0 = 3 then .error (2, (nxt T e p).f1) else atomP T e p
  | n + 1, p => if isP T e [wNot] p then wrapNot (notN n (p + 1)) else if (nxt T e p).f0 = 3 then closeP T e (orP T e (notN n) (p + 1)) else atomP T e p
end
end Go.Proofs.YtngedmioeodmfaaDoor.Ps
namespace Go.Proofs.YtngedmioeodmfaaDoor.Ps
open Go.RowKit Go.Proofs.YtngedmioeodmfaaDoor.Pr
set_option linter.unusedVariables false
set_option linter.unusedSimpArgs false
abbrev Sh := S44
abbrev Rl := S51
def wCsp : ByteArray := ⟨#[99, 115, 112]⟩
def wShare : ByteArray := ⟨#[115, 104, 97, 114, 101]⟩
def wMixed : ByteArray := ⟨#[109, 105, 120, 101, 100]⟩
def wDefault : ByteArray := ⟨#[100, 101, 102, 97, 117, 108, 116]⟩
def wAllow : ByteArray := ⟨#[97, 108, 108, 111, 119]⟩
def wDeny : ByteArray := ⟨#[100, 101, 110, 121]⟩
def wBlock : ByteArray := ⟨#[98, 108, 111, 99, 107]⟩
def wUpgrade : ByteArray := ⟨#[117, 112, 103, 114, 97, 100, 101]⟩
def wIf : ByteArray := ⟨#[105, 102]⟩
/-- A policy and what the reader keeps beside it: the items, and how often mixed and default were met. -/
structure Pst where
  csp : List ByteArray
  shares : List Sh
  mixed : ByteArray
  rules : List Rl
  allow : Bool
  items : Nat
  metM : Nat
  metD : Nat
def pst0 : Pst := ⟨[], [], wBlock, [], false, 0, 0, 0⟩
section
variable (T : List Tk) (e : Int)
def shareL : Nat → Sh → Nat → Res Sh
  | 0, s, p => .ok (s, p)
  | f + 1, s, p => if isP T e [wMethod, wHeader, wCreds] p then (match takeP T e 1 p with
    | .error x => .error x
    | .ok (w, q) => if w = wMethod then (match takeP T e 1 q with
        | .error x => .error x
        | .ok (t, r) => shareL f ⟨s.f0, s.f1 ++ [t], s.f2, s.f3⟩ r)
      else if w = wHeader then (match takeP T e 1 q with
        | .error x => .error x
        | .ok (t, r) => shareL f ⟨s.f0, s.f1, s.f2 ++ [t], s.f3⟩ r)
      else shareL f ⟨s.f0, s.f1, s.f2, true⟩ q) else .ok (s, p)
def shareP (p : Nat) : Res Sh :=
  match takeP T e 2 p with
  | .error x => .error x
  | .ok (o, q) => shareL T e (T.length + 1 - q) ⟨o, [], [], false⟩ q
/-- What an item's word asks for. -/
def itemK (s : Pst) (w : ByteArray) (q : Nat) : Res Pst :=
  if w = wCsp then (match takeP T e 2 q with
    | .error x => .error x
    | .ok (t, r) => .ok ({ s with csp := s.csp ++ [t] }, r))
  else if w = wShare then (match shareP T e q with
    | .error x => .error x
    | .ok (h, r) => .ok ({ s with shares := s.shares ++ [h] }, r))
  else if w = wMixed then (match wordP T e [wBlock, wUpgrade, wAllow] q with
    | .error x => .error x
    | .ok (t, r) => .ok ({ s with mixed := t }, r))
  else if w = wDefault then (match wordP T e [wAllow, wDeny] q with
    | .error x => .error x
    | .ok (t, r) => .ok ({ s with allow := decide (t = wAllow) }, r))
  else match wordP T e [wIf] q with
    | .error x => .error x
    | .ok (_, r) => match orP T e (notN T e 30) r with
      | .error x => .error x
      | .ok (c, r2) => .ok ({ s with rules := s.rules ++ [⟨decide (w = wAllow), c⟩] }, r2)
/-- The item that the words mixed and default may name once. -/
def onceP (s : Pst) (p : Nat) : Except (Int × Int) Pst :=
  if isP T e [wMixed, wDefault] p then
    (if (nxt T e p).f2 = wMixed then (if s.metM + 1 > 1 then .error (10, (nxt T e p).f1) else .ok { s with metM := s.metM + 1 })
      else if s.metD + 1 > 1 then .error (10, (nxt T e p).f1) else .ok { s with metD := s.metD + 1 })
  else .ok s
def itemP (s : Pst) (p : Nat) : Res Pst :=
  if isP T e [wCsp, wShare, wMixed, wDefault, wAllow, wDeny] p then (match onceP T e s p with
    | .error x => .error x
    | .ok s1 => if s1.items + 1 > 60 then .error (2, (nxt T e p).f1) else (match takeP T e 1 p with
      | .error x => .error x
      | .ok (w, q) => itemK T e { s1 with items := s1.items + 1 } w q)) else .error (8, (nxt T e p).f1)
def itemsP : Nat → Pst → Nat → Except (Int × Int) Pst
  | 0, s, p => .ok s
  | f + 1, s, p => if p < T.length then (match itemP T e s p with
    | .error x => .error x
    | .ok (s1, q) => match takeP T e 5 q with
      | .error x => .error x
      | .ok (_, r) => itemsP f s1 r) else .ok s
def polP : Except (Int × Int) Pst := itemsP T e (T.length + 1) pst0 0
end
end Go.Proofs.YtngedmioeodmfaaDoor.Ps
namespace Go.Proofs.YtngedmioeodmfaaDoor.Pr
open Go.RowKit Go.Proofs.YtngedmioeodmfaaDoorW.PrintWords Go.Proofs.YtngedmioeodmfaaDoorW.PrintLast Go.Proofs.YtngedmioeodmfaaDoorW.PrintMore
attribute [local go_sem] max2_int min2_int max_two min_two max_three min_three max_four min_four   -- for this text's walks alone
set_option linter.unusedVariables false
set_option linter.unusedSimpArgs false
theorem eqA30 (d : Nat) (w : World) (x0 y0 : Int) (x1 y1 : Int) :
    (Op.equalIn (d + 2) 30 (.agg #[.int .i64 x0, .int .i64 x1]) (.agg #[.int .i64 y0, .int .i64 y1])).run Tryd.prog w = .ok (x0 == y0 && (x1 == y1)) w := by
  refine eqA_of Tryd.underlying30 (by kernel_rfl) ?_
  refine eqf_cons (by rfl) (by go_simp; rfl) (by go_simp; rfl) (by go_simp) ?_
  exact eqf_last (by rfl) (by go_simp; rfl) (by go_simp; rfl) (by go_simp)
end Go.Proofs.YtngedmioeodmfaaDoor.Pr
namespace Go.Proofs.YtngedmioeodmfaaDoor.Pr
open Go.RowKit Go.Proofs.YtngedmioeodmfaaDoorW.PrintWords Go.Proofs.YtngedmioeodmfaaDoorW.PrintLast Go.Proofs.YtngedmioeodmfaaDoorW.PrintMore
attribute [local go_sem] max2_int min2_int max_two min_two max_three min_three max_four min_four   -- for this text's walks alone
set_option linter.unusedVariables false
set_option linter.unusedSimpArgs false
theorem eqA46 (d : Nat) (w : World) (x0 y0 : ByteArray) (x1 y1 : ByteArray) :
    (Op.equalIn (d + 2) 46 (.agg #[.string x0, .string x1]) (.agg #[.string y0, .string y1])).run Tryd.prog w = .ok (x0.toList == y0.toList && (x1.toList == y1.toList)) w := by
  refine eqA_of Tryd.underlying46 (by kernel_rfl) ?_
  refine eqf_cons (by rfl) (by go_simp; rfl) (by go_simp; rfl) (by go_simp) ?_
  exact eqf_last (by rfl) (by go_simp; rfl) (by go_simp; rfl) (by go_simp)
end Go.Proofs.YtngedmioeodmfaaDoor.Pr
