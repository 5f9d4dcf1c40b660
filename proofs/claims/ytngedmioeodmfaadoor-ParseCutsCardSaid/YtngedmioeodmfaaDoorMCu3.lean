/- 12 texts of the proof, put together, less what is not used; what a tool printed stands among them. -/
import Derived.IntWalk
import Derived.Laws.BitsLemmas
import Derived.Lib.ValidLaws
import Derived.Lib.TrimUEq
import Derived.Lib.MapLaws
import Derived.Test.YtngedmioeodmfaaDoorMCu2
namespace Go.Proofs.YtngedmioeodmfaaDoor.Lx
open Go.RowKit Go.Proofs.YtngedmioeodmfaaDoor.Pr Go.Proofs.YtngedmioeodmfaaDoorW.PrintWords Go.Proofs.YtngedmioeodmfaaDoorW.PrintLast Go.Proofs.YtngedmioeodmfaaDoorW.PrintMore
set_option linter.unusedVariables false
set_option linter.unusedSimpArgs false
set_option maxHeartbeats 4000000 in
set_option maxRecDepth 100000 in
theorem token_p40 (s : ByteArray) (i : Nat) (L : Value) (ts : List Tk) (g base : Nat) (w : World) (hs : s.size ≤ 140737488351232) (hi : i < s.size) (hb : Blk w g s i L)
    (hO : Kd.R k40 40 w base (fun k => k ≠ g) L ts) (hbase : base ≤ g) (hts : ts.length ≤ 1000000000) (hl : pLetter (bt s i) = false) (q : bt s (i : Int) = 40) :
    Calls Tryd.prog 37 #[.pointer (some ⟨g, 0, none⟩)] w fun e w' =>
      e = .returned (.bool true) ∧ ∃ L', Blk w' g s ((i : Int) + 1) L' ∧ Kd.R k40 40 w' base (fun k => k ≠ g) L' (ts ++ [⟨3, i, s.extract i (i + 1)⟩]) ∧ Below base w w' := by
  have hg := blk_lt hb
  have c0 := hb.c0
  have c1 := hb.c1
  have hr := bt_range s (i : Int)
  have HLT := Aside0.mk (show ∀ W : World, Calls Tryd.prog 60 #[.int .u8 (bt s (i : Int))] W fun e w' => e = .returned (.bool false) ∧ Drawn0 W w' from fun W => lex_letter.calls _ _ W ((pLetter_some _ hr.1 hr.2).trans (by rw [hl])))
  have hlt2 : (i : Int) < (s.size : Int) := by omega
  have hx : ∀ h : i < s.size, ((s[i]'h).toNat : Int) = bt s (i : Int) := fun h => bt_at s (i : Int) h
  have b34 : (bt s (i : Int) == 34) = false := by rw [q]; rfl
  have b40 : (bt s (i : Int) == 40) = true := by rw [q]; rfl
  have b41 : (bt s (i : Int) == 41) = false := by rw [q]; rfl
  have b59 : (bt s (i : Int) == 59) = false := by rw [q]; rfl
  have HQ := Aside0.mk (show ∀ W : World, Calls Tryd.prog 63 #[.string ⟨#[40, 41, 59]⟩, .int .u8 (bt s (i : Int))] W fun e w' => e = .returned (.int .i64 0) ∧ w' = W from fun W => by rw [q]; exact Tryd.strings_IndexByte _ _ W)
  clear q
  have HB := Aside0.mk hb
  have HS := Aside0.mk hs
  have HO := Aside0.mk hO
  have HG0 := Aside0.mk hg
  have hu := Tryd.underlying40
  clear hb hO hl
  go_enter Tryd.func37, Tryd.ntmps37
  go_wp2
  go_quiet (fail)
  go_wp2_with fail
  refine (HLT.out _).mono ?_
  rintro e w' ⟨rfl, ⟨n, rfl⟩⟩
  have hne : w.heap.size ≠ g := by omega
  have hz1 : (i : Int) ≤ (i : Int) + 1 := by omega
  have hz2 : (i : Int) + 1 ≤ (s.size : Int) := by omega
  go_wp2
  have hT1 : ((w.alloc (.cells #[.int .i64 0, .int .i64 i, .string ⟨#[]⟩] 40)).drewN (nq + n)).heap[w.heap.size]? = some (.cells #[.int .i64 0, .int .i64 i, .string ⟨#[]⟩] 40 (0, 0)) := blk_drewN (blk_new w _) _
  have hb1 : Blk ((w.alloc (.cells #[.int .i64 0, .int .i64 i, .string ⟨#[]⟩] 40)).drewN (nq + n)) g s i L := blk_drewN (blk_alloc HB.out _) _
  have ho1 : Kd.R k40 40 ((w.alloc (.cells #[.int .i64 0, .int .i64 i, .string ⟨#[]⟩] 40)).drewN (nq + n)) base (fun k => k ≠ g ∧ k ≠ w.heap.size) L ts := Kd.R_mono (Kd.R_drewN (Kd.R_alloc (Kd.R_bound HO.out) _) _) (fun k hk => ⟨hk.1, Nat.ne_of_lt hk.2.2.1⟩)
  have hw1 : Below base w ((w.alloc (.cells #[.int .i64 0, .int .i64 i, .string ⟨#[]⟩] 40)).drewN (nq + n)) := (pw_below_drewN (below_alloc (Below.refl w.heap.size w) _) _).mono (by omega)
  generalize ((w.alloc (.cells #[.int .i64 0, .int .i64 i, .string ⟨#[]⟩] 40)).drewN (nq + n)) = W1 at hT1 hb1 ho1 hw1 ⊢
  clear c0 c1
  have d0 := hb1.c0
  have d1 := hb1.c1
  have df1 := hb1.fr 1
  have t0 := (blk_cell hT1 0).trans rfl
  have t2 := (blk_cell hT1 2).trans rfl
  have tf0 := blk_frozen hT1 0
  have tf2 := blk_frozen hT1 2
  have HT1 := Aside0.mk hT1
  have HB1 := Aside0.mk hb1
  have HO1 := Aside0.mk ho1
  have HW1 := Aside0.mk hw1
  clear hT1 hb1 ho1 hw1
  have hz3 : i ≤ i + 1 := by omega
  have hz4 : i + 1 ≤ s.size := by omega
  have hz5 : (0 : Int) ≤ (i : Int) + 1 := by omega
  have hz6 : ((i : Int) + 1).toNat = i + 1 := by omega
  have hz7 : IntKind.i64.wrap ((i : Int) + 1) = (i : Int) + 1 := IntWalk.i64_in _ (by omega)
  refine start_ (n := 24) (S := fun w' => w'.cell? ⟨g, 0, none⟩ = some (.string s) ∧ w'.cell? ⟨g, 1, none⟩ = some (.int .i64 i)) (ds := []) #[false, false, false, false, false, false, false, false, false, false, false, false, false, false, false, false, false, false, false, false, false, false, false, false] (by kernel_rfl) rfl rfl ⟨d0, d1⟩ (fun hHeld => ?_)
  refine pure_ (i := 0) (N := some 49) (v := ?_) (a' := ?_) #[true, false, false, false, false, false, false, false, false, false, false, false, false, false, false, false, false, false, false, false, false, false, false, false] rfl rfl (by kernel_rfl) (fun _ _ _ h => h) (Or.inl ⟨by rfl, ?_⟩) ?_ ?_
  rotate_left
  · intro w'
    go_simp
    with_reducible rfl
  rotate_left
  · simp only [Act.put, List.setIfInBounds_toArray, List.set_cons_zero, List.set_cons_succ, i64_w, i32_w]
    rfl
  refine pure_ (i := 3) (N := some 52) (v := ?_) (a' := ?_) #[true, false, false, true, false, false, false, false, false, false, false, false, false, false, false, false, false, false, false, false, false, false, false, false] rfl rfl (by kernel_rfl) (fun _ _ _ h => h) (Or.inl ⟨by rfl, ?_⟩) ?_ ?_
  rotate_left
  · intro w'
    go_simp
    with_reducible rfl
  rotate_left
  · simp only [Act.put, List.setIfInBounds_toArray, List.set_cons_zero, List.set_cons_succ, i64_w, i32_w]
    rfl
  refine pure_ (i := 4) (N := some 53) (v := ?_) (a' := ?_) #[true, false, false, true, true, false, false, false, false, false, false, false, false, false, false, false, false, false, false, false, false, false, false, false] rfl rfl (by kernel_rfl) (fun _ _ _ h => h) (Or.inl ⟨by rfl, ?_⟩) ?_ ?_
  rotate_left
  · intro w'
    go_simp
    with_reducible rfl
  rotate_left
  · simp only [Act.put, List.setIfInBounds_toArray, List.set_cons_zero, List.set_cons_succ, i64_w, i32_w]
    rfl
  refine pure_ (i := 5) (N := some 54) (v := ?_) (a' := ?_) #[true, false, false, true, true, true, false, false, false, false, false, false, false, false, false, false, false, false, false, false, false, false, false, false] rfl rfl (by kernel_rfl) (fun _ _ _ h => h) (Or.inl ⟨by rfl, ?_⟩) ?_ ?_
  rotate_left
  · intro w'
    go_simp
    with_reducible rfl
  rotate_left
  · simp only [Act.put, List.setIfInBounds_toArray, List.set_cons_zero, List.set_cons_succ, i64_w, i32_w]
    rfl
  refine pure_ (i := 6) (N := some 55) (v := ?_) (a' := ?_) #[true, false, false, true, true, true, true, false, false, false, false, false, false, false, false, false, false, false, false, false, false, false, false, false] rfl rfl (by kernel_rfl) (fun _ _ _ h => h) (Or.inl ⟨by rfl, ?_⟩) ?_ ?_
  rotate_left
  · intro w'
    go_simp
    with_reducible rfl
  rotate_left
  · simp only [Act.put, List.setIfInBounds_toArray, List.set_cons_zero, List.set_cons_succ, i64_w, i32_w]
    rfl
  refine pure_ (i := 8) (N := some 57) (v := ?_) (a' := ?_) #[true, false, false, true, true, true, true, false, true, false, false, false, false, false, false, false, false, false, false, false, false, false, false, false] rfl rfl (by kernel_rfl) (fun _ _ _ h => h) (Or.inl ⟨by rfl, ?_⟩) ?_ ?_
  rotate_left
  · intro w'
    go_simp
    with_reducible rfl
  rotate_left
  · simp only [Act.put, List.setIfInBounds_toArray, List.set_cons_zero, List.set_cons_succ, i64_w, i32_w]
    rfl
  refine pure_ (i := 9) (N := some 58) (v := ?_) (a' := ?_) #[true, false, false, true, true, true, true, false, true, true, false, false, false, false, false, false, false, false, false, false, false, false, false, false] rfl rfl (by kernel_rfl) (fun _ _ _ h => h) (Or.inl ⟨by rfl, ?_⟩) ?_ ?_
  rotate_left
  · intro w'
    go_simp
    with_reducible rfl
  rotate_left
  · simp only [Act.put, List.setIfInBounds_toArray, List.set_cons_zero, List.set_cons_succ, i64_w, i32_w]
    rfl
  refine pure_ (i := 10) (N := some 59) (v := ?_) (a' := ?_) #[true, false, false, true, true, true, true, false, true, true, true, false, false, false, false, false, false, false, false, false, false, false, false, false] rfl rfl (by kernel_rfl) (fun _ _ _ h => h) (Or.inl ⟨by rfl, ?_⟩) ?_ ?_
  rotate_left
  · intro w'
    go_simp
    with_reducible rfl
  rotate_left
  · simp only [Act.put, List.setIfInBounds_toArray, List.set_cons_zero, List.set_cons_succ, i64_w, i32_w]
    rfl
  refine pure_ (i := 11) (N := some 60) (v := ?_) (a' := ?_) #[true, false, false, true, true, true, true, false, true, true, true, true, false, false, false, false, false, false, false, false, false, false, false, false] rfl rfl (by kernel_rfl) (fun _ _ _ h => h) (Or.inl ⟨by rfl, ?_⟩) ?_ ?_
  rotate_left
  · intro w'
    go_simp
    with_reducible rfl
  rotate_left
  · simp only [Act.put, List.setIfInBounds_toArray, List.set_cons_zero, List.set_cons_succ, i64_w, i32_w]
    rfl
  refine pure_ (i := 13) (N := some 62) (v := ?_) (a' := ?_) #[true, false, false, true, true, true, true, false, true, true, true, true, false, true, false, false, false, false, false, false, false, false, false, false] rfl rfl (by kernel_rfl) (fun _ _ _ h => h) (Or.inl ⟨by rfl, ?_⟩) ?_ ?_
  rotate_left
  · intro w'
    go_simp
    with_reducible rfl
  rotate_left
  · simp only [Act.put, List.setIfInBounds_toArray, List.set_cons_zero, List.set_cons_succ, i64_w, i32_w]
    rfl
  refine pure_ (i := 14) (N := some 63) (v := ?_) (a' := ?_) #[true, false, false, true, true, true, true, false, true, true, true, true, false, true, true, false, false, false, false, false, false, false, false, false] rfl rfl (by kernel_rfl) (fun _ _ _ h => h) (Or.inl ⟨by rfl, ?_⟩) ?_ ?_
  rotate_left
  · intro w'
    go_simp
    with_reducible rfl
  rotate_left
  · simp only [Act.put, List.setIfInBounds_toArray, List.set_cons_zero, List.set_cons_succ, i64_w, i32_w]
    rfl
  refine pure_ (i := 15) (N := some 64) (v := ?_) (a' := ?_) #[true, false, false, true, true, true, true, false, true, true, true, true, false, true, true, true, false, false, false, false, false, false, false, false] rfl rfl (by kernel_rfl) (fun _ _ _ h => h) (Or.inl ⟨by rfl, ?_⟩) ?_ ?_
  rotate_left
  · intro w'
    go_simp
    with_reducible rfl
  rotate_left
  · simp only [Act.put, List.setIfInBounds_toArray, List.set_cons_zero, List.set_cons_succ, i64_w, i32_w]
    rfl
  refine pure_ (i := 16) (N := some 65) (v := ?_) (a' := ?_) #[true, false, false, true, true, true, true, false, true, true, true, true, false, true, true, true, true, false, false, false, false, false, false, false] rfl rfl (by kernel_rfl) (fun _ _ _ h => h) (Or.inl ⟨by rfl, ?_⟩) ?_ ?_
  rotate_left
  · intro w'
    go_simp
    with_reducible rfl
  rotate_left
  · simp only [Act.put, List.setIfInBounds_toArray, List.set_cons_zero, List.set_cons_succ, i64_w, i32_w]
    rfl
  refine take_ (i := 7) (N := some 56) (v := ?_) (a' := ?_) #[true, false, false, true, true, true, true, true, true, true, true, true, false, true, true, true, true, false, false, false, false, false, false, false] rfl rfl (by kernel_rfl) (fun _ _ _ h => h) (Or.inl ⟨by rfl, ?_⟩) hHeld ?_ ?_
  rotate_left
  · rintro w' ⟨s0, s1⟩
    go_simp
    with_reducible rfl
  rotate_left
  · simp only [Act.put, List.setIfInBounds_toArray, List.set_cons_zero, List.set_cons_succ, i64_w, i32_w]
    rfl
  refine take_ (i := 12) (N := some 61) (v := ?_) (a' := ?_) #[true, false, false, true, true, true, true, true, true, true, true, true, true, true, true, true, true, false, false, false, false, false, false, false] rfl rfl (by kernel_rfl) (fun _ _ _ h => h) (Or.inl ⟨by rfl, ?_⟩) hHeld ?_ ?_
  rotate_left
  · rintro w' ⟨s0, s1⟩
    go_simp
    with_reducible rfl
  rotate_left
  · simp only [Act.put, List.setIfInBounds_toArray, List.set_cons_zero, List.set_cons_succ, i64_w, i32_w]
    rfl
  refine take_ (i := 17) (N := some 66) (v := ?_) (a' := ?_) #[true, false, false, true, true, true, true, true, true, true, true, true, true, true, true, true, true, true, false, false, false, false, false, false] rfl rfl (by kernel_rfl) (fun _ _ _ h => h) (Or.inl ⟨by rfl, ?_⟩) hHeld ?_ ?_
  rotate_left
  · rintro w' ⟨s0, s1⟩
    go_simp
    with_reducible rfl
  rotate_left
  · simp only [Act.put, List.setIfInBounds_toArray, List.set_cons_zero, List.set_cons_succ, i64_w, i32_w]
    rfl
  refine pure_ (i := 18) (N := some 67) (v := ?_) (a' := ?_) #[true, false, false, true, true, true, true, true, true, true, true, true, true, true, true, true, true, true, true, false, false, false, false, false] rfl rfl (by kernel_rfl) (fun _ _ _ h => h) (Or.inl ⟨by rfl, ?_⟩) ?_ ?_
  rotate_left
  · intro w'
    go_simp
    with_reducible rfl
  rotate_left
  · simp only [Act.put, List.setIfInBounds_toArray, List.set_cons_zero, List.set_cons_succ, i64_w, i32_w]
    rfl
  refine pure_ (i := 19) (N := some 68) (v := ?_) (a' := ?_) #[true, false, false, true, true, true, true, true, true, true, true, true, true, true, true, true, true, true, true, true, false, false, false, false] rfl rfl (by kernel_rfl) (fun _ _ _ h => h) (Or.inl ⟨by rfl, ?_⟩) ?_ ?_
  rotate_left
  · intro w'
    go_simp
    with_reducible rfl
  rotate_left
  · simp only [Act.put, List.setIfInBounds_toArray, List.set_cons_zero, List.set_cons_succ, i64_w, i32_w]
    rfl
  refine one_ (i := 1) (N := some 50) #[true, true, false, true, true, true, true, true, true, true, true, true, true, true, true, true, true, true, true, true, false, false, false, false] rfl rfl (by kernel_rfl) (by decide) (fun K hK => ?_)
  refine goes_ Tryd.func63 (by kernel_rfl) rfl #[.string ⟨#[40, 41, 59]⟩, .int .u8 (bt s (i : Int))] (by rfl) rfl rfl (by simp only [List.map_toArray, List.map_cons, List.map_nil]; rfl) ?_
  with_reducible refine (HQ.out _).mono ?_
  rintro e w' ⟨rfl, rfl⟩
  refine ⟨_, rfl, ?_⟩
  refine hK.out _ _ ⟨hHeld.1, hHeld.2⟩ (fun hHeld => ?_)
  clear hK K
  refine norm_ (a' := ?_) ?_ ?_
  rotate_left
  · show Act.put _ (some 50) _ = _
    simp only [Act.put, List.setIfInBounds_toArray, List.set_cons_zero, List.set_cons_succ, i64_w, i32_w]
    rfl
  refine pure_ (i := 2) (N := some 51) (v := ?_) (a' := ?_) #[true, true, true, true, true, true, true, true, true, true, true, true, true, true, true, true, true, true, true, true, false, false, false, false] rfl rfl (by kernel_rfl) (fun _ _ _ h => h) (Or.inl ⟨by rfl, ?_⟩) ?_ ?_
  rotate_left
  · intro w'
    go_simp
    with_reducible rfl
  rotate_left
  · simp only [Act.put, List.setIfInBounds_toArray, List.set_cons_zero, List.set_cons_succ, i64_w, i32_w]
    rfl
  refine pure_ (i := 20) (N := some 69) (v := ?_) (a' := ?_) #[true, true, true, true, true, true, true, true, true, true, true, true, true, true, true, true, true, true, true, true, true, false, false, false] rfl rfl (by kernel_rfl) (fun _ _ _ h => h) (Or.inl ⟨by rfl, ?_⟩) ?_ ?_
  rotate_left
  · intro w'
    go_simp
    with_reducible rfl
  rotate_left
  · simp only [Act.put, List.setIfInBounds_toArray, List.set_cons_zero, List.set_cons_succ, i64_w, i32_w]
    rfl
  refine one_ (i := 21) (N := none) #[true, true, true, true, true, true, true, true, true, true, true, true, true, true, true, true, true, true, true, true, true, true, false, false] rfl rfl (by kernel_rfl) (by decide) (fun K hK => ?_)
  refine skip_ (w1 := ?_) (by rfl) rfl ?_ ?_
  rotate_left
  · go_simp
    rfl
  refine hK.out _ _ ⟨(Blk.c0 (blk_far (blk_drew HB1.out) (Ne.symm hne) _)), (Blk.c1 (blk_far (blk_drew HB1.out) (Ne.symm hne) _))⟩ (fun hHeld => ?_)
  clear hK K
  refine pure_ (i := 22) (N := some 70) (v := ?_) (a' := ?_) #[true, true, true, true, true, true, true, true, true, true, true, true, true, true, true, true, true, true, true, true, true, true, true, false] rfl rfl (by kernel_rfl) (fun _ _ _ h => h) (Or.inl ⟨by rfl, ?_⟩) ?_ ?_
  rotate_left
  · intro w'
    go_simp
    with_reducible rfl
  rotate_left
  · simp only [Act.put, List.setIfInBounds_toArray, List.set_cons_zero, List.set_cons_succ, i64_w, i32_w]
    rfl
  refine one_ (i := 23) (N := none) #[true, true, true, true, true, true, true, true, true, true, true, true, true, true, true, true, true, true, true, true, true, true, true, true] rfl rfl (by kernel_rfl) (by decide) (fun K hK => ?_)
  refine skip_ (w1 := ?_) (by rfl) rfl ?_ ?_
  rotate_left
  · go_simp
    rfl
  refine hK.out _ _ ⟨(Blk.c0 (blk_far (blk_far (blk_drew HB1.out) (Ne.symm hne) _) (Ne.symm hne) _)), (Blk.c1 (blk_far (blk_far (blk_drew HB1.out) (Ne.symm hne) _) (Ne.symm hne) _))⟩ (fun hHeld => ?_)
  clear hK K
  refine done_ (by kernel_rfl) ?_

  clear hz3 hz4 hz5 hz6 hz7
  go_wp2
  simp only [show wrap64 3 = (3 : Int) from by unfold wrap64; omega]
  have hT3 : ((((W1.setCell ⟨w.heap.size, 0, none⟩ (.int .i64 3)).setCell ⟨w.heap.size, 2, none⟩ (.string (s.extract i (i + 1)))).setCell ⟨g, 1, none⟩ (.int .i64 ((i : Int) + 1))).drew).heap[w.heap.size]? = some (.cells #[.int .i64 3, .int .i64 i, .string (s.extract i (i + 1))] 40 (0, 0)) :=
    blk_drew (blk_far (blk_put (blk_put HT1.out 0 (.int .i64 3) rfl) 2 (.string (s.extract i (i + 1))) rfl) hne _)
  have hB3 : Blk ((((W1.setCell ⟨w.heap.size, 0, none⟩ (.int .i64 3)).setCell ⟨w.heap.size, 2, none⟩ (.string (s.extract i (i + 1)))).setCell ⟨g, 1, none⟩ (.int .i64 ((i : Int) + 1))).drew) g s ((i : Int) + 1) L := blk_drew (Blk.at1 (blk_far (blk_far HB1.out (Ne.symm hne) _) (Ne.symm hne) _) _)
  have hO3 : Kd.R k40 40 ((((W1.setCell ⟨w.heap.size, 0, none⟩ (.int .i64 3)).setCell ⟨w.heap.size, 2, none⟩ (.string (s.extract i (i + 1)))).setCell ⟨g, 1, none⟩ (.int .i64 ((i : Int) + 1))).drew) base (fun k => k ≠ g) L ts :=
    Kd.R_mono (Kd.R_drew (Kd.R_far (Kd.R_far (Kd.R_far HO1.out (p := ⟨w.heap.size, 0, none⟩) (fun k hk => hk.2) _) (p := ⟨w.heap.size, 2, none⟩) (fun k hk => hk.2) _) (p := ⟨g, 1, none⟩) (fun k hk => hk.1) _)) (fun k hk => hk.1)
  have hW3 : Below base w ((((W1.setCell ⟨w.heap.size, 0, none⟩ (.int .i64 3)).setCell ⟨w.heap.size, 2, none⟩ (.string (s.extract i (i + 1)))).setCell ⟨g, 1, none⟩ (.int .i64 ((i : Int) + 1))).drew) := (((HW1.out.setCell (by simp; omega) _).setCell (by simp; omega) _).setCell (by simpa using hbase) _).drew
  clear t0 t2 tf0 tf2 d0 d1 df1 hne
  generalize ((((W1.setCell ⟨w.heap.size, 0, none⟩ (.int .i64 3)).setCell ⟨w.heap.size, 2, none⟩ (.string (s.extract i (i + 1)))).setCell ⟨g, 1, none⟩ (.int .i64 ((i : Int) + 1))).drew) = W3 at hT3 hB3 hO3 hW3 ⊢
  have HT3 := Aside0.mk hT3
  have HB3 := Aside0.mk hB3
  have HO3 := Aside0.mk hO3
  have HW3 := Aside0.mk hW3
  have t0 := (blk_cell hT3 0).trans rfl
  have t1 := (blk_cell hT3 1).trans rfl
  have t2 := (blk_cell hT3 2).trans rfl
  have d2 := hB3.c2
  have df := hB3.fr 2
  have hg3 := blk_lt hB3
  have hb3 := blk_lt hT3
  have hne : g ≠ w.heap.size := by omega
  clear hT3 hB3 hO3 hW3
  have hbase3 : base ≤ W3.heap.size := by omega
  go_region_law ((refine app_tok base g (by rfl) (.tmp 84) (.tmp 86) rfl L ts (⟨3, i, s.extract i (i + 1)⟩ : Tk) ?aV ?aX ?aG ?aO ?aS ?aL ?_; (case aV => first | rfl | (simp [Act.eval])); (case aX => first | rfl | (simp [Act.eval])); (case aG => exact hg3); (case aO => exact HO3.out); (case aS => exact hbase3); (case aL => omega); intro v1 w1 ho hb1 hg1; obtain ⟨A1, k1, e1⟩ := Kd.R_slice ho; subst e1; have hB4 : Blk w1 g s ((i : Int) + 1) L := blk_grown (blk_drew HB3.out) hg1 (Kd.R_away HO3.out (fun k hk => hk)); have f1' := hB4.fr 2; have c2' := hB4.c2; have HO4 := Aside0.mk ho; have HB4 := Aside0.mk hB4; have HW4 := Aside0.mk (HW3.out.trans hb1); clear ho hb1 hg1 hB4))
  all_goals
    go_wp2
    go_ret
    refine ⟨rfl, _, ?_, Kd.R_far HO4.out (fun k hk => hk) _, HW4.out.setCell (by simp; omega) _⟩
    have := blk_set HB4.out 2 (.slice A1 (ts ++ [(⟨3, i, s.extract i (i + 1)⟩ : Tk)]).length k1)
    simpa [Blk] using this
set_option maxHeartbeats 4000000 in
set_option maxRecDepth 100000 in
theorem token_p41 (s : ByteArray) (i : Nat) (L : Value) (ts : List Tk) (g base : Nat) (w : World) (hs : s.size ≤ 140737488351232) (hi : i < s.size) (hb : Blk w g s i L)
    (hO : Kd.R k40 40 w base (fun k => k ≠ g) L ts) (hbase : base ≤ g) (hts : ts.length ≤ 1000000000) (hl : pLetter (bt s i) = false) (q : bt s (i : Int) = 41) :
    Calls Tryd.prog 37 #[.pointer (some ⟨g, 0, none⟩)] w fun e w' =>
      e = .returned (.bool true) ∧ ∃ L', Blk w' g s ((i : Int) + 1) L' ∧ Kd.R k40 40 w' base (fun k => k ≠ g) L' (ts ++ [⟨4, i, s.extract i (i + 1)⟩]) ∧ Below base w w' := by
  have hg := blk_lt hb
  have c0 := hb.c0
  have c1 := hb.c1
  have hr := bt_range s (i : Int)
  have HLT := Aside0.mk (show ∀ W : World, Calls Tryd.prog 60 #[.int .u8 (bt s (i : Int))] W fun e w' => e = .returned (.bool false) ∧ Drawn0 W w' from fun W => lex_letter.calls _ _ W ((pLetter_some _ hr.1 hr.2).trans (by rw [hl])))
  have hlt2 : (i : Int) < (s.size : Int) := by omega
  have hx : ∀ h : i < s.size, ((s[i]'h).toNat : Int) = bt s (i : Int) := fun h => bt_at s (i : Int) h
  have b34 : (bt s (i : Int) == 34) = false := by rw [q]; rfl
  have b40 : (bt s (i : Int) == 40) = false := by rw [q]; rfl
  have b41 : (bt s (i : Int) == 41) = true := by rw [q]; rfl
  have b59 : (bt s (i : Int) == 59) = false := by rw [q]; rfl
  have HQ := Aside0.mk (show ∀ W : World, Calls Tryd.prog 63 #[.string ⟨#[40, 41, 59]⟩, .int .u8 (bt s (i : Int))] W fun e w' => e = .returned (.int .i64 1) ∧ w' = W from fun W => by rw [q]; exact Tryd.strings_IndexByte _ _ W)
  clear q
  have HB := Aside0.mk hb
  have HS := Aside0.mk hs
  have HO := Aside0.mk hO
  have HG0 := Aside0.mk hg
  have hu := Tryd.underlying40
  clear hb hO hl
  go_enter Tryd.func37, Tryd.ntmps37
  go_wp2
  go_quiet (fail)
  go_wp2_with fail
  refine (HLT.out _).mono ?_
  rintro e w' ⟨rfl, ⟨n, rfl⟩⟩
  have hne : w.heap.size ≠ g := by omega
  have hz1 : (i : Int) ≤ (i : Int) + 1 := by omega
  have hz2 : (i : Int) + 1 ≤ (s.size : Int) := by omega
  go_wp2
  have hT1 : ((w.alloc (.cells #[.int .i64 0, .int .i64 i, .string ⟨#[]⟩] 40)).drewN (nq + n)).heap[w.heap.size]? = some (.cells #[.int .i64 0, .int .i64 i, .string ⟨#[]⟩] 40 (0, 0)) := blk_drewN (blk_new w _) _
  have hb1 : Blk ((w.alloc (.cells #[.int .i64 0, .int .i64 i, .string ⟨#[]⟩] 40)).drewN (nq + n)) g s i L := blk_drewN (blk_alloc HB.out _) _
  have ho1 : Kd.R k40 40 ((w.alloc (.cells #[.int .i64 0, .int .i64 i, .string ⟨#[]⟩] 40)).drewN (nq + n)) base (fun k => k ≠ g ∧ k ≠ w.heap.size) L ts := Kd.R_mono (Kd.R_drewN (Kd.R_alloc (Kd.R_bound HO.out) _) _) (fun k hk => ⟨hk.1, Nat.ne_of_lt hk.2.2.1⟩)
  have hw1 : Below base w ((w.alloc (.cells #[.int .i64 0, .int .i64 i, .string ⟨#[]⟩] 40)).drewN (nq + n)) := (pw_below_drewN (below_alloc (Below.refl w.heap.size w) _) _).mono (by omega)
  generalize ((w.alloc (.cells #[.int .i64 0, .int .i64 i, .string ⟨#[]⟩] 40)).drewN (nq + n)) = W1 at hT1 hb1 ho1 hw1 ⊢
  clear c0 c1
  have d0 := hb1.c0
  have d1 := hb1.c1
  have df1 := hb1.fr 1
  have t0 := (blk_cell hT1 0).trans rfl
  have t2 := (blk_cell hT1 2).trans rfl
  have tf0 := blk_frozen hT1 0
  have tf2 := blk_frozen hT1 2
  have HT1 := Aside0.mk hT1
  have HB1 := Aside0.mk hb1
  have HO1 := Aside0.mk ho1
  have HW1 := Aside0.mk hw1
  clear hT1 hb1 ho1 hw1
  have hz3 : i ≤ i + 1 := by omega
  have hz4 : i + 1 ≤ s.size := by omega
  have hz5 : (0 : Int) ≤ (i : Int) + 1 := by omega
  have hz6 : ((i : Int) + 1).toNat = i + 1 := by omega
  have hz7 : IntKind.i64.wrap ((i : Int) + 1) = (i : Int) + 1 := IntWalk.i64_in _ (by omega)
  refine start_ (n := 24) (S := fun w' => w'.cell? ⟨g, 0, none⟩ = some (.string s) ∧ w'.cell? ⟨g, 1, none⟩ = some (.int .i64 i)) (ds := []) #[false, false, false, false, false, false, false, false, false, false, false, false, false, false, false, false, false, false, false, false, false, false, false, false] (by kernel_rfl) rfl rfl ⟨d0, d1⟩ (fun hHeld => ?_)
  refine pure_ (i := 0) (N := some 49) (v := ?_) (a' := ?_) #[true, false, false, false, false, false, false, false, false, false, false, false, false, false, false, false, false, false, false, false, false, false, false, false] rfl rfl (by kernel_rfl) (fun _ _ _ h => h) (Or.inl ⟨by rfl, ?_⟩) ?_ ?_
  rotate_left
  · intro w'
    go_simp
    with_reducible rfl
  rotate_left
  · simp only [Act.put, List.setIfInBounds_toArray, List.set_cons_zero, List.set_cons_succ, i64_w, i32_w]
    rfl
  refine pure_ (i := 3) (N := some 52) (v := ?_) (a' := ?_) #[true, false, false, true, false, false, false, false, false, false, false, false, false, false, false, false, false, false, false, false, false, false, false, false] rfl rfl (by kernel_rfl) (fun _ _ _ h => h) (Or.inl ⟨by rfl, ?_⟩) ?_ ?_
  rotate_left
  · intro w'
    go_simp
    with_reducible rfl
  rotate_left
  · simp only [Act.put, List.setIfInBounds_toArray, List.set_cons_zero, List.set_cons_succ, i64_w, i32_w]
    rfl
  refine pure_ (i := 4) (N := some 53) (v := ?_) (a' := ?_) #[true, false, false, true, true, false, false, false, false, false, false, false, false, false, false, false, false, false, false, false, false, false, false, false] rfl rfl (by kernel_rfl) (fun _ _ _ h => h) (Or.inl ⟨by rfl, ?_⟩) ?_ ?_
  rotate_left
  · intro w'
    go_simp
    with_reducible rfl
  rotate_left
  · simp only [Act.put, List.setIfInBounds_toArray, List.set_cons_zero, List.set_cons_succ, i64_w, i32_w]
    rfl
  refine pure_ (i := 5) (N := some 54) (v := ?_) (a' := ?_) #[true, false, false, true, true, true, false, false, false, false, false, false, false, false, false, false, false, false, false, false, false, false, false, false] rfl rfl (by kernel_rfl) (fun _ _ _ h => h) (Or.inl ⟨by rfl, ?_⟩) ?_ ?_
  rotate_left
  · intro w'
    go_simp
    with_reducible rfl
  rotate_left
  · simp only [Act.put, List.setIfInBounds_toArray, List.set_cons_zero, List.set_cons_succ, i64_w, i32_w]
    rfl
  refine pure_ (i := 6) (N := some 55) (v := ?_) (a' := ?_) #[true, false, false, true, true, true, true, false, false, false, false, false, false, false, false, false, false, false, false, false, false, false, false, false] rfl rfl (by kernel_rfl) (fun _ _ _ h => h) (Or.inl ⟨by rfl, ?_⟩) ?_ ?_
  rotate_left
  · intro w'
    go_simp
    with_reducible rfl
  rotate_left
  · simp only [Act.put, List.setIfInBounds_toArray, List.set_cons_zero, List.set_cons_succ, i64_w, i32_w]
    rfl
  refine pure_ (i := 8) (N := some 57) (v := ?_) (a' := ?_) #[true, false, false, true, true, true, true, false, true, false, false, false, false, false, false, false, false, false, false, false, false, false, false, false] rfl rfl (by kernel_rfl) (fun _ _ _ h => h) (Or.inl ⟨by rfl, ?_⟩) ?_ ?_
  rotate_left
  · intro w'
    go_simp
    with_reducible rfl
  rotate_left
  · simp only [Act.put, List.setIfInBounds_toArray, List.set_cons_zero, List.set_cons_succ, i64_w, i32_w]
    rfl
  refine pure_ (i := 9) (N := some 58) (v := ?_) (a' := ?_) #[true, false, false, true, true, true, true, false, true, true, false, false, false, false, false, false, false, false, false, false, false, false, false, false] rfl rfl (by kernel_rfl) (fun _ _ _ h => h) (Or.inl ⟨by rfl, ?_⟩) ?_ ?_
  rotate_left
  · intro w'
    go_simp
    with_reducible rfl
  rotate_left
  · simp only [Act.put, List.setIfInBounds_toArray, List.set_cons_zero, List.set_cons_succ, i64_w, i32_w]
    rfl
  refine pure_ (i := 10) (N := some 59) (v := ?_) (a' := ?_) #[true, false, false, true, true, true, true, false, true, true, true, false, false, false, false, false, false, false, false, false, false, false, false, false] rfl rfl (by kernel_rfl) (fun _ _ _ h => h) (Or.inl ⟨by rfl, ?_⟩) ?_ ?_
  rotate_left
  · intro w'
    go_simp
    with_reducible rfl
  rotate_left
  · simp only [Act.put, List.setIfInBounds_toArray, List.set_cons_zero, List.set_cons_succ, i64_w, i32_w]
    rfl
  refine pure_ (i := 11) (N := some 60) (v := ?_) (a' := ?_) #[true, false, false, true, true, true, true, false, true, true, true, true, false, false, false, false, false, false, false, false, false, false, false, false] rfl rfl (by kernel_rfl) (fun _ _ _ h => h) (Or.inl ⟨by rfl, ?_⟩) ?_ ?_
  rotate_left
  · intro w'
    go_simp
    with_reducible rfl
  rotate_left
  · simp only [Act.put, List.setIfInBounds_toArray, List.set_cons_zero, List.set_cons_succ, i64_w, i32_w]
    rfl
  refine pure_ (i := 13) (N := some 62) (v := ?_) (a' := ?_) #[true, false, false, true, true, true, true, false, true, true, true, true, false, true, false, false, false, false, false, false, false, false, false, false] rfl rfl (by kernel_rfl) (fun _ _ _ h => h) (Or.inl ⟨by rfl, ?_⟩) ?_ ?_
  rotate_left
  · intro w'
    go_simp
    with_reducible rfl
  rotate_left
  · simp only [Act.put, List.setIfInBounds_toArray, List.set_cons_zero, List.set_cons_succ, i64_w, i32_w]
    rfl
  refine pure_ (i := 14) (N := some 63) (v := ?_) (a' := ?_) #[true, false, false, true, true, true, true, false, true, true, true, true, false, true, true, false, false, false, false, false, false, false, false, false] rfl rfl (by kernel_rfl) (fun _ _ _ h => h) (Or.inl ⟨by rfl, ?_⟩) ?_ ?_
  rotate_left
  · intro w'
    go_simp
    with_reducible rfl
  rotate_left
  · simp only [Act.put, List.setIfInBounds_toArray, List.set_cons_zero, List.set_cons_succ, i64_w, i32_w]
    rfl
  refine pure_ (i := 15) (N := some 64) (v := ?_) (a' := ?_) #[true, false, false, true, true, true, true, false, true, true, true, true, false, true, true, true, false, false, false, false, false, false, false, false] rfl rfl (by kernel_rfl) (fun _ _ _ h => h) (Or.inl ⟨by rfl, ?_⟩) ?_ ?_
  rotate_left
  · intro w'
    go_simp
    with_reducible rfl
  rotate_left
  · simp only [Act.put, List.setIfInBounds_toArray, List.set_cons_zero, List.set_cons_succ, i64_w, i32_w]
    rfl
  refine pure_ (i := 16) (N := some 65) (v := ?_) (a' := ?_) #[true, false, false, true, true, true, true, false, true, true, true, true, false, true, true, true, true, false, false, false, false, false, false, false] rfl rfl (by kernel_rfl) (fun _ _ _ h => h) (Or.inl ⟨by rfl, ?_⟩) ?_ ?_
  rotate_left
  · intro w'
    go_simp
    with_reducible rfl
  rotate_left
  · simp only [Act.put, List.setIfInBounds_toArray, List.set_cons_zero, List.set_cons_succ, i64_w, i32_w]
    rfl
  refine take_ (i := 7) (N := some 56) (v := ?_) (a' := ?_) #[true, false, false, true, true, true, true, true, true, true, true, true, false, true, true, true, true, false, false, false, false, false, false, false] rfl rfl (by kernel_rfl) (fun _ _ _ h => h) (Or.inl ⟨by rfl, ?_⟩) hHeld ?_ ?_
  rotate_left
  · rintro w' ⟨s0, s1⟩
    go_simp
    with_reducible rfl
  rotate_left
  · simp only [Act.put, List.setIfInBounds_toArray, List.set_cons_zero, List.set_cons_succ, i64_w, i32_w]
    rfl
  refine take_ (i := 12) (N := some 61) (v := ?_) (a' := ?_) #[true, false, false, true, true, true, true, true, true, true, true, true, true, true, true, true, true, false, false, false, false, false, false, false] rfl rfl (by kernel_rfl) (fun _ _ _ h => h) (Or.inl ⟨by rfl, ?_⟩) hHeld ?_ ?_
  rotate_left
  · rintro w' ⟨s0, s1⟩
    go_simp
    with_reducible rfl
  rotate_left
  · simp only [Act.put, List.setIfInBounds_toArray, List.set_cons_zero, List.set_cons_succ, i64_w, i32_w]
    rfl
  refine take_ (i := 17) (N := some 66) (v := ?_) (a' := ?_) #[true, false, false, true, true, true, true, true, true, true, true, true, true, true, true, true, true, true, false, false, false, false, false, false] rfl rfl (by kernel_rfl) (fun _ _ _ h => h) (Or.inl ⟨by rfl, ?_⟩) hHeld ?_ ?_
  rotate_left
  · rintro w' ⟨s0, s1⟩
    go_simp
    with_reducible rfl
  rotate_left
  · simp only [Act.put, List.setIfInBounds_toArray, List.set_cons_zero, List.set_cons_succ, i64_w, i32_w]
    rfl
  refine pure_ (i := 18) (N := some 67) (v := ?_) (a' := ?_) #[true, false, false, true, true, true, true, true, true, true, true, true, true, true, true, true, true, true, true, false, false, false, false, false] rfl rfl (by kernel_rfl) (fun _ _ _ h => h) (Or.inl ⟨by rfl, ?_⟩) ?_ ?_
  rotate_left
  · intro w'
    go_simp
    with_reducible rfl
  rotate_left
  · simp only [Act.put, List.setIfInBounds_toArray, List.set_cons_zero, List.set_cons_succ, i64_w, i32_w]
    rfl
  refine pure_ (i := 19) (N := some 68) (v := ?_) (a' := ?_) #[true, false, false, true, true, true, true, true, true, true, true, true, true, true, true, true, true, true, true, true, false, false, false, false] rfl rfl (by kernel_rfl) (fun _ _ _ h => h) (Or.inl ⟨by rfl, ?_⟩) ?_ ?_
  rotate_left
  · intro w'
    go_simp
    with_reducible rfl
  rotate_left
  · simp only [Act.put, List.setIfInBounds_toArray, List.set_cons_zero, List.set_cons_succ, i64_w, i32_w]
    rfl
  refine one_ (i := 1) (N := some 50) #[true, true, false, true, true, true, true, true, true, true, true, true, true, true, true, true, true, true, true, true, false, false, false, false] rfl rfl (by kernel_rfl) (by decide) (fun K hK => ?_)
  refine goes_ Tryd.func63 (by kernel_rfl) rfl #[.string ⟨#[40, 41, 59]⟩, .int .u8 (bt s (i : Int))] (by rfl) rfl rfl (by simp only [List.map_toArray, List.map_cons, List.map_nil]; rfl) ?_
  with_reducible refine (HQ.out _).mono ?_
  rintro e w' ⟨rfl, rfl⟩
  refine ⟨_, rfl, ?_⟩
  refine hK.out _ _ ⟨hHeld.1, hHeld.2⟩ (fun hHeld => ?_)
  clear hK K
  refine norm_ (a' := ?_) ?_ ?_
  rotate_left
  · show Act.put _ (some 50) _ = _
    simp only [Act.put, List.setIfInBounds_toArray, List.set_cons_zero, List.set_cons_succ, i64_w, i32_w]
    rfl
  refine pure_ (i := 2) (N := some 51) (v := ?_) (a' := ?_) #[true, true, true, true, true, true, true, true, true, true, true, true, true, true, true, true, true, true, true, true, false, false, false, false] rfl rfl (by kernel_rfl) (fun _ _ _ h => h) (Or.inl ⟨by rfl, ?_⟩) ?_ ?_
  rotate_left
  · intro w'
    go_simp
    with_reducible rfl
  rotate_left
  · simp only [Act.put, List.setIfInBounds_toArray, List.set_cons_zero, List.set_cons_succ, i64_w, i32_w]
    rfl
  refine pure_ (i := 20) (N := some 69) (v := ?_) (a' := ?_) #[true, true, true, true, true, true, true, true, true, true, true, true, true, true, true, true, true, true, true, true, true, false, false, false] rfl rfl (by kernel_rfl) (fun _ _ _ h => h) (Or.inl ⟨by rfl, ?_⟩) ?_ ?_
  rotate_left
  · intro w'
    go_simp
    with_reducible rfl
  rotate_left
  · simp only [Act.put, List.setIfInBounds_toArray, List.set_cons_zero, List.set_cons_succ, i64_w, i32_w]
    rfl
  refine one_ (i := 21) (N := none) #[true, true, true, true, true, true, true, true, true, true, true, true, true, true, true, true, true, true, true, true, true, true, false, false] rfl rfl (by kernel_rfl) (by decide) (fun K hK => ?_)
  refine skip_ (w1 := ?_) (by rfl) rfl ?_ ?_
  rotate_left
  · go_simp
    rfl
  refine hK.out _ _ ⟨(Blk.c0 (blk_far (blk_drew HB1.out) (Ne.symm hne) _)), (Blk.c1 (blk_far (blk_drew HB1.out) (Ne.symm hne) _))⟩ (fun hHeld => ?_)
  clear hK K
  refine pure_ (i := 22) (N := some 70) (v := ?_) (a' := ?_) #[true, true, true, true, true, true, true, true, true, true, true, true, true, true, true, true, true, true, true, true, true, true, true, false] rfl rfl (by kernel_rfl) (fun _ _ _ h => h) (Or.inl ⟨by rfl, ?_⟩) ?_ ?_
  rotate_left
  · intro w'
    go_simp
    with_reducible rfl
  rotate_left
  · simp only [Act.put, List.setIfInBounds_toArray, List.set_cons_zero, List.set_cons_succ, i64_w, i32_w]
    rfl
  refine one_ (i := 23) (N := none) #[true, true, true, true, true, true, true, true, true, true, true, true, true, true, true, true, true, true, true, true, true, true, true, true] rfl rfl (by kernel_rfl) (by decide) (fun K hK => ?_)
  refine skip_ (w1 := ?_) (by rfl) rfl ?_ ?_
  rotate_left
  · go_simp
    rfl
  refine hK.out _ _ ⟨(Blk.c0 (blk_far (blk_far (blk_drew HB1.out) (Ne.symm hne) _) (Ne.symm hne) _)), (Blk.c1 (blk_far (blk_far (blk_drew HB1.out) (Ne.symm hne) _) (Ne.symm hne) _))⟩ (fun hHeld => ?_)
  clear hK K
  refine done_ (by kernel_rfl) ?_

  clear hz3 hz4 hz5 hz6 hz7
  go_wp2
  simp only [show wrap64 4 = (4 : Int) from by unfold wrap64; omega]
  have hT3 : ((((W1.setCell ⟨w.heap.size, 0, none⟩ (.int .i64 4)).setCell ⟨w.heap.size, 2, none⟩ (.string (s.extract i (i + 1)))).setCell ⟨g, 1, none⟩ (.int .i64 ((i : Int) + 1))).drew).heap[w.heap.size]? = some (.cells #[.int .i64 4, .int .i64 i, .string (s.extract i (i + 1))] 40 (0, 0)) :=
    blk_drew (blk_far (blk_put (blk_put HT1.out 0 (.int .i64 4) rfl) 2 (.string (s.extract i (i + 1))) rfl) hne _)
  have hB3 : Blk ((((W1.setCell ⟨w.heap.size, 0, none⟩ (.int .i64 4)).setCell ⟨w.heap.size, 2, none⟩ (.string (s.extract i (i + 1)))).setCell ⟨g, 1, none⟩ (.int .i64 ((i : Int) + 1))).drew) g s ((i : Int) + 1) L := blk_drew (Blk.at1 (blk_far (blk_far HB1.out (Ne.symm hne) _) (Ne.symm hne) _) _)
  have hO3 : Kd.R k40 40 ((((W1.setCell ⟨w.heap.size, 0, none⟩ (.int .i64 4)).setCell ⟨w.heap.size, 2, none⟩ (.string (s.extract i (i + 1)))).setCell ⟨g, 1, none⟩ (.int .i64 ((i : Int) + 1))).drew) base (fun k => k ≠ g) L ts :=
    Kd.R_mono (Kd.R_drew (Kd.R_far (Kd.R_far (Kd.R_far HO1.out (p := ⟨w.heap.size, 0, none⟩) (fun k hk => hk.2) _) (p := ⟨w.heap.size, 2, none⟩) (fun k hk => hk.2) _) (p := ⟨g, 1, none⟩) (fun k hk => hk.1) _)) (fun k hk => hk.1)
  have hW3 : Below base w ((((W1.setCell ⟨w.heap.size, 0, none⟩ (.int .i64 4)).setCell ⟨w.heap.size, 2, none⟩ (.string (s.extract i (i + 1)))).setCell ⟨g, 1, none⟩ (.int .i64 ((i : Int) + 1))).drew) := (((HW1.out.setCell (by simp; omega) _).setCell (by simp; omega) _).setCell (by simpa using hbase) _).drew
  clear t0 t2 tf0 tf2 d0 d1 df1 hne
  generalize ((((W1.setCell ⟨w.heap.size, 0, none⟩ (.int .i64 4)).setCell ⟨w.heap.size, 2, none⟩ (.string (s.extract i (i + 1)))).setCell ⟨g, 1, none⟩ (.int .i64 ((i : Int) + 1))).drew) = W3 at hT3 hB3 hO3 hW3 ⊢
  have HT3 := Aside0.mk hT3
  have HB3 := Aside0.mk hB3
  have HO3 := Aside0.mk hO3
  have HW3 := Aside0.mk hW3
  have t0 := (blk_cell hT3 0).trans rfl
  have t1 := (blk_cell hT3 1).trans rfl
  have t2 := (blk_cell hT3 2).trans rfl
  have d2 := hB3.c2
  have df := hB3.fr 2
  have hg3 := blk_lt hB3
  have hb3 := blk_lt hT3
  have hne : g ≠ w.heap.size := by omega
  clear hT3 hB3 hO3 hW3
  have hbase3 : base ≤ W3.heap.size := by omega
  go_region_law ((refine app_tok base g (by rfl) (.tmp 84) (.tmp 86) rfl L ts (⟨4, i, s.extract i (i + 1)⟩ : Tk) ?aV ?aX ?aG ?aO ?aS ?aL ?_; (case aV => first | rfl | (simp [Act.eval])); (case aX => first | rfl | (simp [Act.eval])); (case aG => exact hg3); (case aO => exact HO3.out); (case aS => exact hbase3); (case aL => omega); intro v1 w1 ho hb1 hg1; obtain ⟨A1, k1, e1⟩ := Kd.R_slice ho; subst e1; have hB4 : Blk w1 g s ((i : Int) + 1) L := blk_grown (blk_drew HB3.out) hg1 (Kd.R_away HO3.out (fun k hk => hk)); have f1' := hB4.fr 2; have c2' := hB4.c2; have HO4 := Aside0.mk ho; have HB4 := Aside0.mk hB4; have HW4 := Aside0.mk (HW3.out.trans hb1); clear ho hb1 hg1 hB4))
  all_goals
    go_wp2
    go_ret
    refine ⟨rfl, _, ?_, Kd.R_far HO4.out (fun k hk => hk) _, HW4.out.setCell (by simp; omega) _⟩
    have := blk_set HB4.out 2 (.slice A1 (ts ++ [(⟨4, i, s.extract i (i + 1)⟩ : Tk)]).length k1)
    simpa [Blk] using this
set_option maxHeartbeats 4000000 in
set_option maxRecDepth 100000 in
theorem token_p59 (s : ByteArray) (i : Nat) (L : Value) (ts : List Tk) (g base : Nat) (w : World) (hs : s.size ≤ 140737488351232) (hi : i < s.size) (hb : Blk w g s i L)
    (hO : Kd.R k40 40 w base (fun k => k ≠ g) L ts) (hbase : base ≤ g) (hts : ts.length ≤ 1000000000) (hl : pLetter (bt s i) = false) (q : bt s (i : Int) = 59) :
    Calls Tryd.prog 37 #[.pointer (some ⟨g, 0, none⟩)] w fun e w' =>
      e = .returned (.bool true) ∧ ∃ L', Blk w' g s ((i : Int) + 1) L' ∧ Kd.R k40 40 w' base (fun k => k ≠ g) L' (ts ++ [⟨5, i, s.extract i (i + 1)⟩]) ∧ Below base w w' := by
  have hg := blk_lt hb
  have c0 := hb.c0
  have c1 := hb.c1
  have hr := bt_range s (i : Int)
  have HLT := Aside0.mk (show ∀ W : World, Calls Tryd.prog 60 #[.int .u8 (bt s (i : Int))] W fun e w' => e = .returned (.bool false) ∧ Drawn0 W w' from fun W => lex_letter.calls _ _ W ((pLetter_some _ hr.1 hr.2).trans (by rw [hl])))
  have hlt2 : (i : Int) < (s.size : Int) := by omega
  have hx : ∀ h : i < s.size, ((s[i]'h).toNat : Int) = bt s (i : Int) := fun h => bt_at s (i : Int) h
  have b34 : (bt s (i : Int) == 34) = false := by rw [q]; rfl
  have b40 : (bt s (i : Int) == 40) = false := by rw [q]; rfl
  have b41 : (bt s (i : Int) == 41) = false := by rw [q]; rfl
  have b59 : (bt s (i : Int) == 59) = true := by rw [q]; rfl
  have HQ := Aside0.mk (show ∀ W : World, Calls Tryd.prog 63 #[.string ⟨#[40, 41, 59]⟩, .int .u8 (bt s (i : Int))] W fun e w' => e = .returned (.int .i64 2) ∧ w' = W from fun W => by rw [q]; exact Tryd.strings_IndexByte _ _ W)
  clear q
  have HB := Aside0.mk hb
  have HS := Aside0.mk hs
  have HO := Aside0.mk hO
  have HG0 := Aside0.mk hg
  have hu := Tryd.underlying40
  clear hb hO hl
  go_enter Tryd.func37, Tryd.ntmps37
  go_wp2
  go_quiet (fail)
  go_wp2_with fail
  refine (HLT.out _).mono ?_
  rintro e w' ⟨rfl, ⟨n, rfl⟩⟩
  have hne : w.heap.size ≠ g := by omega
  have hz1 : (i : Int) ≤ (i : Int) + 1 := by omega
  have hz2 : (i : Int) + 1 ≤ (s.size : Int) := by omega
  go_wp2
  have hT1 : ((w.alloc (.cells #[.int .i64 0, .int .i64 i, .string ⟨#[]⟩] 40)).drewN (nq + n)).heap[w.heap.size]? = some (.cells #[.int .i64 0, .int .i64 i, .string ⟨#[]⟩] 40 (0, 0)) := blk_drewN (blk_new w _) _
  have hb1 : Blk ((w.alloc (.cells #[.int .i64 0, .int .i64 i, .string ⟨#[]⟩] 40)).drewN (nq + n)) g s i L := blk_drewN (blk_alloc HB.out _) _
  have ho1 : Kd.R k40 40 ((w.alloc (.cells #[.int .i64 0, .int .i64 i, .string ⟨#[]⟩] 40)).drewN (nq + n)) base (fun k => k ≠ g ∧ k ≠ w.heap.size) L ts := Kd.R_mono (Kd.R_drewN (Kd.R_alloc (Kd.R_bound HO.out) _) _) (fun k hk => ⟨hk.1, Nat.ne_of_lt hk.2.2.1⟩)
  have hw1 : Below base w ((w.alloc (.cells #[.int .i64 0, .int .i64 i, .string ⟨#[]⟩] 40)).drewN (nq + n)) := (pw_below_drewN (below_alloc (Below.refl w.heap.size w) _) _).mono (by omega)
  generalize ((w.alloc (.cells #[.int .i64 0, .int .i64 i, .string ⟨#[]⟩] 40)).drewN (nq + n)) = W1 at hT1 hb1 ho1 hw1 ⊢
  clear c0 c1
  have d0 := hb1.c0
  have d1 := hb1.c1
  have df1 := hb1.fr 1
  have t0 := (blk_cell hT1 0).trans rfl
  have t2 := (blk_cell hT1 2).trans rfl
  have tf0 := blk_frozen hT1 0
  have tf2 := blk_frozen hT1 2
  have HT1 := Aside0.mk hT1
  have HB1 := Aside0.mk hb1
  have HO1 := Aside0.mk ho1
  have HW1 := Aside0.mk hw1
  clear hT1 hb1 ho1 hw1
  have hz3 : i ≤ i + 1 := by omega
  have hz4 : i + 1 ≤ s.size := by omega
  have hz5 : (0 : Int) ≤ (i : Int) + 1 := by omega
  have hz6 : ((i : Int) + 1).toNat = i + 1 := by omega
  have hz7 : IntKind.i64.wrap ((i : Int) + 1) = (i : Int) + 1 := IntWalk.i64_in _ (by omega)
  refine start_ (n := 24) (S := fun w' => w'.cell? ⟨g, 0, none⟩ = some (.string s) ∧ w'.cell? ⟨g, 1, none⟩ = some (.int .i64 i)) (ds := []) #[false, false, false, false, false, false, false, false, false, false, false, false, false, false, false, false, false, false, false, false, false, false, false, false] (by kernel_rfl) rfl rfl ⟨d0, d1⟩ (fun hHeld => ?_)
  refine pure_ (i := 0) (N := some 49) (v := ?_) (a' := ?_) #[true, false, false, false, false, false, false, false, false, false, false, false, false, false, false, false, false, false, false, false, false, false, false, false] rfl rfl (by kernel_rfl) (fun _ _ _ h => h) (Or.inl ⟨by rfl, ?_⟩) ?_ ?_
  rotate_left
  · intro w'
    go_simp
    with_reducible rfl
  rotate_left
  · simp only [Act.put, List.setIfInBounds_toArray, List.set_cons_zero, List.set_cons_succ, i64_w, i32_w]
    rfl
  refine pure_ (i := 3) (N := some 52) (v := ?_) (a' := ?_) #[true, false, false, true, false, false, false, false, false, false, false, false, false, false, false, false, false, false, false, false, false, false, false, false] rfl rfl (by kernel_rfl) (fun _ _ _ h => h) (Or.inl ⟨by rfl, ?_⟩) ?_ ?_
  rotate_left
  · intro w'
    go_simp
    with_reducible rfl
  rotate_left
  · simp only [Act.put, List.setIfInBounds_toArray, List.set_cons_zero, List.set_cons_succ, i64_w, i32_w]
    rfl
  refine pure_ (i := 4) (N := some 53) (v := ?_) (a' := ?_) #[true, false, false, true, true, false, false, false, false, false, false, false, false, false, false, false, false, false, false, false, false, false, false, false] rfl rfl (by kernel_rfl) (fun _ _ _ h => h) (Or.inl ⟨by rfl, ?_⟩) ?_ ?_
  rotate_left
  · intro w'
    go_simp
    with_reducible rfl
  rotate_left
  · simp only [Act.put, List.setIfInBounds_toArray, List.set_cons_zero, List.set_cons_succ, i64_w, i32_w]
    rfl
  refine pure_ (i := 5) (N := some 54) (v := ?_) (a' := ?_) #[true, false, false, true, true, true, false, false, false, false, false, false, false, false, false, false, false, false, false, false, false, false, false, false] rfl rfl (by kernel_rfl) (fun _ _ _ h => h) (Or.inl ⟨by rfl, ?_⟩) ?_ ?_
  rotate_left
  · intro w'
    go_simp
    with_reducible rfl
  rotate_left
  · simp only [Act.put, List.setIfInBounds_toArray, List.set_cons_zero, List.set_cons_succ, i64_w, i32_w]
    rfl
  refine pure_ (i := 6) (N := some 55) (v := ?_) (a' := ?_) #[true, false, false, true, true, true, true, false, false, false, false, false, false, false, false, false, false, false, false, false, false, false, false, false] rfl rfl (by kernel_rfl) (fun _ _ _ h => h) (Or.inl ⟨by rfl, ?_⟩) ?_ ?_
  rotate_left
  · intro w'
    go_simp
    with_reducible rfl
  rotate_left
  · simp only [Act.put, List.setIfInBounds_toArray, List.set_cons_zero, List.set_cons_succ, i64_w, i32_w]
    rfl
  refine pure_ (i := 8) (N := some 57) (v := ?_) (a' := ?_) #[true, false, false, true, true, true, true, false, true, false, false, false, false, false, false, false, false, false, false, false, false, false, false, false] rfl rfl (by kernel_rfl) (fun _ _ _ h => h) (Or.inl ⟨by rfl, ?_⟩) ?_ ?_
  rotate_left
  · intro w'
    go_simp
    with_reducible rfl
  rotate_left
  · simp only [Act.put, List.setIfInBounds_toArray, List.set_cons_zero, List.set_cons_succ, i64_w, i32_w]
    rfl
  refine pure_ (i := 9) (N := some 58) (v := ?_) (a' := ?_) #[true, false, false, true, true, true, true, false, true, true, false, false, false, false, false, false, false, false, false, false, false, false, false, false] rfl rfl (by kernel_rfl) (fun _ _ _ h => h) (Or.inl ⟨by rfl, ?_⟩) ?_ ?_
  rotate_left
  · intro w'
    go_simp
    with_reducible rfl
  rotate_left
  · simp only [Act.put, List.setIfInBounds_toArray, List.set_cons_zero, List.set_cons_succ, i64_w, i32_w]
    rfl
  refine pure_ (i := 10) (N := some 59) (v := ?_) (a' := ?_) #[true, false, false, true, true, true, true, false, true, true, true, false, false, false, false, false, false, false, false, false, false, false, false, false] rfl rfl (by kernel_rfl) (fun _ _ _ h => h) (Or.inl ⟨by rfl, ?_⟩) ?_ ?_
  rotate_left
  · intro w'
    go_simp
    with_reducible rfl
  rotate_left
  · simp only [Act.put, List.setIfInBounds_toArray, List.set_cons_zero, List.set_cons_succ, i64_w, i32_w]
    rfl
  refine pure_ (i := 11) (N := some 60) (v := ?_) (a' := ?_) #[true, false, false, true, true, true, true, false, true, true, true, true, false, false, false, false, false, false, false, false, false, false, false, false] rfl rfl (by kernel_rfl) (fun _ _ _ h => h) (Or.inl ⟨by rfl, ?_⟩) ?_ ?_
  rotate_left
  · intro w'
    go_simp
    with_reducible rfl
  rotate_left
  · simp only [Act.put, List.setIfInBounds_toArray, List.set_cons_zero, List.set_cons_succ, i64_w, i32_w]
    rfl
  refine pure_ (i := 13) (N := some 62) (v := ?_) (a' := ?_) #[true, false, false, true, true, true, true, false, true, true, true, true, false, true, false, false, false, false, false, false, false, false, false, false] rfl rfl (by kernel_rfl) (fun _ _ _ h => h) (Or.inl ⟨by rfl, ?_⟩) ?_ ?_
  rotate_left
  · intro w'
    go_simp
    with_reducible rfl
  rotate_left
  · simp only [Act.put, List.setIfInBounds_toArray, List.set_cons_zero, List.set_cons_succ, i64_w, i32_w]
    rfl
  refine pure_ (i := 14) (N := some 63) (v := ?_) (a' := ?_) #[true, false, false, true, true, true, true, false, true, true, true, true, false, true, true, false, false, false, false, false, false, false, false, false] rfl rfl (by kernel_rfl) (fun _ _ _ h => h) (Or.inl ⟨by rfl, ?_⟩) ?_ ?_
  rotate_left
  · intro w'
    go_simp
    with_reducible rfl
  rotate_left
  · simp only [Act.put, List.setIfInBounds_toArray, List.set_cons_zero, List.set_cons_succ, i64_w, i32_w]
    rfl
  refine pure_ (i := 15) (N := some 64) (v := ?_) (a' := ?_) #[true, false, false, true, true, true, true, false, true, true, true, true, false, true, true, true, false, false, false, false, false, false, false, false] rfl rfl (by kernel_rfl) (fun _ _ _ h => h) (Or.inl ⟨by rfl, ?_⟩) ?_ ?_
  rotate_left
  · intro w'
    go_simp
    with_reducible rfl
  rotate_left
  · simp only [Act.put, List.setIfInBounds_toArray, List.set_cons_zero, List.set_cons_succ, i64_w, i32_w]
    rfl
  refine pure_ (i := 16) (N := some 65) (v := ?_) (a' := ?_) #[true, false, false, true, true, true, true, false, true, true, true, true, false, true, true, true, true, false, false, false, false, false, false, false] rfl rfl (by kernel_rfl) (fun _ _ _ h => h) (Or.inl ⟨by rfl, ?_⟩) ?_ ?_
  rotate_left
  · intro w'
    go_simp
    with_reducible rfl
  rotate_left
  · simp only [Act.put, List.setIfInBounds_toArray, List.set_cons_zero, List.set_cons_succ, i64_w, i32_w]
    rfl
  refine take_ (i := 7) (N := some 56) (v := ?_) (a' := ?_) #[true, false, false, true, true, true, true, true, true, true, true, true, false, true, true, true, true, false, false, false, false, false, false, false] rfl rfl (by kernel_rfl) (fun _ _ _ h => h) (Or.inl ⟨by rfl, ?_⟩) hHeld ?_ ?_
  rotate_left
  · rintro w' ⟨s0, s1⟩
    go_simp
    with_reducible rfl
  rotate_left
  · simp only [Act.put, List.setIfInBounds_toArray, List.set_cons_zero, List.set_cons_succ, i64_w, i32_w]
    rfl
  refine take_ (i := 12) (N := some 61) (v := ?_) (a' := ?_) #[true, false, false, true, true, true, true, true, true, true, true, true, true, true, true, true, true, false, false, false, false, false, false, false] rfl rfl (by kernel_rfl) (fun _ _ _ h => h) (Or.inl ⟨by rfl, ?_⟩) hHeld ?_ ?_
  rotate_left
  · rintro w' ⟨s0, s1⟩
    go_simp
    with_reducible rfl
  rotate_left
  · simp only [Act.put, List.setIfInBounds_toArray, List.set_cons_zero, List.set_cons_succ, i64_w, i32_w]
    rfl
  refine take_ (i := 17) (N := some 66) (v := ?_) (a' := ?_) #[true, false, false, true, true, true, true, true, true, true, true, true, true, true, true, true, true, true, false, false, false, false, false, false] rfl rfl (by kernel_rfl) (fun _ _ _ h => h) (Or.inl ⟨by rfl, ?_⟩) hHeld ?_ ?_
  rotate_left
  · rintro w' ⟨s0, s1⟩
    go_simp
    with_reducible rfl
  rotate_left
  · simp only [Act.put, List.setIfInBounds_toArray, List.set_cons_zero, List.set_cons_succ, i64_w, i32_w]
    rfl
  refine pure_ (i := 18) (N := some 67) (v := ?_) (a' := ?_) #[true, false, false, true, true, true, true, true, true, true, true, true, true, true, true, true, true, true, true, false, false, false, false, false] rfl rfl (by kernel_rfl) (fun _ _ _ h => h) (Or.inl ⟨by rfl, ?_⟩) ?_ ?_
  rotate_left
  · intro w'
    go_simp
    with_reducible rfl
  rotate_left
  · simp only [Act.put, List.setIfInBounds_toArray, List.set_cons_zero, List.set_cons_succ, i64_w, i32_w]
    rfl
  refine pure_ (i := 19) (N := some 68) (v := ?_) (a' := ?_) #[true, false, false, true, true, true, true, true, true, true, true, true, true, true, true, true, true, true, true, true, false, false, false, false] rfl rfl (by kernel_rfl) (fun _ _ _ h => h) (Or.inl ⟨by rfl, ?_⟩) ?_ ?_
  rotate_left
  · intro w'
    go_simp
    with_reducible rfl
  rotate_left
  · simp only [Act.put, List.setIfInBounds_toArray, List.set_cons_zero, List.set_cons_succ, i64_w, i32_w]
    rfl
  refine one_ (i := 1) (N := some 50) #[true, true, false, true, true, true, true, true, true, true, true, true, true, true, true, true, true, true, true, true, false, false, false, false] rfl rfl (by kernel_rfl) (by decide) (fun K hK => ?_)
  refine goes_ Tryd.func63 (by kernel_rfl) rfl #[.string ⟨#[40, 41, 59]⟩, .int .u8 (bt s (i : Int))] (by rfl) rfl rfl (by simp only [List.map_toArray, List.map_cons, List.map_nil]; rfl) ?_
  with_reducible refine (HQ.out _).mono ?_
  rintro e w' ⟨rfl, rfl⟩
  refine ⟨_, rfl, ?_⟩
  refine hK.out _ _ ⟨hHeld.1, hHeld.2⟩ (fun hHeld => ?_)
  clear hK K
  refine norm_ (a' := ?_) ?_ ?_
  rotate_left
  · show Act.put _ (some 50) _ = _
    simp only [Act.put, List.setIfInBounds_toArray, List.set_cons_zero, List.set_cons_succ, i64_w, i32_w]
    rfl
  refine pure_ (i := 2) (N := some 51) (v := ?_) (a' := ?_) #[true, true, true, true, true, true, true, true, true, true, true, true, true, true, true, true, true, true, true, true, false, false, false, false] rfl rfl (by kernel_rfl) (fun _ _ _ h => h) (Or.inl ⟨by rfl, ?_⟩) ?_ ?_
  rotate_left
  · intro w'
    go_simp
    with_reducible rfl
  rotate_left
  · simp only [Act.put, List.setIfInBounds_toArray, List.set_cons_zero, List.set_cons_succ, i64_w, i32_w]
    rfl
  refine pure_ (i := 20) (N := some 69) (v := ?_) (a' := ?_) #[true, true, true, true, true, true, true, true, true, true, true, true, true, true, true, true, true, true, true, true, true, false, false, false] rfl rfl (by kernel_rfl) (fun _ _ _ h => h) (Or.inl ⟨by rfl, ?_⟩) ?_ ?_
  rotate_left
  · intro w'
    go_simp
    with_reducible rfl
  rotate_left
  · simp only [Act.put, List.setIfInBounds_toArray, List.set_cons_zero, List.set_cons_succ, i64_w, i32_w]
    rfl
  refine one_ (i := 21) (N := none) #[true, true, true, true, true, true, true, true, true, true, true, true, true, true, true, true, true, true, true, true, true, true, false, false] rfl rfl (by kernel_rfl) (by decide) (fun K hK => ?_)
  refine skip_ (w1 := ?_) (by rfl) rfl ?_ ?_
  rotate_left
  · go_simp
    rfl
  refine hK.out _ _ ⟨(Blk.c0 (blk_far (blk_drew HB1.out) (Ne.symm hne) _)), (Blk.c1 (blk_far (blk_drew HB1.out) (Ne.symm hne) _))⟩ (fun hHeld => ?_)
  clear hK K
  refine pure_ (i := 22) (N := some 70) (v := ?_) (a' := ?_) #[true, true, true, true, true, true, true, true, true, true, true, true, true, true, true, true, true, true, true, true, true, true, true, false] rfl rfl (by kernel_rfl) (fun _ _ _ h => h) (Or.inl ⟨by rfl, ?_⟩) ?_ ?_
  rotate_left
  · intro w'
    go_simp
    with_reducible rfl
  rotate_left
  · simp only [Act.put, List.setIfInBounds_toArray, List.set_cons_zero, List.set_cons_succ, i64_w, i32_w]
    rfl
  refine one_ (i := 23) (N := none) #[true, true, true, true, true, true, true, true, true, true, true, true, true, true, true, true, true, true, true, true, true, true, true, true] rfl rfl (by kernel_rfl) (by decide) (fun K hK => ?_)
  refine skip_ (w1 := ?_) (by rfl) rfl ?_ ?_
  rotate_left
  · go_simp
    rfl
  refine hK.out _ _ ⟨(Blk.c0 (blk_far (blk_far (blk_drew HB1.out) (Ne.symm hne) _) (Ne.symm hne) _)), (Blk.c1 (blk_far (blk_far (blk_drew HB1.out) (Ne.symm hne) _) (Ne.symm hne) _))⟩ (fun hHeld => ?_)
  clear hK K
  refine done_ (by kernel_rfl) ?_

  clear hz3 hz4 hz5 hz6 hz7
  go_wp2
  simp only [show wrap64 5 = (5 : Int) from by unfold wrap64; omega]
  have hT3 : ((((W1.setCell ⟨w.heap.size, 0, none⟩ (.int .i64 5)).setCell ⟨w.heap.size, 2, none⟩ (.string (s.extract i (i + 1)))).setCell ⟨g, 1, none⟩ (.int .i64 ((i : Int) + 1))).drew).heap[w.heap.size]? = some (.cells #[.int .i64 5, .int .i64 i, .string (s.extract i (i + 1))] 40 (0, 0)) :=
    blk_drew (blk_far (blk_put (blk_put HT1.out 0 (.int .i64 5) rfl) 2 (.string (s.extract i (i + 1))) rfl) hne _)
  have hB3 : Blk ((((W1.setCell ⟨w.heap.size, 0, none⟩ (.int .i64 5)).setCell ⟨w.heap.size, 2, none⟩ (.string (s.extract i (i + 1)))).setCell ⟨g, 1, none⟩ (.int .i64 ((i : Int) + 1))).drew) g s ((i : Int) + 1) L := blk_drew (Blk.at1 (blk_far (blk_far HB1.out (Ne.symm hne) _) (Ne.symm hne) _) _)
  have hO3 : Kd.R k40 40 ((((W1.setCell ⟨w.heap.size, 0, none⟩ (.int .i64 5)).setCell ⟨w.heap.size, 2, none⟩ (.string (s.extract i (i + 1)))).setCell ⟨g, 1, none⟩ (.int .i64 ((i : Int) + 1))).drew) base (fun k => k ≠ g) L ts :=
    Kd.R_mono (Kd.R_drew (Kd.R_far (Kd.R_far (Kd.R_far HO1.out (p := ⟨w.heap.size, 0, none⟩) (fun k hk => hk.2) _) (p := ⟨w.heap.size, 2, none⟩) (fun k hk => hk.2) _) (p := ⟨g, 1, none⟩) (fun k hk => hk.1) _)) (fun k hk => hk.1)
  have hW3 : Below base w ((((W1.setCell ⟨w.heap.size, 0, none⟩ (.int .i64 5)).setCell ⟨w.heap.size, 2, none⟩ (.string (s.extract i (i + 1)))).setCell ⟨g, 1, none⟩ (.int .i64 ((i : Int) + 1))).drew) := (((HW1.out.setCell (by simp; omega) _).setCell (by simp; omega) _).setCell (by simpa using hbase) _).drew
  clear t0 t2 tf0 tf2 d0 d1 df1 hne
  generalize ((((W1.setCell ⟨w.heap.size, 0, none⟩ (.int .i64 5)).setCell ⟨w.heap.size, 2, none⟩ (.string (s.extract i (i + 1)))).setCell ⟨g, 1, none⟩ (.int .i64 ((i : Int) + 1))).drew) = W3 at hT3 hB3 hO3 hW3 ⊢
  have HT3 := Aside0.mk hT3
  have HB3 := Aside0.mk hB3
  have HO3 := Aside0.mk hO3
  have HW3 := Aside0.mk hW3
  have t0 := (blk_cell hT3 0).trans rfl
  have t1 := (blk_cell hT3 1).trans rfl
  have t2 := (blk_cell hT3 2).trans rfl
  have d2 := hB3.c2
  have df := hB3.fr 2
  have hg3 := blk_lt hB3
  have hb3 := blk_lt hT3
  have hne : g ≠ w.heap.size := by omega
  clear hT3 hB3 hO3 hW3
  have hbase3 : base ≤ W3.heap.size := by omega
  go_region_law ((refine app_tok base g (by rfl) (.tmp 84) (.tmp 86) rfl L ts (⟨5, i, s.extract i (i + 1)⟩ : Tk) ?aV ?aX ?aG ?aO ?aS ?aL ?_; (case aV => first | rfl | (simp [Act.eval])); (case aX => first | rfl | (simp [Act.eval])); (case aG => exact hg3); (case aO => exact HO3.out); (case aS => exact hbase3); (case aL => omega); intro v1 w1 ho hb1 hg1; obtain ⟨A1, k1, e1⟩ := Kd.R_slice ho; subst e1; have hB4 : Blk w1 g s ((i : Int) + 1) L := blk_grown (blk_drew HB3.out) hg1 (Kd.R_away HO3.out (fun k hk => hk)); have f1' := hB4.fr 2; have c2' := hB4.c2; have HO4 := Aside0.mk ho; have HB4 := Aside0.mk hB4; have HW4 := Aside0.mk (HW3.out.trans hb1); clear ho hb1 hg1 hB4))
  all_goals
    go_wp2
    go_ret
    refine ⟨rfl, _, ?_, Kd.R_far HO4.out (fun k hk => hk) _, HW4.out.setCell (by simp; omega) _⟩
    have := blk_set HB4.out 2 (.slice A1 (ts ++ [(⟨5, i, s.extract i (i + 1)⟩ : Tk)]).length k1)
    simpa [Blk] using this
end Go.Proofs.YtngedmioeodmfaaDoor.Lx
namespace Go.Proofs.YtngedmioeodmfaaDoor.Lx
open Go.RowKit Go.Proofs.YtngedmioeodmfaaDoor.Pr Go.Proofs.YtngedmioeodmfaaDoorW.PrintWords Go.Proofs.YtngedmioeodmfaaDoorW.PrintLast Go.Proofs.YtngedmioeodmfaaDoorW.PrintMore
set_option linter.unusedVariables false
set_option linter.unusedSimpArgs false
theorem quo_ge (s : ByteArray) : ∀ d i out, i ≤ s.size → i ≤ (quo s d i out).2.1 ∧ (quo s d i out).2.1 ≤ s.size := by
  intro d
  induction d with
  | zero => intro i out h; exact ⟨Nat.le_refl _, h⟩
  | succ d ih =>
    intro i out h
    rw [quo]
    repeat' split
    all_goals try (simp only; omega)
    · have := ih (i + 2) (out ++ [bt s ((i + 1 : Nat) : Int)]) (by omega); omega
    · have := ih (i + 1) (out ++ [bt s (i : Int)]) (by omega); omega
theorem letter_word : ∀ c : Fin 256, pLetter (c.val : Int) = true → pWord (c.val : Int) = true := by decide +kernel
theorem wEnd_lt (s : ByteArray) (i : Nat) (h : i < s.size) (hl : pLetter (bt s i) = true) : i < wEnd s i := by
  have hr := bt_range s (i : Int)
  obtain ⟨q, hq⟩ : ∃ q : Fin 256, (q.val : Int) = bt s (i : Int) := ⟨⟨(bt s (i : Int)).toNat, by omega⟩, by simp; omega⟩
  have hw : pWord (bt s (i : Int)) = true := by rw [← hq]; exact letter_word q (by rw [hq]; exact hl)
  have e : wEnd s i = rowEnd s pWord (s.size - (i + 1)) (i + 1) := rowEnd_go s pWord i h hw
  have := rowEnd_le s pWord (s.size - (i + 1)) (i + 1) (by omega)
  omega
theorem tokE_ge (s : ByteArray) (i : Nat) (h : i < s.size) {t : Tk} {j : Nat} {ok : Bool} (e : tokE s i = some (t, j, ok)) : i < j ∧ j ≤ s.size := by
  unfold tokE at e
  split at e
  · rename_i hl
    simp only [Option.some.injEq, Prod.mk.injEq] at e
    obtain ⟨_, rfl, _⟩ := e
    exact ⟨wEnd_lt s i h hl, (wEnd_le s i (by omega)).2⟩
  · split at e
    · simp only [Option.some.injEq, Prod.mk.injEq] at e
      obtain ⟨_, rfl, _⟩ := e
      have := quo_ge s (s.size - (i + 1)) (i + 1) [] (by omega)
      unfold quoE; omega
    · split at e
      · simp only [Option.some.injEq, Prod.mk.injEq] at e
        obtain ⟨_, rfl, _⟩ := e
        omega
      · cases e
/-- The tokens from a place on; the place that offends, if one does. -/
def runF (s : ByteArray) : Nat → Nat → List Tk → List Tk × Option Nat
  | 0, _, ts => (ts, none)
  | d + 1, i, ts =>
    if i < s.size then
      match tokE s i with
      | some (t, j, true) => runF s d (btw s j) (ts ++ [t])
      | some (t, j, false) => (ts ++ [t], some j)
      | none => (ts, some i)
    else (ts, none)
def run (s : ByteArray) (i : Nat) (ts : List Tk) : List Tk × Option Nat := runF s (s.size - i) i ts
theorem runF_more (s : ByteArray) : ∀ d d' i ts, s.size - i ≤ d → s.size - i ≤ d' → runF s d i ts = runF s d' i ts := by
  intro d
  induction d with
  | zero => intro d' i ts h h'; cases d' with
    | zero => rfl
    | succ d' => rw [runF, runF, if_neg (by omega)]
  | succ d ih =>
    intro d' i ts h h'
    cases d' with
    | zero => rw [runF, runF, if_neg (by omega)]
    | succ d' =>
      rw [runF, runF]
      by_cases q : i < s.size
      · rw [if_pos q, if_pos q]
        match e : tokE s i with
        | some (t, j, true) =>
          have hj := tokE_ge s i q e
          have hb := btw_le s j hj.2
          exact ih d' _ _ (by omega) (by omega)
        | some (t, j, false) => rfl
        | none => rfl
      · rw [if_neg q, if_neg q]
theorem run_stop (s : ByteArray) (i : Nat) (ts : List Tk) (h : ¬ i < s.size) : run s i ts = (ts, none) := by
  unfold run; rw [show s.size - i = 0 by omega, runF]
theorem run_go (s : ByteArray) (i : Nat) (ts : List Tk) (h : i < s.size) {t : Tk} {j : Nat} (e : tokE s i = some (t, j, true)) : run s i ts = run s (btw s j) (ts ++ [t]) := by
  have hj := tokE_ge s i h e
  have hb := btw_le s j hj.2
  unfold run
  rw [show s.size - i = (s.size - i - 1) + 1 by omega, runF, if_pos h, e]
  exact runF_more s _ _ _ _ (by omega) (by omega)
theorem run_bad (s : ByteArray) (i : Nat) (ts : List Tk) (h : i < s.size) {t : Tk} {j : Nat} (e : tokE s i = some (t, j, false)) : run s i ts = (ts ++ [t], some j) := by
  unfold run
  rw [show s.size - i = (s.size - i - 1) + 1 by omega, runF, if_pos h, e]
theorem run_none (s : ByteArray) (i : Nat) (ts : List Tk) (h : i < s.size) (e : tokE s i = none) : run s i ts = (ts, some i) := by
  unfold run
  rw [show s.size - i = (s.size - i - 1) + 1 by omega, runF, if_pos h, e]
/-- One call of token, whatever stands there. -/
theorem token_calls (s : ByteArray) (i : Nat) (L : Value) (ts : List Tk) (g base : Nat) (w : World) (hs : s.size ≤ 140737488351232) (hi : i < s.size) (hb : Blk w g s i L)
    (hO : Kd.R k40 40 w base (fun k => k ≠ g) L ts) (hbase : base ≤ g) (hts : ts.length ≤ 1000000000) {t : Tk} {j : Nat} {ok : Bool} (ht : tokE s i = some (t, j, ok)) :
    Calls Tryd.prog 37 #[.pointer (some ⟨g, 0, none⟩)] w fun e w' =>
      e = .returned (.bool ok) ∧ ∃ L', Blk w' g s (j : Nat) L' ∧ Kd.R k40 40 w' base (fun k => k ≠ g) L' (ts ++ [t]) ∧ Below base w w' := by
  unfold tokE at ht
  split at ht
  · rename_i hl
    simp only [Option.some.injEq, Prod.mk.injEq] at ht
    obtain ⟨rfl, rfl, rfl⟩ := ht
    exact token_letter s i L ts g base w hs hi hb hO hbase hts hl
  · rename_i hl
    have hl' : pLetter (bt s (i : Int)) = false := by cases h : pLetter (bt s (i : Int)) with
      | true => exact absurd h hl
      | false => rfl
    split at ht
    · rename_i q
      simp only [Option.some.injEq, Prod.mk.injEq] at ht
      obtain ⟨rfl, rfl, rfl⟩ := ht
      exact token_quote s i L ts g base w hs hi hb hO hbase hts hl' q _ _ _ rfl
    · split at ht
      · rename_i q
        simp only [Option.some.injEq, Prod.mk.injEq] at ht
        obtain ⟨rfl, rfl, rfl⟩ := ht
        have hc : (((i + 1 : Nat)) : Int) = (i : Int) + 1 := by omega
        rw [hc]
        rcases q with q | q | q
        · have := token_p40 s i L ts g base w hs hi hb hO hbase hts hl' q; rw [q]; exact this
        · have := token_p41 s i L ts g base w hs hi hb hO hbase hts hl' q; rw [q]; exact this
        · have := token_p59 s i L ts g base w hs hi hb hO hbase hts hl' q; rw [q]; exact this
      · cases ht
theorem token_nothing (s : ByteArray) (i : Nat) (L : Value) (ts : List Tk) (g base : Nat) (w : World) (hs : s.size ≤ 140737488351232) (hi : i < s.size) (hb : Blk w g s i L)
    (hO : Kd.R k40 40 w base (fun k => k ≠ g) L ts) (hbase : base ≤ g) (hts : ts.length ≤ 1000000000) (ht : tokE s i = none) :
    Calls Tryd.prog 37 #[.pointer (some ⟨g, 0, none⟩)] w fun e w' => e = .returned (.bool false) ∧ Blk w' g s (i : Nat) L ∧ Below base w w' := by
  unfold tokE at ht
  split at ht
  · cases ht
  · rename_i hl
    split at ht
    · cases ht
    · rename_i q34
      split at ht
      · cases ht
      · rename_i q
        exact token_none s i L ts g base w hs hi hb hO hbase hts (by cases h : pLetter (bt s (i : Int)) with
          | true => exact absurd h hl
          | false => rfl) q34 (fun h => q (.inl h)) (fun h => q (.inr (.inl h))) (fun h => q (.inr (.inr h)))
end Go.Proofs.YtngedmioeodmfaaDoor.Lx
namespace Go.Proofs.YtngedmioeodmfaaDoor.Lx
open Go.RowKit Go.Proofs.YtngedmioeodmfaaDoor.Pr Go.Proofs.YtngedmioeodmfaaDoorW.PrintWords Go.Proofs.YtngedmioeodmfaaDoorW.PrintLast Go.Proofs.YtngedmioeodmfaaDoorW.PrintMore
set_option linter.unusedVariables false
set_option linter.unusedSimpArgs false
/-- What Tokens hands back: the tokens, the fault. -/
def tokRes (s : ByteArray) (bad : Int) : List Tk × Int × Int :=
  let r := run s (btw s 0) []
  let b := match r.2 with
    | some j => min bad (j : Int)
    | none => bad
  if b ≤ (s.size : Int) then ([], 8, b) else (r.1, 0, 0)
set_option maxHeartbeats 4000000 in
set_option maxRecDepth 100000 in
theorem tokens_big (s : ByteArray) (w : World) (h : s.size > 3000) :
    Calls Tryd.prog 15 #[.string s] w fun e w' => e = .returned (.tuple #[.slice none 0 0, .agg #[.int .i64 2, .int .i64 0]]) ∧ Below w.heap.size w w' := by
  have h1 : decide (3000 < s.size) = true := decide_eq_true h
  have hu := Tryd.underlying30
  go_enter Tryd.func15, Tryd.ntmps15
  go_wp2
  exact bodyPost_ret (v := .tuple #[.slice none 0 0, .agg #[.int .i64 2, .int .i64 0]]) (by simp [results, Tryd.results15, go_sem]) rfl ⟨rfl, below_alloc (Below.refl _ _) _⟩
set_option maxHeartbeats 4000000 in
set_option maxRecDepth 100000 in
theorem tokens_calls (s : ByteArray) (k : Nat) (bad : Int) (w : World) (hL : Laid w) (h : s.size ≤ 3000) (hw : lex_wrong.f k s = some bad) (r1 : List Tk) (r2 r3 : Int) (hr : tokRes s bad = (r1, r2, r3)) :
    Calls Tryd.prog 15 #[.string s] w fun e w' => ∃ v0_ : Value, e = .returned (.tuple #[v0_, .agg #[.int .i64 r2, .int .i64 r3]]) ∧ Kd.R k40 40 w' w.heap.size (fun _ => True) v0_ r1 ∧ Below w.heap.size w w' := by
  have h1 : decide (3000 < s.size) = false := decide_eq_false (by omega)
  have h1i : decide ((3000 : Int) < (s.size : Int)) = false := decide_eq_false (by omega)
  have h1j : ¬ ((3000 : Int) < (s.size : Int)) := by omega
  have hu := Tryd.underlying30
  have HL := Aside0.mk hL
  have HW := Aside0.mk hw
  have HR := Aside0.mk hr
  have HS := Aside0.mk h
  clear hL hw hr h
  go_enter Tryd.func15, Tryd.ntmps15
  go_wp2_with fail
  refine (lex_wrong.calls k s bad _ ?_ HW.out).mono ?_
  · exact HL.out.below (by exact below_alloc (below_alloc (Below.refl _ _) _) _)
  rintro e w1 ⟨rfl, hb1⟩
  have hF1 : w1.heap[w.heap.size]? = some (.cells #[.int .i64 0, .int .i64 0] 30 (0, 0)) := by
    rw [hb1.block _ (by simp; omega)]
    exact blk_alloc (blk_new w _) _
  have hB1 : Blk w1 (w.heap.size + 1) s (0 : Nat) (.slice none 0 0) := by
    unfold Blk
    rw [hb1.block _ (by simp)]
    have := blk_new (w.alloc (.cells #[.int .i64 0, .int .i64 0] 30)) (.cells #[.string s, .int .i64 0, .slice none 0 0] 79)
    simpa using this
  have hW1 : Below w.heap.size w w1 := Below.trans (below_alloc (below_alloc (Below.refl _ _) _) _) (hb1.mono (by simp; omega))
  clear hb1
  have HB1 := Aside0.mk hB1
  have HF1 := Aside0.mk hF1
  have HW1 := Aside0.mk hW1
  clear hB1 hF1 hW1
  go_wp2_with fail
  refine (between_calls s 0 _ _ _ (by have := HS.out; omega) (Nat.zero_le _) HB1.out).mono ?_
  rintro e w2 ⟨rfl, hb2, hk2⟩
  have HB2 := Aside0.mk hb2
  have HF2 := Aside0.mk (hk2.k.blk HF1.out (by omega) (by simp))
  have HW2 := Aside0.mk (HW1.out.trans (hk2.b.mono (by omega)))
  clear hb2 hk2 HB1 HF1 HW1
  have hRR : tokRes s bad = tokRes s bad := rfl
  obtain ⟨RR, hRun⟩ : ∃ R, run s (btw s 0) [] = R := ⟨_, rfl⟩
  have HRun := Aside0.mk hRun
  clear hRR hRun
  go_wp2_with fail
  have HRun0 := HRun
  go_loopg [5] (s.size) (fun gk v5 w' => ∃ (i : Nat) (ts : List Tk) (L : Value), v5 = .int .i64 bad ∧ Aside0 (i ≤ s.size) ∧ Aside0 (run s i ts = RR) ∧ Aside0 (Blk w' (w.heap.size + 1) s i L) ∧ Aside0 (w'.heap[w.heap.size]? = some (.cells #[.int .i64 0, .int .i64 0] 30 (0, 0))) ∧ Aside0 (Below w.heap.size w w') ∧ Aside0 (Kd.R k40 40 w' (w.heap.size + 1) (fun k => k ≠ w.heap.size + 1) L ts) ∧ Aside0 (ts.length ≤ i) ∧ Aside0 (s.size - i ≤ gk))
  case atStart =>
    have hbl := btw_le s 0 (Nat.zero_le _)
    exact ⟨btw s 0, [], _, rfl, ⟨hbl.2⟩, HRun, HB2, HF2, HW2, ⟨Kd.R_nil _ _ _ _ _⟩, ⟨Nat.zero_le _⟩, ⟨by omega⟩⟩
  case round =>
    clear HRun HB2 HF2 HW2
    obtain ⟨i, ts, L, rfl, Hi, HRun, HB, HF, HW2, HO, HLn, HG⟩ := hrel
    have hi := Hi.out
    have c0 := HB.out.c0
    have c1 := HB.out.c1
    by_cases hlt : i < s.size
    · have e1 : decide (s.size ≤ i) = false := decide_eq_false (by omega)
      have e1i : decide ((s.size : Int) ≤ (i : Int)) = false := decide_eq_false (by omega)
      match htk : tokE s i with
      | none =>
        have hst := run_none s i ts hlt htk
        rw [HRun.out] at hst
        subst hst
        go_wp2_with (first | (go_at_call 36; refine (end_calls s i L _ _ HB.out).mono ?_; rintro e w' ⟨rfl, ⟨n, rfl⟩⟩))
        refine (token_nothing s i L ts _ (w.heap.size + 1) _ (by have := HS.out; omega) hlt (by exact blk_drewN HB.out _) (by exact Kd.R_drewN HO.out _) (Nat.le_refl _) (by have := HS.out; have := HLn.out; omega) htk).mono ?_
        rintro e w3 ⟨rfl, hb3, hw3⟩
        have c1 := hb3.c1
        have c0 := hb3.c0
        have c2 := hb3.c2
        have hF3 : w3.heap[w.heap.size]? = some (.cells #[.int .i64 0, .int .i64 0] 30 (0, 0)) := by
          rw [hw3.block _ (by omega)]
          exact HF.out
        have f0 := blk_frozen hF3 0
        have f1 := blk_frozen hF3 1
        have d0 := (blk_cell hF3 0).trans rfl
        have d1 := (blk_cell hF3 1).trans rfl
        have HW3 := Aside0.mk ((HW2.out.trans (pw_below_drewN (Below.refl _ _) _)).trans (hw3.mono (by omega)))
        have HR2 := HR.out
        unfold tokRes at HR2
        rw [HRun0.out] at HR2
        clear hF3
        by_cases hbad : min bad (i : Int) ≤ (s.size : Int)
        · have b1 : decide (min bad (i : Int) ≤ (s.size : Int)) = true := decide_eq_true hbad
          simp only [if_pos hbad, Prod.mk.injEq] at HR2
          obtain ⟨rfl, rfl, rfl⟩ := HR2
          go_wp2_with fail
          all_goals
            exact bodyPost_ret (v := .tuple #[.slice none 0 0, .agg #[.int .i64 8, .int .i64 (min bad (i : Int))]]) (by simp [results, Tryd.results15, go_sem, d0, d1, hu]) rfl ⟨_, rfl, Kd.R_nil _ _ _ _ _, (HW3.out.setCell (Nat.le_refl _) _).setCell (Nat.le_refl _) _⟩
        · exact absurd (by omega) hbad
      | some (t, j, true) =>
        go_wp2_with (first | (go_at_call 36; refine (end_calls s i L _ _ HB.out).mono ?_; rintro e w' ⟨rfl, ⟨n, rfl⟩⟩))
        refine (token_calls s i L ts _ (w.heap.size + 1) _ (by have := HS.out; omega) hlt (by exact blk_drewN HB.out _) (by exact Kd.R_drewN HO.out _) (Nat.le_refl _) (by have := HS.out; have := HLn.out; omega) htk).mono ?_
        rintro e w3 ⟨rfl, L3, hb3, ho3, hw3⟩
        have hj := tokE_ge s i hlt htk
        go_wp2_with fail
        refine (between_calls s j _ _ _ (by have := HS.out; omega) hj.2 (by exact hb3)).mono ?_
        rintro e w4 ⟨rfl, hb4, hk4⟩
        have hbl := btw_le s j hj.2
        go_wp2
        go_roundg (s.size - btw s j)
        case measure => have := HG.out; omega
        case rel =>
          refine ⟨btw s j, ts ++ [t], L3, rfl, ⟨by omega⟩, ⟨by rw [← HRun.out]; exact (run_go s i ts hlt htk).symm⟩, ⟨hb4⟩, ⟨?_⟩, ⟨?_⟩, ⟨?_⟩, ⟨by have := HLn.out; simp; omega⟩, ⟨Nat.le_refl _⟩⟩
          · refine hk4.k.blk ?_ (by omega) (by simp)
            rw [hw3.block _ (by omega)]
            exact HF.out
          · exact (HW2.out.trans (pw_below_drewN (Below.refl _ _) _)).trans ((hw3.mono (by omega)).trans (hk4.b.mono (by omega)))
          · exact Kd.R_keep ho3 hk4.k (fun k hk => hk)
      | some (t, j, false) =>
        have hst := run_bad s i ts hlt htk
        rw [HRun.out] at hst
        subst hst
        go_wp2_with (first | (go_at_call 36; refine (end_calls s i L _ _ HB.out).mono ?_; rintro e w' ⟨rfl, ⟨n, rfl⟩⟩))
        refine (token_calls s i L ts _ (w.heap.size + 1) _ (by have := HS.out; omega) hlt (by exact blk_drewN HB.out _) (by exact Kd.R_drewN HO.out _) (Nat.le_refl _) (by have := HS.out; have := HLn.out; omega) htk).mono ?_
        rintro e w3 ⟨rfl, L3, hb3, ho3, hw3⟩
        have c1 := hb3.c1
        have c0 := hb3.c0
        have c2 := hb3.c2
        have hF3 : w3.heap[w.heap.size]? = some (.cells #[.int .i64 0, .int .i64 0] 30 (0, 0)) := by
          rw [hw3.block _ (by omega)]
          exact HF.out
        have f0 := blk_frozen hF3 0
        have f1 := blk_frozen hF3 1
        have d0 := (blk_cell hF3 0).trans rfl
        have d1 := (blk_cell hF3 1).trans rfl
        have HW3 := Aside0.mk ((HW2.out.trans (pw_below_drewN (Below.refl _ _) _)).trans (hw3.mono (by omega)))
        have HR2 := HR.out
        unfold tokRes at HR2
        rw [HRun0.out] at HR2
        clear hF3
        by_cases hbad : min bad (j : Int) ≤ (s.size : Int)
        · have b1 : decide (min bad (j : Int) ≤ (s.size : Int)) = true := decide_eq_true hbad
          simp only [if_pos hbad, Prod.mk.injEq] at HR2
          obtain ⟨rfl, rfl, rfl⟩ := HR2
          go_wp2_with fail
          all_goals
            exact bodyPost_ret (v := .tuple #[.slice none 0 0, .agg #[.int .i64 8, .int .i64 (min bad (j : Int))]]) (by simp [results, Tryd.results15, go_sem, d0, d1, hu]) rfl ⟨_, rfl, Kd.R_nil _ _ _ _ _, (HW3.out.setCell (Nat.le_refl _) _).setCell (Nat.le_refl _) _⟩
        · have b1 : decide (min bad (j : Int) ≤ (s.size : Int)) = false := decide_eq_false hbad
          simp only [if_neg hbad, Prod.mk.injEq] at HR2
          obtain ⟨rfl, rfl, rfl⟩ := HR2
          go_wp2_with fail
          all_goals
            exact bodyPost_ret (v := .tuple #[L3, .agg #[.int .i64 0, .int .i64 0]]) (by simp [results, Tryd.results15, go_sem, d0, d1, hu]) rfl ⟨_, rfl, Kd.R_lower (Kd.R_mono (Kd.R_far (Kd.R_far (Kd.R_bound ho3) (p := ⟨w.heap.size, 0, none⟩) (fun k hk => Nat.ne_of_gt hk.2.1) _) (p := ⟨w.heap.size, 1, none⟩) (fun k hk => Nat.ne_of_gt hk.2.1) _) (fun _ _ => trivial)) (by omega), (HW3.out.setCell (Nat.le_refl _) _).setCell (Nat.le_refl _) _⟩
    · have e1 : decide (s.size ≤ i) = true := decide_eq_true (by omega)
      have e1i : decide ((s.size : Int) ≤ (i : Int)) = true := decide_eq_true (by omega)
      have hst := run_stop s i ts hlt
      rw [HRun.out] at hst
      subst hst
      have HR2 := HR.out
      unfold tokRes at HR2
      rw [HRun0.out] at HR2
      have c2 := HB.out.c2
      have f0 := blk_frozen HF.out 0
      have f1 := blk_frozen HF.out 1
      have d0 := (blk_cell HF.out 0).trans rfl
      have d1 := (blk_cell HF.out 1).trans rfl
      by_cases hbad : bad ≤ (s.size : Int)
      · have b1 : decide (bad ≤ (s.size : Int)) = true := decide_eq_true hbad
        simp only [if_pos hbad, Prod.mk.injEq] at HR2
        obtain ⟨rfl, rfl, rfl⟩ := HR2
        go_wp2_with (go_at_call 36; refine (end_calls s i L _ _ HB.out).mono ?_; rintro e w' ⟨rfl, ⟨n, rfl⟩⟩)
        all_goals
          exact bodyPost_ret (v := .tuple #[.slice none 0 0, .agg #[.int .i64 8, .int .i64 bad]]) (by simp [results, Tryd.results15, go_sem, d0, d1, hu]) rfl ⟨_, rfl, Kd.R_nil _ _ _ _ _, ((pw_below_drewN HW2.out _).setCell (Nat.le_refl _) _).setCell (Nat.le_refl _) _⟩
      · have b1 : decide (bad ≤ (s.size : Int)) = false := decide_eq_false hbad
        simp only [if_neg hbad, Prod.mk.injEq] at HR2
        obtain ⟨rfl, rfl, rfl⟩ := HR2
        go_wp2_with (go_at_call 36; refine (end_calls s i L _ _ HB.out).mono ?_; rintro e w' ⟨rfl, ⟨n, rfl⟩⟩)
        all_goals
          exact bodyPost_ret (v := .tuple #[L, .agg #[.int .i64 0, .int .i64 0]]) (by simp [results, Tryd.results15, go_sem, d0, d1, hu]) rfl ⟨_, rfl, Kd.R_lower (Kd.R_mono (Kd.R_far (Kd.R_far (Kd.R_bound (Kd.R_drewN HO.out _)) (p := ⟨w.heap.size, 0, none⟩) (fun k hk => Nat.ne_of_gt hk.2.1) _) (p := ⟨w.heap.size, 1, none⟩) (fun k hk => Nat.ne_of_gt hk.2.1) _) (fun _ _ => trivial)) (by omega), ((pw_below_drewN HW2.out _).setCell (Nat.le_refl _) _).setCell (Nat.le_refl _) _⟩
end Go.Proofs.YtngedmioeodmfaaDoor.Lx
namespace Go.Proofs.YtngedmioeodmfaaDoor.Pr
open Go.RowKit Go.Proofs.YtngedmioeodmfaaDoorW.PrintWords Go.Proofs.YtngedmioeodmfaaDoorW.PrintLast Go.Proofs.YtngedmioeodmfaaDoorW.PrintMore
attribute [local go_sem] max2_int min2_int max_two min_two max_three min_three max_four min_four   -- for this text's walks alone
set_option linter.unusedVariables false
set_option linter.unusedSimpArgs false
def lex_Tokens.f (k : Nat) (a0 : ByteArray) : Option (List (S40) × Int × Int) := if (a0.size : Int) > 3000 then some ([], 2, 0) else (lex_wrong.f k a0).bind fun bad => some (Go.Proofs.YtngedmioeodmfaaDoor.Lx.tokRes a0 bad)
theorem lex_Tokens.mono : ∀ a0 k, LeO (lex_Tokens.f k a0) (lex_Tokens.f (k + 1) a0) := by
  intro a0 k
  unfold lex_Tokens.f
  exact LeO.ite (LeO.refl _) (LeO.bind (lex_wrong.mono _ _) (fun _ => LeO.refl _))
theorem lex_Tokens.calls (k : Nat) (a0 : ByteArray) (r1 : List (S40)) (r2 : Int) (r3 : Int) (w : World) (hL : Laid w) (h : lex_Tokens.f k a0 = some (r1, r2, r3)) :
    Calls Tryd.prog 15 #[.string a0] w fun e w' => ∃ v0_ : Value, e = .returned (.tuple #[v0_, .agg #[.int .i64 r2, .int .i64 r3]]) ∧ Kd.R k40 40 w' w.heap.size (fun _ => True) v0_ r1 ∧ Below w.heap.size w w' := by
  unfold lex_Tokens.f at h
  by_cases hs : (a0.size : Int) > 3000
  · rw [if_pos hs] at h
    simp only [Option.some.injEq, Prod.mk.injEq] at h
    obtain ⟨rfl, rfl, rfl⟩ := h
    refine (Go.Proofs.YtngedmioeodmfaaDoor.Lx.tokens_big a0 w (by omega)).mono ?_
    rintro e w' ⟨rfl, hb⟩
    exact ⟨_, rfl, Kd.R_nil _ _ _ _ _, hb⟩
  · rw [if_neg hs] at h
    obtain ⟨bad, hw, hr⟩ := Option.bind_eq_some_iff.mp h
    exact Go.Proofs.YtngedmioeodmfaaDoor.Lx.tokens_calls a0 k bad w hL (by omega) hw r1 r2 r3 (Option.some.inj hr)
end Go.Proofs.YtngedmioeodmfaaDoor.Pr
namespace Go.Proofs.YtngedmioeodmfaaDoor.Pr
open Go.RowKit Go.Proofs.YtngedmioeodmfaaDoorW.PrintWords Go.Proofs.YtngedmioeodmfaaDoorW.PrintLast Go.Proofs.YtngedmioeodmfaaDoorW.PrintMore
attribute [local go_sem] max2_int min2_int max_two min_two max_three min_three max_four min_four   -- for this text's walks alone
set_option linter.unusedVariables false
set_option linter.unusedSimpArgs false
def slices_Index_string_string.l0 : Nat → List ByteArray → ByteArray → Int → Int → Option (Int)
  | 0, _, _, _, _ => none
  | k + 1, x0, x1, x7, x8 => if x8 < x7 then (if 0 ≤ x8 then (if x8 < (x0.length : Int) then (if x1.toList = (rdOf ByteArray.empty x0 x8).toList then (some x8) else (slices_Index_string_string.l0 k x0 x1 x7 (wrap64 (x8 + 1)))) else (none)) else (none)) else (some (-1))
def slices_Index_string_string.f (k : Nat) (l0 : List ByteArray) (a1 : ByteArray) : Option (Int) := slices_Index_string_string.l0 k l0 a1 (l0.length : Int) 0
theorem slices_Index_string_string.mono_l : ∀ k, (∀ y0 y1 y2 y3, LeO (slices_Index_string_string.l0 k y0 y1 y2 y3) (slices_Index_string_string.l0 (k + 1) y0 y1 y2 y3))
  | 0 => fun _ _ _ _ r h => by simp [slices_Index_string_string.l0] at h
  | k + 1 => by
    have ih0 := slices_Index_string_string.mono_l k
    · intro y0 y1 y2 y3
      unfold slices_Index_string_string.l0
      repeat' first
      | (with_reducible exact ih0 _ _ _ _)
      | (with_reducible exact LeO.refl _)
      | (with_reducible exact LeO.none _)
      | (with_reducible refine LeO.ite ?_ ?_)
      | (with_reducible refine LeO.bind ?_ (fun _ => ?_))
      | exact ih0 _ _ _ _
      | exact LeO.none _
      | refine LeO.ite ?_ ?_
      | refine LeO.bind ?_ (fun _ => ?_)
theorem slices_Index_string_string.mono : ∀ a0 a1 k, LeO (slices_Index_string_string.f k a0 a1) (slices_Index_string_string.f (k + 1) a0 a1) := by
  intro a0 a1 k
  have ih0 := slices_Index_string_string.mono_l k
  unfold slices_Index_string_string.f
  repeat' first
      | (with_reducible exact ih0 _ _ _ _)
      | (with_reducible exact LeO.refl _)
      | (with_reducible exact LeO.none _)
      | (with_reducible refine LeO.ite ?_ ?_)
      | (with_reducible refine LeO.bind ?_ (fun _ => ?_))
      | exact ih0 _ _ _ _
      | exact LeO.none _
      | refine LeO.ite ?_ ?_
      | refine LeO.bind ?_ (fun _ => ?_)
set_option maxHeartbeats 8000000 in
set_option maxRecDepth 100000 in
theorem slices_Index_string_string.calls (k : Nat) (A0 : Option Addr) (c0 : Nat) (l0 : List ByteArray) (a1 : ByteArray) (r : Int) (w : World) (hr0 : Kd.C Kd.string w A0 l0.length l0) (hc0 : l0.length ≤ c0) (h : slices_Index_string_string.f k l0 a1 = some r) :
    Calls Tryd.prog 90 #[.slice A0 l0.length c0, .string a1] w fun e w' => e = .returned (.int .i64 r) ∧ Drawn0 w w' := by
  have HR0 := Aside0.mk hr0
  have HC0 := Aside0.mk hc0
  clear hr0 hc0
  have H : (slices_Index_string_string.l0 k l0 a1 (l0.length : Int) 0) = some r := h
  clear h
  have H' := Aside0.mk H
  clear H
  go_enter Tryd.func90, Tryd.ntmps90
  go_wp2
  go_loopg [8] k (fun kq v8 w' => ∃ (x8_1 : Int), v8 = .int .i64 x8_1 ∧ Aside0 (slices_Index_string_string.l0 kq l0 a1 (l0.length : Int) x8_1 = some r) ∧ Aside0 (kq ≤ k) ∧ Drawn0 w w')
  case atStart => exact ⟨(0), (by first | rfl | (simp; done) | (simp [*]; done)), H', ⟨Nat.le_refl _⟩, by repeat (first | exact Drawn0.refl _ | apply Drawn0.step)⟩
  case round =>
    clear H'
    try clear p2
    obtain ⟨x8_1, rfl, HA, HK1, ⟨m1, rfl⟩⟩ := hrel
    cases gk with
    | zero => exact absurd HA.out (by simp [slices_Index_string_string.l0])
    | succ k1 =>
      have H := HA.out
      clear HA
      simp only [slices_Index_string_string.l0] at H
      by_cases c3 : x8_1 < (l0.length : Int)
      · rw [if_pos c3] at H
        have c3b0 : decide (x8_1 < (l0.length : Int)) = true := decide_eq_true c3
        clear c3
        by_cases c4 : 0 ≤ x8_1
        · rw [if_pos c4] at H
          have c4b0 : decide (0 ≤ x8_1) = true := decide_eq_true c4
          clear c4
          by_cases c5 : x8_1 < (l0.length : Int)
          · rw [if_pos c5] at H
            have c5b0 : decide (x8_1 < (l0.length : Int)) = true := decide_eq_true c5
            clear c5
            by_cases c6 : a1.toList = (rdOf ByteArray.empty l0 x8_1).toList
            · rw [if_pos c6] at H
              have c6b0 : (a1.toList == (rdOf ByteArray.empty l0 x8_1).toList) = true := beq_iff_eq.mpr c6
              have c6b1 : (a1.toList != (rdOf ByteArray.empty l0 x8_1).toList) = false := bne_eq_false_iff_eq.mpr c6
              clear c6
              obtain rfl := Option.some.inj H
              have p330 : 0 ≤ (x8_1 : Int) := of_decide_eq_true (by first | (with_reducible assumption) | assumption)
              have q330 : x8_1 < (l0.length : Int) := of_decide_eq_true (by first | (with_reducible assumption) | assumption)
              obtain ⟨ad330, e330, hx330_0⟩ := Kd.at_string HR0.out x8_1 p330 q330
              cases e330
              replace p330 := eq_true p330
              replace q330 := eq_true q330
              go_wp2
              go_ret
              exact ⟨by first | rfl | (simp; done) | (simp [*]; done), by repeat (first | exact Drawn0.refl _ | apply Drawn0.step)⟩
            · rw [if_neg c6] at H
              have c6b0 : (a1.toList == (rdOf ByteArray.empty l0 x8_1).toList) = false := beq_eq_false_iff_ne.mpr c6
              have c6b1 : (a1.toList != (rdOf ByteArray.empty l0 x8_1).toList) = true := bne_iff_ne.mpr c6
              have H' := Aside0.mk H
              clear H
              have p330 : 0 ≤ (x8_1 : Int) := of_decide_eq_true (by first | (with_reducible assumption) | assumption)
              have q330 : x8_1 < (l0.length : Int) := of_decide_eq_true (by first | (with_reducible assumption) | assumption)
              obtain ⟨ad330, e330, hx330_0⟩ := Kd.at_string HR0.out x8_1 p330 q330
              cases e330
              replace p330 := eq_true p330
              replace q330 := eq_true q330
              go_wp2
              go_roundg k1
              case measure => have := HK1.out; omega
              case rel => exact ⟨(wrap64 (x8_1 + 1)), (by first | rfl | (simp; done) | (simp [*]; done)), H', ⟨by have := HK1.out; omega⟩, by repeat (first | exact Drawn0.refl _ | apply Drawn0.step)⟩
          · rw [if_neg c5] at H
            exact absurd H (by simp)
        · rw [if_neg c4] at H
          exact absurd H (by simp)
      · rw [if_neg c3] at H
        have c3b0 : decide (x8_1 < (l0.length : Int)) = false := decide_eq_false c3
        clear c3
        obtain rfl := Option.some.inj H
        go_wp2
        go_ret
        exact ⟨by first | rfl | (simp; done) | (simp [*]; done), by repeat (first | exact Drawn0.refl _ | apply Drawn0.step)⟩
def slices_Contains_string_string.f (k : Nat) (l0 : List ByteArray) (a1 : ByteArray) : Option (Bool) := (slices_Index_string_string.f k l0 a1).bind fun t331 => (some (decide (t331 ≥ 0)))
theorem slices_Contains_string_string.mono : ∀ a0 a1 k, LeO (slices_Contains_string_string.f k a0 a1) (slices_Contains_string_string.f (k + 1) a0 a1) := by
  intro a0 a1 k
  unfold slices_Contains_string_string.f
  repeat' first
      | (with_reducible exact slices_Index_string_string.mono _ _ _)
      | (with_reducible exact LeO.refl _)
      | (with_reducible exact LeO.none _)
      | (with_reducible refine LeO.ite ?_ ?_)
      | (with_reducible refine LeO.bind ?_ (fun _ => ?_))
      | exact slices_Index_string_string.mono _ _ _
      | exact LeO.none _
      | refine LeO.ite ?_ ?_
      | refine LeO.bind ?_ (fun _ => ?_)
set_option maxHeartbeats 8000000 in
set_option maxRecDepth 100000 in
theorem slices_Contains_string_string.calls (k : Nat) (A0 : Option Addr) (c0 : Nat) (l0 : List ByteArray) (a1 : ByteArray) (r : Bool) (w : World) (hr0 : Kd.C Kd.string w A0 l0.length l0) (hc0 : l0.length ≤ c0) (h : slices_Contains_string_string.f k l0 a1 = some r) :
    Calls Tryd.prog 82 #[.slice A0 l0.length c0, .string a1] w fun e w' => e = .returned (.bool r) ∧ Drawn0 w w' := by
  have HR0 := Aside0.mk hr0
  have HC0 := Aside0.mk hc0
  clear hr0 hc0
  have H : ((slices_Index_string_string.f k l0 a1).bind fun t331 => (some (decide (t331 ≥ 0)))) = some r := h
  clear h
  replace H := Option.bind_eq_some_iff.mp H
  obtain ⟨t331, A30, H⟩ := H
  replace H : (some (decide (t331 ≥ 0))) = some r := H
  have A3 := Aside0.mk A30
  clear A30
  obtain rfl := Option.some.inj H
  go_enter Tryd.func82, Tryd.ntmps82
  go_wp2_with (first | ((with_reducible refine gate_callee (f := 90) rfl ?_); refine goesL_ (some 7) rfl rfl Tryd.func90 (by kernel_rfl) rfl #[.slice A0 l0.length c0, .string a1] rfl (by (try simp only [List.map_toArray, List.map_cons, List.map_nil]); first | done | rfl | (simp only [List.length_drop, List.length_take]; rfl)) ?_; (with_reducible refine (slices_Index_string_string.calls k _ _ l0 a1 t331 _ ?side1 ?side2 A3.out).mono ?_); (case side1 => repeat (first | exact HR0.out | (with_reducible refine Kd.C_alloc ?_ _) | (with_reducible refine Kd.C_drewN ?_ _) | (with_reducible refine Kd.C_drew ?_))); (case side2 => exact HC0.out); rintro e w' ⟨rfl, ⟨nd, rfl⟩⟩; refine ⟨_, rfl, ?_⟩))
  go_ret
  exact ⟨by first | rfl | (simp; done) | (simp [*]; done), by repeat (first | exact Drawn0.refl _ | apply Drawn0.step)⟩
def ascii_Any.f (k : Nat) (a0 : ByteArray) (l1 : List ByteArray) : Option (Bool) := (slices_Contains_string_string.f k l1 a0).bind fun t332 => (some t332)
theorem ascii_Any.mono : ∀ a0 a1 k, LeO (ascii_Any.f k a0 a1) (ascii_Any.f (k + 1) a0 a1) := by
  intro a0 a1 k
  unfold ascii_Any.f
  repeat' first
      | (with_reducible exact slices_Contains_string_string.mono _ _ _)
      | (with_reducible exact LeO.refl _)
      | (with_reducible exact LeO.none _)
      | (with_reducible refine LeO.ite ?_ ?_)
      | (with_reducible refine LeO.bind ?_ (fun _ => ?_))
      | exact slices_Contains_string_string.mono _ _ _
      | exact LeO.none _
      | refine LeO.ite ?_ ?_
      | refine LeO.bind ?_ (fun _ => ?_)
set_option maxHeartbeats 8000000 in
set_option maxRecDepth 100000 in
theorem ascii_Any.calls (k : Nat) (a0 : ByteArray) (A1 : Option Addr) (c1 : Nat) (l1 : List ByteArray) (r : Bool) (w : World) (hr1 : Kd.C Kd.string w A1 l1.length l1) (hc1 : l1.length ≤ c1) (h : ascii_Any.f k a0 l1 = some r) :
    Calls Tryd.prog 70 #[.string a0, .slice A1 l1.length c1] w fun e w' => e = .returned (.bool r) ∧ Drawn0 w w' := by
  have HR1 := Aside0.mk hr1
  have HC1 := Aside0.mk hc1
  clear hr1 hc1
  have H : ((slices_Contains_string_string.f k l1 a0).bind fun t332 => (some t332)) = some r := h
  clear h
  replace H := Option.bind_eq_some_iff.mp H
  obtain ⟨t332, A30, H⟩ := H
  replace H : (some t332) = some r := H
  have A3 := Aside0.mk A30
  clear A30
  obtain rfl := Option.some.inj H
  go_enter Tryd.func70, Tryd.ntmps70
  go_wp2_with (first | ((with_reducible refine gate_callee (f := 82) rfl ?_); refine goesL_ (some 7) rfl rfl Tryd.func82 (by kernel_rfl) rfl #[.slice A1 l1.length c1, .string a0] rfl (by (try simp only [List.map_toArray, List.map_cons, List.map_nil]); first | done | rfl | (simp only [List.length_drop, List.length_take]; rfl)) ?_; (with_reducible refine (slices_Contains_string_string.calls k _ _ l1 a0 t332 _ ?side1 ?side2 A3.out).mono ?_); (case side1 => repeat (first | exact HR1.out | (with_reducible refine Kd.C_alloc ?_ _) | (with_reducible refine Kd.C_drewN ?_ _) | (with_reducible refine Kd.C_drew ?_))); (case side2 => exact HC1.out); rintro e w' ⟨rfl, ⟨nd, rfl⟩⟩; refine ⟨_, rfl, ?_⟩))
  go_ret
  exact ⟨by first | rfl | (simp; done) | (simp [*]; done), by repeat (first | exact Drawn0.refl _ | apply Drawn0.step)⟩
/-- A state of type 67 at block g of W; what its slices lead to came in by w0. -/
def IsS67 (w0 W : World) (g : Nat) (f0 : List (S40)) (f1 : Int) (f2 : Int) (f3 : Int) (f4 : Int) : Prop := ∃ A0 c0, W.heap[g]? = some (.cells #[.slice A0 f0.length c0, .int .i64 f1, .int .i64 f2, .int .i64 f3, .int .i64 f4] 67 (0, 0)) ∧ w0.heap.size ≤ g ∧ Kd.C k40 w0 A0 f0.length f0
theorem IsS67.grown {w0 W : World} {g : Nat} {f0 : List (S40)} {f1 : Int} {f2 : Int} {f3 : Int} {f4 : Int} {W1 : World} {row : Option Nat} (h : IsS67 w0 W g f0 f1 f2 f3 f4) (hw : W.grownBy W1 row) (hne : some g ≠ row) : IsS67 w0 W1 g f0 f1 f2 f3 f4 := by
  obtain ⟨A0, c0, hb, hg, hr0⟩ := h
  exact ⟨A0, c0, blk_grown hb hw hne, hg, hr0⟩
theorem IsS67.kept {w0 W : World} {g : Nat} {f0 : List (S40)} {f1 : Int} {f2 : Int} {f3 : Int} {f4 : Int} {W1 : World} {S : Nat → Prop} (h : IsS67 w0 W g f0 f1 f2 f3 f4) (hk : Kept W W1 S) (hne : ¬ S g) : IsS67 w0 W1 g f0 f1 f2 f3 f4 := by
  obtain ⟨A0, c0, hb, hg, hr0⟩ := h
  exact ⟨A0, c0, blk_kept hb hk hne, hg, hr0⟩
theorem IsS67.below {w0 W : World} {g : Nat} {f0 : List (S40)} {f1 : Int} {f2 : Int} {f3 : Int} {f4 : Int} {W1 : World} (h : IsS67 w0 W g f0 f1 f2 f3 f4) (hw : Below W.heap.size W W1) : IsS67 w0 W1 g f0 f1 f2 f3 f4 := h.grown (grown_of_below hw none) (by simp)
theorem IsS67.alloc {w0 W : World} {g : Nat} {f0 : List (S40)} {f1 : Int} {f2 : Int} {f3 : Int} {f4 : Int} (h : IsS67 w0 W g f0 f1 f2 f3 f4) (o : Obj) : IsS67 w0 (W.alloc o) g f0 f1 f2 f3 f4 := h.below (below_alloc (Below.refl _ _) o)
theorem IsS67.drewN {w0 W : World} {g : Nat} {f0 : List (S40)} {f1 : Int} {f2 : Int} {f3 : Int} {f4 : Int} (h : IsS67 w0 W g f0 f1 f2 f3 f4) (m : Nat) : IsS67 w0 (W.drewN m) g f0 f1 f2 f3 f4 := h
theorem IsS67.drew {w0 W : World} {g : Nat} {f0 : List (S40)} {f1 : Int} {f2 : Int} {f3 : Int} {f4 : Int} (h : IsS67 w0 W g f0 f1 f2 f3 f4) : IsS67 w0 W.drew g f0 f1 f2 f3 f4 := h
theorem IsS67.at_ {w0 W : World} {g : Nat} {f0 : List (S40)} {f1 : Int} {f2 : Int} {f3 : Int} {f4 : Int} {w' : World} {m : Nat} (hq : W.drewN m = w') (h : IsS67 w0 W g f0 f1 f2 f3 f4) : IsS67 w0 w' g f0 f1 f2 f3 f4 := by subst hq; exact IsS67.drewN h m
theorem IsS67.apart {w0 W : World} {g : Nat} {f0 : List (S40)} {f1 : Int} {f2 : Int} {f3 : Int} {f4 : Int} {α : Type} {d : Kd α} {e : Nat} {base : Nat} {ok : Nat → Prop} {v : Value} {xs : List α} (h : IsS67 w0 W g f0 f1 f2 f3 f4) (ho : d.R e W base ok v xs) (ht : ∀ q, q ∈ e :: d.E → q ≠ 67) : d.R e W base (fun k => ok k ∧ k ≠ g) v xs := by
  obtain ⟨A0, c0, hb, hg, hr0⟩ := h
  exact Kd.R_types ho hb ht
theorem IsS67.own_ne {w0 W : World} {g : Nat} {f0 : List (S40)} {f1 : Int} {f2 : Int} {f3 : Int} {f4 : Int} {α : Type} {d : Kd α} {e : Nat} {base : Nat} {ok : Nat → Prop} {v : Value} {xs : List α} (h : IsS67 w0 W g f0 f1 f2 f3 f4) (ho : d.R e W base ok v xs) (ht : e ≠ 67) : some g ≠ v.ownBlock := by
  obtain ⟨A0, c0, hb, hg, hr0⟩ := h
  exact Kd.R_ne ho hb ht
theorem IsS67.lt {w0 W : World} {g : Nat} {f0 : List (S40)} {f1 : Int} {f2 : Int} {f3 : Int} {f4 : Int} (h : IsS67 w0 W g f0 f1 f2 f3 f4) : g < W.heap.size := by
  obtain ⟨A0, c0, hb, hg, hr0⟩ := h
  exact blk_lt hb
theorem IsS67.far {w0 W : World} {g : Nat} {f0 : List (S40)} {f1 : Int} {f2 : Int} {f3 : Int} {f4 : Int} {p : Addr} (h : IsS67 w0 W g f0 f1 f2 f3 f4) (hne : g ≠ p.block) (u : Value) : IsS67 w0 (W.setCell p u) g f0 f1 f2 f3 f4 := by
  obtain ⟨A0, c0, hb, hg, hr0⟩ := h
  exact ⟨A0, c0, blk_far hb hne u, hg, hr0⟩
theorem IsS67.new (w0 W : World) (A0 : Option Addr) (c0 : Nat) (f0 : List (S40)) (f1 : Int) (f2 : Int) (f3 : Int) (f4 : Int) (hB : Below w0.heap.size w0 W) (hr0 : Kd.C k40 w0 A0 f0.length f0) : IsS67 w0 (W.alloc (.cells #[.slice A0 f0.length c0, .int .i64 f1, .int .i64 f2, .int .i64 f3, .int .i64 f4] 67)) W.heap.size f0 f1 f2 f3 f4 := ⟨A0, c0, by simpa using heap_alloc_new W _, hB.size, hr0⟩
end Go.Proofs.YtngedmioeodmfaaDoor.Pr
namespace Go.Proofs.YtngedmioeodmfaaDoor.Ps
open Go.RowKit Go.Proofs.YtngedmioeodmfaaDoor.Pr
set_option linter.unusedVariables false
set_option linter.unusedSimpArgs false
abbrev Tk := S40
abbrev Cd := S49
abbrev Res (α : Type) := Except (Int × Int) (α × Nat)
/-- The token that is next. -/
def nxt (T : List Tk) (e : Int) (p : Nat) : Tk := if h : p < T.length then T[p] else ⟨0, e, ⟨#[]⟩⟩
theorem bytes_toList {a b : ByteArray} : a.toList = b.toList ↔ a = b := by
  constructor
  · intro h
    rw [ByteArray.toList_eq, ByteArray.toList_eq] at h
    exact ByteArray.ext (Array.ext' h)
  · rintro rfl; rfl
def memB (s : ByteArray) (ws : List ByteArray) : Bool := ws.any fun w => decide (s = w)
theorem memB_cons (s a : ByteArray) (l : List ByteArray) : memB s (a :: l) = (decide (s = a) || memB s l) := rfl
section
variable (T : List Tk) (e : Int)
def isP (ws : List ByteArray) (p : Nat) : Bool := decide ((nxt T e p).f0 = 1) && memB (nxt T e p).f2 ws
def takeP (kind : Int) (p : Nat) : Res ByteArray := if (nxt T e p).f0 = kind then .ok ((nxt T e p).f2, p + 1) else .error (8, (nxt T e p).f1)
def wordP (ws : List ByteArray) (p : Nat) : Res ByteArray := if isP T e ws p then takeP T e 1 p else .error (8, (nxt T e p).f1)
/-- One more behind each word. -/
def kidsL (one : Nat → Res Cd) (w : ByteArray) : Nat → List Cd → Nat → Res (List Cd)
  | 0, acc, p => .ok (acc, p)
  | f + 1, acc, p => if isP T e [w] p then (match one (p + 1) with
    | .error x => .error x
    | .ok (c, q) => kidsL one w f (acc ++ [c]) q) else .ok (acc, p)
def cond0 (k : Int) (l : List Cd) : Cd := ⟨k, ⟨⟨#[]⟩, ⟨#[]⟩⟩, l⟩
def kidsP (kind : Int) (w : ByteArray) (one : Nat → Res Cd) (p : Nat) : Res Cd :=
  match one p with
  | .error x => .error x
  | .ok (c, q) => match kidsL T e one w (T.length + 1 - q) [c] q with
    | .error x => .error x
    | .ok (l, r) => if l.length = 1 then .ok (l.getD 0 z49, r) else .ok (cond0 kind l, r)
def wNot : ByteArray := ⟨#[110, 111, 116]⟩
def wAnd : ByteArray := ⟨#[97, 110, 100]⟩
def wOr : ByteArray := ⟨#[111, 114]⟩
def wTrue : ByteArray := ⟨#[116, 114, 117, 101]⟩
def wFalse : ByteArray := ⟨#[102, 97, 108, 115, 101]⟩
def lowB (s : ByteArray) : ByteArray := ⟨s.data.map fun c => if 65 ≤ c ∧ c ≤ 90 then c + 32 else c⟩
def wMethod : ByteArray := ⟨#[109, 101, 116, 104, 111, 100]⟩
def wDest : ByteArray := ⟨#[100, 101, 115, 116]⟩
def wScheme : ByteArray := ⟨#[115, 99, 104, 101, 109, 101]⟩
def wHeader : ByteArray := ⟨#[104, 101, 97, 100, 101, 114]⟩
def wHost : ByteArray := ⟨#[104, 111, 115, 116]⟩
def wPath : ByteArray := ⟨#[112, 97, 116, 104]⟩
def wSame : ByteArray := ⟨#[115, 97, 109, 101, 45, 111, 114, 105, 103, 105, 110]⟩
def wTrusted : ByteArray := ⟨#[116, 114, 117, 115, 116, 101, 100]⟩
def wCreds : ByteArray := ⟨#[99, 114, 101, 100, 115]⟩
def wCors : ByteArray := ⟨#[99, 111, 114, 115]⟩
def atomWords : List ByteArray := [wTrue, wFalse, wSame, wTrusted, wCreds, wCors, wMethod, wDest, wScheme, wHeader, wHost, wPath]
def atomT (w : ByteArray) (f : ByteArray → ByteArray) : Res ByteArray → Res Cd
  | .error x => .error x
  | .ok (t, q) => .ok (⟨3, ⟨w, f t⟩, []⟩, q)
def atomK (w : ByteArray) (q : Nat) : Res Cd :=
  if w = wTrue then .ok (cond0 1 [], q) else if w = wFalse then .ok (cond0 2 [], q)
  else if w = wMethod then atomT w id (takeP T e 1 q)
  else if w = wDest ∨ w = wScheme ∨ w = wHeader then atomT w lowB (takeP T e 1 q)
  else if w = wHost ∨ w = wPath then atomT w id (takeP T e 2 q)
  else .ok (⟨3, ⟨w, ⟨#[]⟩⟩, []⟩, q)
def atomP (p : Nat) : Res Cd :=
  match wordP T e atomWords p with
  | .error x => .error x
  | .ok (w, q) => atomK T e w q
def closeK (c : Cd) : Res ByteArray → Res Cd
  | .error x => .error x
  | .ok (_, r) => .ok (c, r)
def closeP : Res Cd → Res Cd
  | .error x => .error x
  | .ok (c, q) => closeK c (takeP T e 4 q)
def orP (one : Nat → Res Cd) (p : Nat) : Res Cd := kidsP T e 6 wOr (kidsP T e 5 wAnd one) p
def wrapNot : Res Cd → Res Cd
  | .error x => .error x
  | .ok (c, q) => .ok (cond0 4 [c], q)
/-- not, at a depth; one: what reads one deeper. -/
def notR (deep : Int) (one : Nat → Res Cd) (p : Nat) : Res Cd :=
  if isP T e [wNot] p then wrapNot (if deep < 30 then one (p + 1) else .error (2, (nxt T e p).f1))
  else if (nxt T e p).f0 = 3 then (if deep < 30 then closeP T e (orP T e one (p + 1)) else .error (2, (nxt T e p).f1))
  else atomP T e p
/-- not, n brackets or nots still to come. -/
def notN : Nat → Nat → Res Cd
  | 0, p => if isP T e [wNot] p then .error (2, (nxt T e p).f1) else if (nxt T e p).f0 = 3 then .error (2, (nxt T e p).f1) else atomP T e p
  | n + 1, p => if isP T e [wNot] p then wrapNot (notN n (p + 1)) else if (nxt T e p).f0 = 3 then closeP T e (orP T e (notN n) (p + 1)) else atomP T e p
end
end Go.Proofs.YtngedmioeodmfaaDoor.Ps
namespace Go.Proofs.YtngedmioeodmfaaDoor.Ps
open Go.RowKit Go.Proofs.YtngedmioeodmfaaDoor.Pr
set_option linter.unusedVariables false
set_option linter.unusedSimpArgs false
abbrev Sh := S44
abbrev Rl := S51
def wCsp : ByteArray := ⟨#[99, 115, 112]⟩
def wShare : ByteArray := ⟨#[115, 104, 97, 114, 101]⟩
def wMixed : ByteArray := ⟨#[109, 105, 120, 101, 100]⟩
def wDefault : ByteArray := ⟨#[100, 101, 102, 97, 117, 108, 116]⟩
def wAllow : ByteArray := ⟨#[97, 108, 108, 111, 119]⟩
def wDeny : ByteArray := ⟨#[100, 101, 110, 121]⟩
def wBlock : ByteArray := ⟨#[98, 108, 111, 99, 107]⟩
def wUpgrade : ByteArray := ⟨#[117, 112, 103, 114, 97, 100, 101]⟩
def wIf : ByteArray := ⟨#[105, 102]⟩
/-- A policy and what the reader keeps beside it: the items, and how often mixed and default were met. -/
structure Pst where
  csp : List ByteArray
  shares : List Sh
  mixed : ByteArray
  rules : List Rl
  allow : Bool
  items : Nat
  metM : Nat
  metD : Nat
def pst0 : Pst := ⟨[], [], wBlock, [], false, 0, 0, 0⟩
section
variable (T : List Tk) (e : Int)
def shareL : Nat → Sh → Nat → Res Sh
  | 0, s, p => .ok (s, p)
  | f + 1, s, p => if isP T e [wMethod, wHeader, wCreds] p then (match takeP T e 1 p with
    | .error x => .error x
    | .ok (w, q) => if w = wMethod then (match takeP T e 1 q with
        | .error x => .error x
        | .ok (t, r) => shareL f ⟨s.f0, s.f1 ++ [t], s.f2, s.f3⟩ r)
      else if w = wHeader then (match takeP T e 1 q with
        | .error x => .error x
        | .ok (t, r) => shareL f ⟨s.f0, s.f1, s.f2 ++ [t], s.f3⟩ r)
      else shareL f ⟨s.f0, s.f1, s.f2, true⟩ q) else .ok (s, p)
def shareP (p : Nat) : Res Sh :=
  match takeP T e 2 p with
  | .error x => .error x
  | .ok (o, q) => shareL T e (T.length + 1 - q) ⟨o, [], [], false⟩ q
/-- What an item's word asks for. -/
def itemK (s : Pst) (w : ByteArray) (q : Nat) : Res Pst :=
  if w = wCsp then (match takeP T e 2 q with
    | .error x => .error x
    | .ok (t, r) => .ok ({ s with csp := s.csp ++ [t] }, r))
  else if w = wShare then (match shareP T e q with
    | .error x => .error x
    | .ok (h, r) => .ok ({ s with shares := s.shares ++ [h] }, r))
  else if w = wMixed then (match wordP T e [wBlock, wUpgrade, wAllow] q with
    | .error x => .error x
    | .ok (t, r) => .ok ({ s with mixed := t }, r))
  else if w = wDefault then (match wordP T e [wAllow, wDeny] q with
    | .error x => .error x
    | .ok (t, r) => .ok ({ s with allow := decide (t = wAllow) }, r))
  else match wordP T e [wIf] q with
    | .error x => .error x
    | .ok (_, r) => match orP T e (notN T e 30) r with
      | .error x => .error x
      | .ok (c, r2) => .ok ({ s with rules := s.rules ++ [⟨decide (w = wAllow), c⟩] }, r2)
/-- The item that the words mixed and default may name once. -/
def onceP (s : Pst) (p : Nat) : Except (Int × Int) Pst :=
  if isP T e [wMixed, wDefault] p then
    (if (nxt T e p).f2 = wMixed then (if s.metM + 1 > 1 then .error (10, (nxt T e p).f1) else .ok { s with metM := s.metM + 1 })
      else if s.metD + 1 > 1 then .error (10, (nxt T e p).f1) else .ok { s with metD := s.metD + 1 })
  else .ok s
def itemP (s : Pst) (p : Nat) : Res Pst :=
  if isP T e [wCsp, wShare, wMixed, wDefault, wAllow, wDeny] p then (match onceP T e s p with
    | .error x => .error x
    | .ok s1 => if s1.items + 1 > 60 then .error (2, (nxt T e p).f1) else (match takeP T e 1 p with
      | .error x => .error x
      | .ok (w, q) => itemK T e { s1 with items := s1.items + 1 } w q)) else .error (8, (nxt T e p).f1)
def itemsP : Nat → Pst → Nat → Except (Int × Int) Pst
  | 0, s, p => .ok s
  | f + 1, s, p => if p < T.length then (match itemP T e s p with
    | .error x => .error x
    | .ok (s1, q) => match takeP T e 5 q with
      | .error x => .error x
      | .ok (_, r) => itemsP f s1 r) else .ok s
def polP : Except (Int × Int) Pst := itemsP T e (T.length + 1) pst0 0
end
end Go.Proofs.YtngedmioeodmfaaDoor.Ps
namespace Go.Proofs.YtngedmioeodmfaaDoor.Pu
open Go.RowKit Go.Proofs.YtngedmioeodmfaaDoor.Pr Go.Proofs.YtngedmioeodmfaaDoorW.PrintWords
theorem w64 {n : Int} (h0 : -9223372036854775808 ≤ n) (h1 : n ≤ 9223372036854775807) : wrap64 n = n := by
  unfold wrap64; omega
theorem bytesOf_range (s : ByteArray) : ∀ x ∈ bytesOf s, 0 ≤ x ∧ x ≤ 255 := by
  intro x hx
  unfold bytesOf at hx
  obtain ⟨b, _, rfl⟩ := List.mem_map.1 hx
  have := UInt8.toNat_lt b
  omega
theorem bytesOf_str (xs : List Int) (h : ∀ x ∈ xs, 0 ≤ x ∧ x ≤ 255) : bytesOf (strOfNums xs) = xs := by
  unfold bytesOf
  rw [strOfNums_data, List.map_map]
  conv => rhs; rw [← List.map_id xs]
  apply List.map_congr_left
  intro x hx
  have := h x hx
  simp [Function.comp]
  omega
theorem bt_drop (s : ByteArray) (i : Nat) (h : i < s.size) : (bytesOf s).drop i = bt s (i : Int) :: (bytesOf s).drop (i + 1) := by
  have hl : i < (bytesOf s).length := by rw [bytesOf_length]; exact h
  rw [List.drop_eq_getElem_cons hl]
  congr 1
  rw [← rd_bytesOf, rd, Int.toNat_natCast, List.getD_eq_getElem?_getD, List.getElem?_eq_getElem hl]
  rfl
theorem bytesOf_inj {s t : ByteArray} (h : bytesOf s = bytesOf t) : s = t := by
  have h2 : s.data.toList = t.data.toList := by
    unfold bytesOf at h
    refine (List.map_inj_right ?_).1 h
    intro a b hab
    exact UInt8.toNat_inj.1 (by omega)
  cases s with | mk a => cases t with | mk b => exact congrArg ByteArray.mk (Array.ext' h2)
theorem str_bytesOf (s : ByteArray) : strOfNums (bytesOf s) = s := by
  apply bytesOf_inj
  exact bytesOf_str _ (bytesOf_range s)
/-- What is some r at each number of rounds. -/
theorem Ev.const {α : Type} {g : Nat → Option α} {r : α} (h : ∀ k, g k = some r) : Ev g r := ⟨0, fun k _ => h k⟩
/-- Rounds behind one another: the fixed answer first. -/
theorem Ev.some_bind {α β : Type} {o : Option α} {f : Nat → α → Option β} {a : α} {r : β} (h : o = some a) (k : Ev (fun n => f n a) r) : Ev (fun n => o.bind (f n)) r := by
  subst h; exact k
end Go.Proofs.YtngedmioeodmfaaDoor.Pu
namespace Go.Proofs.YtngedmioeodmfaaDoorW.PrintWords
theorem Ev.eq {α : Type} {g : Nat → Option α} {r q : α} (h : Ev g r) (e : r = q) : Ev g q := e ▸ h
end Go.Proofs.YtngedmioeodmfaaDoorW.PrintWords
namespace Go.Proofs.YtngedmioeodmfaaDoor.Pu
open Go.RowKit Go.Proofs.YtngedmioeodmfaaDoor.Pr Go.Proofs.YtngedmioeodmfaaDoorW.PrintWords Go.Proofs.YtngedmioeodmfaaDoor.Lx
set_option linter.unusedVariables false
set_option linter.unusedSimpArgs false
/-- Where the machine stands: between tokens, in a note, in a word, in a string, behind a stroke in a string. -/
inductive St where
  | sk : St
  | nt : St
  | wd (a : Nat) (acc : List Int) : St
  | qt (a : Nat) (acc : List Int) : St
  | es (a : Nat) (p : Nat) (acc : List Int) : St
inductive Out where
  | bad (j : Nat) : Out
  | good (ts : List Tk) : Out
inductive One where
  | bad (j : Nat) : One
  | go (st : St) (ts : List Tk) : One
def fin (n : Nat) : St → List Tk → Out
  | .sk, ts => .good ts
  | .nt, ts => .good ts
  | .wd a acc, ts => .good (ts ++ [⟨1, a, strOfNums acc⟩])
  | .qt _ _, _ => .bad n
  | .es _ _ _, _ => .bad n
def st1 (i : Nat) (c : Int) (ts : List Tk) : One :=
  if pBlank c = true then .go .sk ts
  else if c = 35 then .go .nt ts
  else if pLetter c = true then .go (.wd i [c]) ts
  else if c = 34 then .go (.qt i []) ts
  else if c = 40 ∨ c = 41 ∨ c = 59 then .go .sk (ts ++ [⟨opIdx c, i, strOfNums [c]⟩])
  else .bad i
def step (i : Nat) (c : Int) : St → List Tk → One
  | .sk, ts => st1 i c ts
  | .nt, ts => if c = 10 then .go .sk ts else .go .nt ts
  | .wd a acc, ts => if pWord c = true then .go (.wd a (acc ++ [c])) ts else st1 i c (ts ++ [⟨1, a, strOfNums acc⟩])
  | .qt a acc, ts => if c = 34 then .go .sk (ts ++ [⟨2, a, strOfNums acc⟩]) else if c = 10 then .bad i else if c = 92 then .go (.es a i acc) ts else .go (.qt a (acc ++ [c])) ts
  | .es a p acc, ts => if c = 34 ∨ c = 92 then .go (.qt a (acc ++ [c])) ts else .bad p
def sm : Nat → St → List Tk → List Int → Out
  | i, st, ts, [] => fin i st ts
  | i, st, ts, c :: l => match step i c st ts with
    | .bad j => .bad j
    | .go st' ts' => sm (i + 1) st' ts' l
def cast : List Tk × Option Nat → Out
  | (ts, none) => .good ts
  | (_, some j) => .bad j
def dr (s : ByteArray) (i : Nat) : List Int := (bytesOf s).drop i
theorem dr_cons (s : ByteArray) (i : Nat) (h : i < s.size) : dr s i = bt s (i : Int) :: dr s (i + 1) := bt_drop s i h
theorem dr_nil (s : ByteArray) (i : Nat) (h : ¬ i < s.size) : dr s i = [] := List.drop_eq_nil_of_le (by rw [bytesOf_length]; omega)
theorem sm_go (s : ByteArray) (i : Nat) (h : i < s.size) (st : St) (ts : List Tk) (st' : St) (ts' : List Tk) (e : step i (bt s (i : Int)) st ts = .go st' ts') : sm i st ts (dr s i) = sm (i + 1) st' ts' (dr s (i + 1)) := by
  rw [dr_cons s i h, sm, e]
theorem sm_bad (s : ByteArray) (i : Nat) (h : i < s.size) (st : St) (ts : List Tk) (j : Nat) (e : step i (bt s (i : Int)) st ts = .bad j) : sm i st ts (dr s i) = .bad j := by
  rw [dr_cons s i h, sm, e]
/-- A row passed over, state by state. -/
theorem sm_row (s : ByteArray) (p : Int → Bool) (st : St) (hst : ∀ i c ts, p c = true → step i c st ts = .go st ts) : ∀ d i ts, sm i st ts (dr s i) = sm (rowEnd s p d i) st ts (dr s (rowEnd s p d i)) := by
  intro d
  induction d with
  | zero => intro i ts; rfl
  | succ d ih =>
    intro i ts
    rw [rowEnd]
    by_cases q : i < s.size ∧ p (bt s i) = true
    · rw [if_pos q, ← ih (i + 1) ts]
      exact sm_go s i q.1 _ _ _ _ (hst _ _ _ q.2)
    · rw [if_neg q]
theorem sm_blanks (s : ByteArray) (i : Nat) (ts : List Tk) : sm i .sk ts (dr s i) = sm (bEnd s i) .sk ts (dr s (bEnd s i)) := by
  refine sm_row s pBlank .sk ?_ _ i ts
  intro i c ts h
  simp only [step, st1, h, if_true]
theorem rowEnd_not (s : ByteArray) (p : Int → Bool) : ∀ d i, s.size - i ≤ d → ¬ (rowEnd s p d i < s.size ∧ p (bt s (rowEnd s p d i)) = true) := by
  intro d
  induction d with
  | zero => intro i h; rw [rowEnd]; omega
  | succ d ih =>
    intro i h
    rw [rowEnd]
    split
    · exact ih (i + 1) (by omega)
    · rename_i q; exact q
theorem nt_all : ∀ c : Fin 256, pNN (c.val : Int) = true ∨ (c.val : Int) = 10 := by decide +kernel
theorem bt_fin (s : ByteArray) (i : Int) : ∃ q : Fin 256, (q.val : Int) = bt s i := by
  have hr := bt_range s i
  exact ⟨⟨(bt s i).toNat, by omega⟩, by simp; omega⟩
theorem sm_notes (s : ByteArray) (i : Nat) (h : i < s.size) (hc : bt s (i : Int) = 35) (ts : List Tk) : sm i .sk ts (dr s i) = sm (nEnd s i) .sk ts (dr s (nEnd s i)) := by
  have e1 : sm i .sk ts (dr s i) = sm (i + 1) .nt ts (dr s (i + 1)) := sm_go s i h _ _ _ _ (by simp only [step, st1, hc]; rfl)
  have e2 : nEnd s i = rowEnd s pNN (s.size - (i + 1)) (i + 1) := rowEnd_go s pNN i h (by rw [hc]; rfl)
  rw [e1, e2, sm_row s pNN .nt ?_ (s.size - (i + 1)) (i + 1) ts]
  · have hn := rowEnd_not s pNN (s.size - (i + 1)) (i + 1) (Nat.le_refl _)
    generalize rowEnd s pNN (s.size - (i + 1)) (i + 1) = r at hn ⊢
    by_cases q : r < s.size
    · obtain ⟨c, hc2⟩ := bt_fin s (r : Int)
      have h10 : bt s (r : Int) = 10 := by
        rcases nt_all c with h | h
        · exact absurd ⟨q, by rw [← hc2]; exact h⟩ hn
        · rw [← hc2]; exact h
      rw [sm_go s r q .nt ts .sk ts (by simp only [step, h10, if_true]), sm_go s r q .sk ts .sk ts (by simp only [step, st1, h10]; rfl)]
    · rw [dr_nil s r q]; rfl
  · intro i c ts h
    simp only [step]
    rw [if_neg]
    intro e; rw [e] at h; cases h
theorem sm_btw2 (s : ByteArray) : ∀ d i ts, sm i .sk ts (dr s i) = sm (btw2 s d i) .sk ts (dr s (btw2 s d i)) := by
  intro d
  induction d with
  | zero => intro i ts; rfl
  | succ d ih =>
    intro i ts
    rw [btw2]
    split
    · rename_i q
      rw [sm_notes s i q.1 q.2, sm_blanks, ih]
    · rfl
theorem sm_btw (s : ByteArray) (i : Nat) (ts : List Tk) : sm i .sk ts (dr s i) = sm (btw s i) .sk ts (dr s (btw s i)) := by
  rw [sm_blanks]
  exact sm_btw2 s _ _ ts
theorem btw2_not (s : ByteArray) : ∀ d i, i ≤ s.size → s.size - i ≤ d → ¬ (i < s.size ∧ pBlank (bt s i) = true) → btw2 s d i < s.size → pBlank (bt s (btw2 s d i)) = false ∧ bt s (btw2 s d i) ≠ 35 := by
  intro d
  induction d with
  | zero => intro i hi h _ hl; rw [btw2] at hl; omega
  | succ d ih =>
    intro i hi h hb
    rw [btw2]
    split
    · rename_i q
      have h1 := nEnd_lt s i q.1 q.2
      have h2 := nEnd_le s i hi
      have h3 := bEnd_le s (nEnd s i) h2.2
      exact ih (bEnd s (nEnd s i)) h3.2 (by omega) (rowEnd_not s pBlank _ _ (Nat.le_refl _))
    · rename_i q
      intro hl
      constructor
      · cases hx : pBlank (bt s i) with
        | true => exact absurd ⟨hl, hx⟩ hb
        | false => rfl
      · intro e; exact q ⟨hl, e⟩
theorem btw_not (s : ByteArray) (i : Nat) (hi : i ≤ s.size) (h : btw s i < s.size) : pBlank (bt s (btw s i)) = false ∧ bt s (btw s i) ≠ 35 :=
  btw2_not s _ _ (bEnd_le s i hi).2 (Nat.le_refl _) (rowEnd_not s pBlank _ _ (Nat.le_refl _)) h
theorem strOfNums_inj_bytes (s : ByteArray) (xs : List Int) (h : bytesOf s = xs) : strOfNums xs = s := by rw [← h]; exact str_bytesOf s
theorem bytesOf_ext (s : ByteArray) (i j : Nat) : bytesOf (s.extract i j) = ((bytesOf s).take j).drop i := by
  unfold bytesOf
  rw [ByteArray.data_extract, Array.toList_extract, List.extract_eq_take_drop, List.map_take, List.map_drop, List.drop_take]
theorem sm_word (s : ByteArray) (a : Nat) : ∀ d i acc ts, sm i (.wd a acc) ts (dr s i) = sm (rowEnd s pWord d i) (.wd a (acc ++ ((bytesOf s).take (rowEnd s pWord d i)).drop i)) ts (dr s (rowEnd s pWord d i)) := by
  intro d
  induction d with
  | zero =>
    intro i acc ts
    rw [rowEnd, List.drop_eq_nil_of_le (by rw [List.length_take]; omega), List.append_nil]
  | succ d ih =>
    intro i acc ts
    rw [rowEnd]
    by_cases q : i < s.size ∧ pWord (bt s i) = true
    · rw [if_pos q]
      rw [sm_go s i q.1 _ _ (.wd a (acc ++ [bt s (i : Int)])) ts (by simp only [step, q.2, if_true])]
      rw [ih (i + 1)]
      have hr : i + 1 ≤ rowEnd s pWord d (i + 1) := by
        have := rowEnd_le s pWord d (i + 1) (by omega); omega
      congr 2
      generalize rowEnd s pWord d (i + 1) = r at hr ⊢
      rw [List.append_assoc]
      congr 1
      have hl : i < ((bytesOf s).take r).length := by rw [List.length_take, bytesOf_length]; omega
      rw [List.drop_eq_getElem_cons hl]
      congr 1
      rw [List.getElem_take, ← rd_bytesOf, rd, Int.toNat_natCast, List.getD_eq_getElem?_getD, List.getElem?_eq_getElem (by rw [bytesOf_length]; exact q.1)]
      rfl
    · rw [if_neg q, List.drop_eq_nil_of_le (by rw [List.length_take]; omega), List.append_nil]
theorem sm_tok_word (s : ByteArray) (i : Nat) (h : i < s.size) (hb : pBlank (bt s i) = false) (h35 : bt s (i : Int) ≠ 35) (hl : pLetter (bt s i) = true) (ts : List Tk) :
    sm i .sk ts (dr s i) = sm (wEnd s i) .sk (ts ++ [⟨1, i, s.extract i (wEnd s i)⟩]) (dr s (wEnd s i)) := by
  obtain ⟨c, hc⟩ := bt_fin s (i : Int)
  have hw : pWord (bt s (i : Int)) = true := by rw [← hc]; exact letter_word c (by rw [hc]; exact hl)
  have e : wEnd s i = rowEnd s pWord (s.size - (i + 1)) (i + 1) := rowEnd_go s pWord i h hw
  rw [sm_go s i h .sk ts (.wd i [bt s (i : Int)]) ts (by simp only [step, st1, hb, hl, if_true]; rw [if_neg h35]; rfl), sm_word s i (s.size - (i + 1)) (i + 1), ← e]
  have hle := wEnd_le s i (by omega)
  have hlt := wEnd_lt s i h hl
  have hst : strOfNums ([bt s (i : Int)] ++ ((bytesOf s).take (wEnd s i)).drop (i + 1)) = s.extract i (wEnd s i) := by
    apply strOfNums_inj_bytes
    rw [bytesOf_ext]
    have hl : i < ((bytesOf s).take (wEnd s i)).length := by rw [List.length_take, bytesOf_length]; omega
    rw [List.drop_eq_getElem_cons hl]
    show _ :: _ = _ :: _
    congr 1
    rw [List.getElem_take, ← rd_bytesOf, rd, Int.toNat_natCast, List.getD_eq_getElem?_getD, List.getElem?_eq_getElem (by rw [bytesOf_length]; exact h)]
    rfl
  have hn : ¬ (wEnd s i < s.size ∧ pWord (bt s (wEnd s i)) = true) := rowEnd_not s pWord _ _ (Nat.le_refl _)
  by_cases q : wEnd s i < s.size
  · have hn2 : pWord (bt s (wEnd s i)) = false := by
      cases hx : pWord (bt s (wEnd s i)) with
      | true => exact absurd ⟨q, hx⟩ hn
      | false => rfl
    rw [dr_cons s _ q, sm, sm]
    simp only [step, hn2, hst]
    rfl
  · rw [dr_nil s _ q, sm, sm]
    simp only [fin, hst]
theorem sm_quo (s : ByteArray) (a : Nat) (ts : List Tk) : ∀ d i out, i ≤ s.size → s.size - i ≤ d → sm i (.qt a out) ts (dr s i) =
    (match quo s d i out with
     | (o, j, true) => sm j .sk (ts ++ [⟨2, a, strOfNums o⟩]) (dr s j)
     | (_, j, false) => .bad j) := by
  intro d
  induction d using Nat.strongRecOn with
  | _ d ih =>
    intro i out hi hd
    cases d with
    | zero => rw [dr_nil s i (by omega), quo]; rfl
    | succ d =>
      rw [quo]
      by_cases q : i < s.size
      · rw [if_pos q]
        by_cases h34 : bt s (i : Int) = 34
        · rw [if_pos h34]
          exact sm_go s i q _ _ _ _ (by simp only [step, h34, if_true])
        · rw [if_neg h34]
          by_cases h10 : bt s (i : Int) = 10
          · rw [if_pos h10]
            exact sm_bad s i q _ _ _ (by simp only [step]; rw [if_neg h34, if_pos h10])
          · rw [if_neg h10]
            by_cases h92 : bt s (i : Int) = 92
            · rw [if_pos h92]
              rw [sm_go s i q _ _ (.es a i out) ts (by simp only [step]; rw [if_neg h34, if_neg h10, if_pos h92])]
              by_cases he : i + 1 = s.size
              · rw [if_pos he, dr_nil s (i + 1) (by omega)]; rfl
              · rw [if_neg he]
                have q2 : i + 1 < s.size := by omega
                by_cases hq : bt s ((i + 1 : Nat) : Int) = 34 ∨ bt s ((i + 1 : Nat) : Int) = 92
                · rw [if_pos hq, sm_go s (i + 1) q2 _ _ (.qt a (out ++ [bt s ((i + 1 : Nat) : Int)])) ts (by simp only [step]; rw [if_pos hq])]
                  exact ih d (by omega) (i + 2) _ (by omega) (by omega)
                · rw [if_neg hq]
                  exact sm_bad s (i + 1) q2 _ _ _ (by simp only [step]; rw [if_neg hq])
            · rw [if_neg h92, sm_go s i q _ _ (.qt a (out ++ [bt s (i : Int)])) ts (by simp only [step]; rw [if_neg h34, if_neg h10, if_neg h92])]
              exact ih d (by omega) (i + 1) _ (by omega) (by omega)
      · rw [if_neg q, dr_nil s i q]
        have : i = s.size := by omega
        rfl
theorem sm_run (s : ByteArray) : ∀ d i ts, s.size - i ≤ d → i ≤ s.size → (i < s.size → pBlank (bt s i) = false ∧ bt s (i : Int) ≠ 35) → cast (runF s d i ts) = sm i .sk ts (dr s i) := by
  intro d
  induction d with
  | zero => intro i ts h hi _; rw [runF, dr_nil s i (by omega)]; rfl
  | succ d ih =>
    intro i ts h hi hb
    rw [runF]
    by_cases q : i < s.size
    · rw [if_pos q]
      obtain ⟨hb1, hb2⟩ := hb q
      have go : ∀ t j, tokE s i = some (t, j, true) → cast (runF s d (btw s j) (ts ++ [t])) = sm j .sk (ts ++ [t]) (dr s j) := by
        intro t j e
        have hj := tokE_ge s i q e
        have hbl := btw_le s j hj.2
        rw [sm_btw s j]
        exact ih (btw s j) _ (by omega) hbl.2 (btw_not s j hj.2)
      cases e : tokE s i with
      | none =>
        simp only
        unfold tokE at e
        split at e
        · cases e
        · rename_i n1
          split at e
          · cases e
          · rename_i n2
            split at e
            · cases e
            · rename_i n3
              refine (sm_bad s i q _ _ _ ?_).symm
              simp only [step, st1]
              rw [hb1, if_neg (by simp), if_neg hb2, if_neg n1, if_neg n2, if_neg n3]
      | some x =>
        obtain ⟨t, j, ok⟩ := x
        have e0 := e
        unfold tokE at e
        split at e
        · rename_i hl
          simp only [Option.some.injEq, Prod.mk.injEq] at e
          obtain ⟨rfl, rfl, rfl⟩ := e
          simp only
          rw [go _ _ e0, sm_tok_word s i q hb1 hb2 hl]
        · rename_i n1
          split at e
          · rename_i h34
            simp only [Option.some.injEq, Prod.mk.injEq] at e
            obtain ⟨rfl, rfl, rfl⟩ := e
            have e1 : sm i .sk ts (dr s i) = sm (i + 1) (.qt i []) ts (dr s (i + 1)) := sm_go s i q _ _ _ _ (by simp only [step, st1]; rw [hb1, if_neg (by simp), if_neg hb2, if_neg n1, if_pos h34])
            rw [e1, sm_quo s i ts (s.size - (i + 1)) (i + 1) [] (by omega) (Nat.le_refl _)]
            have hqe : quo s (s.size - (i + 1)) (i + 1) [] = quoE s (i + 1) [] := rfl
            rw [hqe]
            obtain ⟨o, j, b, hq⟩ : ∃ o j b, quoE s (i + 1) [] = (o, j, b) := ⟨_, _, _, rfl⟩
            rw [hq] at e0 ⊢
            cases b with
            | true => simp only; rw [go _ _ e0]
            | false => rfl
          · rename_i n2
            split at e
            · rename_i h3
              simp only [Option.some.injEq, Prod.mk.injEq] at e
              obtain ⟨rfl, rfl, rfl⟩ := e
              simp only
              rw [go _ _ e0]
              have hx : s.extract i (i + 1) = strOfNums [bt s (i : Int)] := by
                refine (strOfNums_inj_bytes _ _ ?_).symm
                rw [bytesOf_ext]
                have hl : i < ((bytesOf s).take (i + 1)).length := by rw [List.length_take, bytesOf_length]; omega
                rw [List.drop_eq_getElem_cons hl, List.drop_eq_nil_of_le (by rw [List.length_take]; omega)]
                congr 1
                rw [List.getElem_take, ← rd_bytesOf, rd, Int.toNat_natCast, List.getD_eq_getElem?_getD, List.getElem?_eq_getElem (by rw [bytesOf_length]; exact q)]
                rfl
              rw [hx]
              exact (sm_go s i q _ _ _ _ (by simp only [step, st1]; rw [hb1, if_neg (by simp), if_neg hb2, if_neg n1, if_neg n2, if_pos h3])).symm
            · cases e
    · rw [if_neg q, dr_nil s i q]; rfl
/-- The scanner's run from the text's beginning is the machine's. -/
theorem run_sm (s : ByteArray) : cast (run s (btw s 0) []) = sm 0 .sk [] (bytesOf s) := by
  have h := btw_le s 0 (Nat.zero_le _)
  have := sm_run s (s.size - btw s 0) (btw s 0) [] (Nat.le_refl _) h.2 (btw_not s 0 (Nat.zero_le _))
  rw [← sm_btw s 0] at this
  exact this
theorem sm_bad_le (s : ByteArray) : ∀ d i st ts j, s.size - i ≤ d → i ≤ s.size → (∀ a p acc, st = .es a p acc → p ≤ s.size) → sm i st ts (dr s i) = .bad j → j ≤ s.size := by
  intro d
  induction d with
  | zero =>
    intro i st ts j h hi he e
    rw [dr_nil s i (by omega), sm] at e
    cases st <;> simp [fin] at e <;> omega
  | succ d ih =>
    intro i st ts j h hi he e
    by_cases q : i < s.size
    · rw [dr_cons s i q, sm] at e
      cases hs : step i (bt s (i : Int)) st ts with
      | bad j' =>
        rw [hs] at e
        simp only [Out.bad.injEq] at e
        subst e
        cases st with
        | sk => simp only [step, st1] at hs; repeat' split at hs
                all_goals simp at hs; try omega
        | nt => simp only [step] at hs; split at hs <;> simp at hs
        | wd a acc => simp only [step, st1] at hs; repeat' split at hs
                      all_goals simp at hs; try omega
        | qt a acc => simp only [step] at hs; repeat' split at hs
                      all_goals simp at hs; try omega
        | es a p acc => simp only [step] at hs; repeat' split at hs
                        all_goals simp at hs; try (have := he a p acc rfl; omega)
      | go st' ts' =>
        rw [hs] at e
        have hes : ∀ a p acc, st' = .es a p acc → p ≤ s.size := by
          intro a p acc e2
          subst e2
          cases st with
          | sk => simp only [step, st1] at hs; repeat' split at hs
                  all_goals simp at hs
          | nt => simp only [step] at hs; split at hs <;> simp at hs
          | wd a acc => simp only [step, st1] at hs; repeat' split at hs
                        all_goals simp at hs
          | qt a acc => simp only [step] at hs; repeat' split at hs
                        all_goals simp at hs; try omega
          | es a p acc => simp only [step] at hs; repeat' split at hs
                          all_goals simp at hs
        exact ih (i + 1) st' ts' j (by omega) (by omega) hes e
    · rw [dr_nil s i q, sm] at e
      cases st <;> simp [fin] at e <;> omega
/-- What Tokens hands back, by the machine. -/
theorem tokRes_sm (s : ByteArray) (bad : Int) : tokRes s bad = (match sm 0 .sk [] (bytesOf s) with
    | .bad j => ([], 8, min bad (j : Int))
    | .good ts => if bad ≤ (s.size : Int) then ([], 8, bad) else (ts, 0, 0)) := by
  have h := run_sm s
  unfold tokRes
  obtain ⟨ts, o, hr⟩ : ∃ ts o, run s (btw s 0) [] = (ts, o) := ⟨_, _, rfl⟩
  rw [hr] at h
  cases o with
  | none => rw [← h, hr]; rfl
  | some j =>
    rw [← h, hr]
    have hj : j ≤ s.size := sm_bad_le s s.size 0 .sk [] j (by omega) (by omega) (fun _ _ _ e => by cases e) (by rw [← show bytesOf s = dr s 0 from rfl] ; exact h.symm)
    simp only [cast]
    rw [if_pos (by omega)]
end Go.Proofs.YtngedmioeodmfaaDoor.Pu
namespace Go.Proofs.YtngedmioeodmfaaDoor.Pr
open Go.RowKit Go.Proofs.YtngedmioeodmfaaDoorW.PrintWords Go.Proofs.YtngedmioeodmfaaDoorW.PrintLast Go.Proofs.YtngedmioeodmfaaDoorW.PrintMore
attribute [local go_sem] max2_int min2_int max_two min_two max_three min_three max_four min_four   -- for this text's walks alone
set_option linter.unusedVariables false
set_option linter.unusedSimpArgs false
end Go.Proofs.YtngedmioeodmfaaDoor.Pr
namespace Go.Proofs.YtngedmioeodmfaaDoor.Pu
open Go.RowKit Go.Proofs.YtngedmioeodmfaaDoor.Pr Go.Proofs.YtngedmioeodmfaaDoorW.PrintWords
set_option linter.unusedVariables false
set_option linter.unusedSimpArgs false
/-- How many bytes the rune has that begins b0 b1 b2 b3, of n bytes; 0: it is none. -/
def runeLen (n b0 b1 b2 b3 : Int) : Int :=
  if b0 < 128 then 1
  else if b0 < 194 then 0
  else if b0 < 224 then (if 2 ≤ n ∧ 128 ≤ b1 ∧ b1 < 192 then 2 else 0)
  else if b0 < 240 then (if 3 ≤ n ∧ 128 ≤ b1 ∧ b1 < 192 ∧ 128 ≤ b2 ∧ b2 < 192 ∧ 2048 ≤ (b0 % 16 * 64 + b1 % 64) * 64 + b2 % 64 ∧ ¬ (55296 ≤ (b0 % 16 * 64 + b1 % 64) * 64 + b2 % 64 ∧ (b0 % 16 * 64 + b1 % 64) * 64 + b2 % 64 ≤ 57343) then 3 else 0)
  else if b0 < 245 then (if 4 ≤ n ∧ 128 ≤ b1 ∧ b1 < 192 ∧ 128 ≤ b2 ∧ b2 < 192 ∧ 128 ≤ b3 ∧ b3 < 192 ∧ 65536 ≤ ((b0 % 8 * 64 + b1 % 64) * 64 + b2 % 64) * 64 + b3 % 64 ∧ ((b0 % 8 * 64 + b1 % 64) * 64 + b2 % 64) * 64 + b3 % 64 ≤ 1114111 then 4 else 0)
  else 0
/-- How many bytes the rune has by the library's decoder; 0: it is none. -/
def runeD (l : List UInt8) : Nat := if (Go.Lib.decodeL l).1 = 65533 ∧ (Go.Lib.decodeL l).2 = 1 then 0 else (Go.Lib.decodeL l).2
theorem runeN (n b0 b1 b2 b3 : Nat) (h1 : b1 < 256) (h2 : b2 < 256) (h3 : b3 < 256) (h0 : b0 < 256) (hn : 0 < n) :
    ((if (Go.Lib.decodeN n b0 b1 b2 b3).1 = 65533 ∧ (Go.Lib.decodeN n b0 b1 b2 b3).2 = 1 then 0 else (Go.Lib.decodeN n b0 b1 b2 b3).2 : Nat) : Int) = runeLen n b0 b1 b2 b3 := by
  unfold runeLen
  by_cases a1 : b0 < 128
  · have e : Go.Lib.decodeN n b0 b1 b2 b3 = (b0, 1) := by unfold Go.Lib.decodeN; rw [if_pos a1]
    rw [e, if_neg (by simp only; omega), if_pos (by omega)]; rfl
  rw [if_neg (show ¬ (b0 : Int) < 128 by omega)]
  by_cases a2 : b0 < 194
  · have e : Go.Lib.decodeN n b0 b1 b2 b3 = (65533, 1) := by
      unfold Go.Lib.decodeN
      rw [if_neg a1]
      by_cases q : b0 / 32 = 6 ∧ (1 < n ∧ b1 / 64 = 2)
      · rw [if_pos q, if_neg (by omega)]
      · rw [if_neg q, if_neg (by omega), if_neg (by omega)]
    rw [e, if_pos ⟨rfl, rfl⟩, if_pos (by omega)]; rfl
  rw [if_neg (show ¬ (b0 : Int) < 194 by omega)]
  by_cases a3 : b0 < 224
  · rw [if_pos (show (b0 : Int) < 224 by omega)]
    by_cases q : 2 ≤ n ∧ 128 ≤ b1 ∧ b1 < 192
    · have e : Go.Lib.decodeN n b0 b1 b2 b3 = (b0 % 32 * 64 + b1 % 64, 2) := by
        unfold Go.Lib.decodeN; rw [if_neg a1, if_pos (by omega), if_pos (by omega)]
      rw [e, if_neg (by simp), if_pos (by omega)]; rfl
    · have e : Go.Lib.decodeN n b0 b1 b2 b3 = (65533, 1) := by
        unfold Go.Lib.decodeN; rw [if_neg a1, if_neg (by omega), if_neg (by omega), if_neg (by omega)]
      rw [e, if_pos ⟨rfl, rfl⟩, if_neg (by omega)]; rfl
  rw [if_neg (show ¬ (b0 : Int) < 224 by omega)]
  by_cases a4 : b0 < 240
  · rw [if_pos (show (b0 : Int) < 240 by omega)]
    by_cases q : 3 ≤ n ∧ 128 ≤ b1 ∧ b1 < 192 ∧ 128 ≤ b2 ∧ b2 < 192
    · by_cases q2 : 2048 ≤ b0 % 16 * 4096 + b1 % 64 * 64 + b2 % 64 ∧ ¬ (55296 ≤ b0 % 16 * 4096 + b1 % 64 * 64 + b2 % 64 ∧ b0 % 16 * 4096 + b1 % 64 * 64 + b2 % 64 ≤ 57343)
      · have e : Go.Lib.decodeN n b0 b1 b2 b3 = (b0 % 16 * 4096 + b1 % 64 * 64 + b2 % 64, 3) := by
          unfold Go.Lib.decodeN; rw [if_neg a1, if_neg (by omega), if_pos (by omega), if_pos (by omega)]
        rw [e, if_neg (by simp), if_pos (by omega)]; rfl
      · have e : Go.Lib.decodeN n b0 b1 b2 b3 = (65533, 1) := by
          unfold Go.Lib.decodeN; rw [if_neg a1, if_neg (by omega), if_pos (by omega), if_neg (by omega)]
        rw [e, if_pos ⟨rfl, rfl⟩, if_neg (by omega)]; rfl
    · have e : Go.Lib.decodeN n b0 b1 b2 b3 = (65533, 1) := by
        unfold Go.Lib.decodeN; rw [if_neg a1, if_neg (by omega), if_neg (by omega), if_neg (by omega)]
      rw [e, if_pos ⟨rfl, rfl⟩, if_neg (by omega)]; rfl
  rw [if_neg (show ¬ (b0 : Int) < 240 by omega)]
  by_cases a5 : b0 < 245
  · rw [if_pos (show (b0 : Int) < 245 by omega)]
    by_cases q : 4 ≤ n ∧ 128 ≤ b1 ∧ b1 < 192 ∧ 128 ≤ b2 ∧ b2 < 192 ∧ 128 ≤ b3 ∧ b3 < 192
    · by_cases q2 : 65536 ≤ b0 % 8 * 262144 + b1 % 64 * 4096 + b2 % 64 * 64 + b3 % 64 ∧ b0 % 8 * 262144 + b1 % 64 * 4096 + b2 % 64 * 64 + b3 % 64 ≤ 1114111
      · have e : Go.Lib.decodeN n b0 b1 b2 b3 = (b0 % 8 * 262144 + b1 % 64 * 4096 + b2 % 64 * 64 + b3 % 64, 4) := by
          unfold Go.Lib.decodeN; rw [if_neg a1, if_neg (by omega), if_neg (by omega), if_pos (by omega), if_pos (by omega)]
        rw [e, if_neg (by simp), if_pos (by omega)]; rfl
      · have e : Go.Lib.decodeN n b0 b1 b2 b3 = (65533, 1) := by
          unfold Go.Lib.decodeN; rw [if_neg a1, if_neg (by omega), if_neg (by omega), if_pos (by omega), if_neg (by omega)]
        rw [e, if_pos ⟨rfl, rfl⟩, if_neg (by omega)]; rfl
    · have e : Go.Lib.decodeN n b0 b1 b2 b3 = (65533, 1) := by
        unfold Go.Lib.decodeN; rw [if_neg a1, if_neg (by omega), if_neg (by omega), if_neg (by omega)]
      rw [e, if_pos ⟨rfl, rfl⟩, if_neg (by omega)]; rfl
  · rw [if_neg (show ¬ (b0 : Int) < 245 by omega)]
    have e : Go.Lib.decodeN n b0 b1 b2 b3 = (65533, 1) := by
      unfold Go.Lib.decodeN
      rw [if_neg a1, if_neg (by omega), if_neg (by omega)]
      by_cases q : b0 / 8 = 30 ∧ (1 < n ∧ b1 / 64 = 2) ∧ (2 < n ∧ b2 / 64 = 2) ∧ (3 < n ∧ b3 / 64 = 2)
      · rw [if_pos q, if_neg (by omega)]
      · rw [if_neg q]
    rw [e, if_pos ⟨rfl, rfl⟩]; rfl
theorem bt_getD (x : ByteArray) (j : Nat) : bt x (j : Int) = ((x.data.toList.getD j 0).toNat : Int) := by
  unfold bt
  rw [Int.toNat_natCast]
  by_cases h : j < x.size
  · have h2 : j < x.data.toList.length := by rw [data_length]; exact h
    rw [dif_pos h, List.getD_eq_getElem?_getD, List.getElem?_eq_getElem h2]; rfl
  · have h2 : ¬ j < x.data.toList.length := by rw [data_length]; exact h
    rw [dif_neg h, List.getD_eq_getElem?_getD, List.getElem?_eq_none (by omega)]; rfl
theorem runeD_eq (x : ByteArray) (h : 0 < x.size) : (runeD x.data.toList : Int) = runeLen x.size (bt x 0) (bt x 1) (bt x 2) (bt x 3) := by
  unfold runeD
  rw [Go.Lib.decodeL_N]
  have := runeN x.data.toList.length (x.data.toList.getD 0 0).toNat (x.data.toList.getD 1 0).toNat (x.data.toList.getD 2 0).toNat (x.data.toList.getD 3 0).toNat (UInt8.toNat_lt _) (UInt8.toNat_lt _) (UInt8.toNat_lt _) (UInt8.toNat_lt _) (by rw [data_length]; exact h)
  rw [this, data_length, ← bt_getD x 0, ← bt_getD x 1, ← bt_getD x 2, ← bt_getD x 3]; rfl
/-- How many bytes stand ahead of the first that is no UTF-8. -/
def brk : Nat → List UInt8 → Nat
  | 0, _ => 0
  | n + 1, l => if l = [] then 0 else if runeD l = 0 then 0 else runeD l + brk n (l.drop (runeD l))
def brkL (l : List UInt8) : Nat := brk l.length l
theorem runeD_le (l : List UInt8) (hne : l ≠ []) : runeD l ≤ l.length := by
  unfold runeD; split
  · omega
  · exact Go.Lib.decodeL_le l hne
theorem brk_le : ∀ (n : Nat) (l : List UInt8), brk n l ≤ l.length := by
  intro n
  induction n with
  | zero => intro l; simp [brk]
  | succ n ih =>
    intro l
    rw [brk]
    split
    · omega
    · rename_i hne
      split
      · omega
      · have h1 := runeD_le l hne
        have h2 := ih (l.drop (runeD l))
        rw [List.length_drop] at h2
        omega
theorem brk_more : ∀ (n m : Nat) (l : List UInt8), l.length ≤ n → l.length ≤ m → brk n l = brk m l := by
  intro n
  induction n with
  | zero => intro m l h _; have : l = [] := List.length_eq_zero_iff.1 (by omega); subst this; cases m <;> simp [brk]
  | succ n ih =>
    intro m l h hm
    cases m with
    | zero => have : l = [] := List.length_eq_zero_iff.1 (by omega); subst this; simp [brk]
    | succ m =>
      rw [brk, brk]
      by_cases hne : l = []
      · rw [if_pos hne, if_pos hne]
      · rw [if_neg hne, if_neg hne]
        by_cases h0 : runeD l = 0
        · rw [if_pos h0, if_pos h0]
        · rw [if_neg h0, if_neg h0, ih m _ (by rw [List.length_drop]; omega) (by rw [List.length_drop]; omega)]
theorem brkL_step (l : List UInt8) (hne : l ≠ []) : brkL l = if runeD l = 0 then 0 else runeD l + brkL (l.drop (runeD l)) := by
  unfold brkL
  cases hl : l.length with
  | zero => exact absurd (List.length_eq_zero_iff.1 hl) hne
  | succ n =>
    rw [brk, if_neg hne]
    by_cases h0 : runeD l = 0
    · rw [if_pos h0, if_pos h0]
    · rw [if_neg h0, if_neg h0, brk_more n _ _ (by rw [List.length_drop]; omega) (Nat.le_refl _)]
theorem data_extract (x : ByteArray) (i : Nat) : (x.extract i x.size).data.toList = x.data.toList.drop i := by
  rw [ByteArray.data_extract, Array.toList_extract, List.extract_eq_take_drop]
  exact List.take_of_length_le (by rw [List.length_drop, data_length]; omega)
end Go.Proofs.YtngedmioeodmfaaDoor.Pu
namespace Go.Proofs.YtngedmioeodmfaaDoor.Pu
open Go.RowKit Go.Proofs.YtngedmioeodmfaaDoor.Pr Go.Proofs.YtngedmioeodmfaaDoorW.PrintWords Go.Proofs.YtngedmioeodmfaaDoor.Lx
set_option linter.unusedVariables false
set_option linter.unusedSimpArgs false
theorem decodeGo_L (x : ByteArray) (h : 0 < x.size) : Go.Lib.decodeGo x = Go.Lib.decodeL x.data.toList := by
  unfold Go.Lib.decodeGo
  rw [if_neg (by omega)]
  cases x with | mk d => cases d with | mk l => rfl
def wrongN (l : List UInt8) : Nat := if brkL l = l.length then l.length + 1 else brkL l
theorem wrong_loop (x : ByteArray) (hx : x.size ≤ 1000000) (d : Nat) : ∀ i : Nat, i ≤ x.size → x.size - i ≤ d → Ev (fun k => lex_wrong.l0 k x (i : Int)) ((if i + brkL (x.data.toList.drop i) = x.size then x.size + 1 else i + brkL (x.data.toList.drop i) : Nat) : Int) := by
  have stop : ∀ i : Nat, i ≤ x.size → ¬ i < x.size → Ev (fun k => lex_wrong.l0 k x (i : Int)) ((if i + brkL (x.data.toList.drop i) = x.size then x.size + 1 else i + brkL (x.data.toList.drop i) : Nat) : Int) := by
    intro i hi hn
    have : x.data.toList.drop i = [] := List.drop_eq_nil_of_le (by rw [data_length]; omega)
    rw [this]
    have hz : brkL ([] : List UInt8) = 0 := rfl
    rw [hz, if_pos (by omega)]
    refine Ev.step (f := fun _ => some (wrap64 ((x.size : Int) + 1))) (fun k => ?_) ((Ev.now _).eq (by rw [w64 (by omega) (by omega)]; omega))
    simp only [lex_wrong.l0]
    rw [if_neg (by omega)]
  induction d with
  | zero => intro i hi hd; exact stop i hi (by omega)
  | succ d ih =>
    intro i hi hd
    by_cases hlt : i < x.size
    · have hsz : (x.extract i x.size).size = x.size - i := by rw [← data_length, data_extract, List.length_drop, data_length]
      have hne : x.data.toList.drop i ≠ [] := by
        intro e; have := congrArg List.length e; rw [List.length_drop, data_length] at this; simp at this; omega
      have hle := runeD_le _ hne
      rw [List.length_drop, data_length] at hle
      have hdec : Go.Lib.decodeGo (x.extract i x.size) = Go.Lib.decodeL (x.data.toList.drop i) := by rw [decodeGo_L _ (by omega), data_extract]
      have hle2 := Go.Lib.decodeL_le _ hne
      rw [List.length_drop, data_length] at hle2
      have hw := Go.Lib.decodeL_width (x.data.toList.drop i)
      have hb := brkL_step _ hne
      have hrd : runeD (x.data.toList.drop i) = if (Go.Lib.decodeL (x.data.toList.drop i)).1 = 65533 ∧ (Go.Lib.decodeL (x.data.toList.drop i)).2 = 1 then 0 else (Go.Lib.decodeL (x.data.toList.drop i)).2 := rfl
      have hbl := brk_le (x.data.toList.drop i).length (x.data.toList.drop i)
      refine Ev.step (fun k => ?_) (Ev.some_bind (o := utf8_DecodeRuneInString.f (x.extract i x.size)) (a := (((Go.Lib.decodeL (x.data.toList.drop i)).1 : Int), ((Go.Lib.decodeL (x.data.toList.drop i)).2 : Int))) (f := fun k bt => if bt.1 = 65533 then (if bt.2 = 1 then some (i : Int) else lex_wrong.l0 k x (wrap64 ((i : Int) + bt.2))) else lex_wrong.l0 k x (wrap64 ((i : Int) + bt.2))) (by rw [utf8_DecodeRuneInString.f, hdec]) ?_)
      · simp only [lex_wrong.l0]
        rw [if_pos (by omega), if_pos (by omega), if_pos (by omega), Int.toNat_natCast]
      · simp only
        by_cases h0 : (Go.Lib.decodeL (x.data.toList.drop i)).1 = 65533 ∧ (Go.Lib.decodeL (x.data.toList.drop i)).2 = 1
        · rw [if_pos h0] at hrd
          rw [hrd, if_pos rfl] at hb
          rw [hb, if_neg (by omega)]
          refine Ev.step (f := fun _ => some (i : Int)) (fun k => ?_) ((Ev.now _).eq (by omega))
          rw [if_pos (by omega), if_pos (by omega)]
        · rw [if_neg h0] at hrd
          have h1 : runeD (x.data.toList.drop i) ≠ 0 := by omega
          rw [if_neg h1] at hb
          have hi2 := ih (i + (Go.Lib.decodeL (x.data.toList.drop i)).2) (by omega) (by omega)
          rw [← List.drop_drop, ← hrd] at hi2
          rw [hb]
          have e : ∀ k, (if (((Go.Lib.decodeL (x.data.toList.drop i)).1 : Nat) : Int) = 65533 then (if (((Go.Lib.decodeL (x.data.toList.drop i)).2 : Nat) : Int) = 1 then some (i : Int) else lex_wrong.l0 k x (wrap64 ((i : Int) + (((Go.Lib.decodeL (x.data.toList.drop i)).2 : Nat) : Int)))) else lex_wrong.l0 k x (wrap64 ((i : Int) + (((Go.Lib.decodeL (x.data.toList.drop i)).2 : Nat) : Int)))) = lex_wrong.l0 k x ((i + runeD (x.data.toList.drop i) : Nat) : Int) := by
            intro k
            rw [w64 (by omega) (by omega), ← hrd, Int.natCast_add]
            split
            · split
              · omega
              · rfl
            · rfl
          simp only [e]
          rw [Nat.add_assoc] at hi2
          exact hi2
    · exact stop i hi hlt
theorem wrong_ev (x : ByteArray) (hx : x.size ≤ 1000000) : Ev (fun k => lex_wrong.f k x) ((wrongN x.data.toList : Nat) : Int) := by
  have := wrong_loop x hx x.size 0 (by omega) (by omega)
  simp only [Nat.zero_add, List.drop_zero] at this
  unfold wrongN
  rw [data_length]
  exact this
/-- What Tokens hands back. -/
def tokM (x : ByteArray) : List Tk × Int × Int :=
  if x.size > 3000 then ([], 2, 0) else
  match sm 0 .sk [] (bytesOf x) with
  | .bad j => ([], 8, min (wrongN x.data.toList : Int) (j : Int))
  | .good ts => if (wrongN x.data.toList : Int) ≤ (x.size : Int) then ([], 8, (wrongN x.data.toList : Int)) else (ts, 0, 0)
theorem tokens_ev (x : ByteArray) : Ev (fun k => lex_Tokens.f k x) (tokM x) := by
  unfold tokM lex_Tokens.f
  by_cases h : x.size > 3000
  · rw [if_pos h]
    refine Ev.const fun k => ?_
    rw [if_pos (by omega)]
  · rw [if_neg h]
    have e : ∀ k, (if (x.size : Int) > 3000 then some ([], 2, 0) else (lex_wrong.f k x).bind fun bad => some (tokRes x bad)) = (lex_wrong.f k x).bind fun bad => some (tokRes x bad) := fun k => if_neg (by omega)
    simp only [e]
    refine Ev.bind (wrong_ev x (by omega)) ((Ev.now _).eq ?_)
    first
    | (rw [tokRes_sm]; cases sm 0 .sk [] (bytesOf x) <;> rfl)
    | rw [tokRes_sm]
end Go.Proofs.YtngedmioeodmfaaDoor.Pu
