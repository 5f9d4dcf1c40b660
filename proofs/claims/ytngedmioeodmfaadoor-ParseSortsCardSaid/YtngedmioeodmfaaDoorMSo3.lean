/- 16 texts of the proof, put together, less what is not used; what a tool printed stands among them. -/
import Derived.IntWalk
import Derived.Laws.BitsLemmas
import Derived.Lib.ValidLaws
import Derived.Lib.TrimUEq
import Derived.Lib.MapLaws
import Derived.KernelRfl
import Derived.Test.YtngedmioeodmfaaDoorMSo2
namespace Go.Proofs.YtngedmioeodmfaaDoor.Lx
open Go.RowKit Go.Proofs.YtngedmioeodmfaaDoor.Pr Go.Proofs.YtngedmioeodmfaaDoorW.PrintWords Go.Proofs.YtngedmioeodmfaaDoorW.PrintLast Go.Proofs.YtngedmioeodmfaaDoorW.PrintMore
set_option linter.unusedVariables false
set_option linter.unusedSimpArgs false
set_option maxHeartbeats 4000000 in
set_option maxRecDepth 100000 in
theorem token_p40 (s : ByteArray) (i : Nat) (L : Value) (ts : List Tk) (g base : Nat) (w : World) (hs : s.size ≤ 140737488351232) (hi : i < s.size) (hb : Blk w g s i L)
    (hO : Kd.R k40 40 w base (fun k => k ≠ g) L ts) (hbase : base ≤ g) (hts : ts.length ≤ 1000000000) (hl : pLetter (bt s i) = false) (q : bt s (i : Int) = 40) :
    Calls Tryd.prog 37 #[.pointer (some ⟨g, 0, none⟩)] w fun e w' =>
      e = .returned (.bool true) ∧ ∃ L', Blk w' g s ((i : Int) + 1) L' ∧ Kd.R k40 40 w' base (fun k => k ≠ g) L' (ts ++ [⟨3, i, s.extract i (i + 1)⟩]) ∧ Below base w w' := by
  have hg := blk_lt hb
  have c0 := hb.c0
  have c1 := hb.c1
  have hr := bt_range s (i : Int)
  have HLT := Aside0.mk (show ∀ W : World, Calls Tryd.prog 60 #[.int .u8 (bt s (i : Int))] W fun e w' => e = .returned (.bool false) ∧ Drawn0 W w' from fun W => lex_letter.calls _ _ W ((pLetter_some _ hr.1 hr.2).trans (by rw [hl])))
  have hlt2 : (i : Int) < (s.size : Int) := by omega
  have hx : ∀ h : i < s.size, ((s[i]'h).toNat : Int) = bt s (i : Int) := fun h => bt_at s (i : Int) h
  have b34 : (bt s (i : Int) == 34) = false := by rw [q]; rfl
  have b40 : (bt s (i : Int) == 40) = true := by rw [q]; rfl
  have b41 : (bt s (i : Int) == 41) = false := by rw [q]; rfl
  have b59 : (bt s (i : Int) == 59) = false := by rw [q]; rfl
  have HQ := Aside0.mk (show ∀ W : World, Calls Tryd.prog 63 #[.string ⟨#[40, 41, 59]⟩, .int .u8 (bt s (i : Int))] W fun e w' => e = .returned (.int .i64 0) ∧ w' = W from fun W => by rw [q]; exact Tryd.strings_IndexByte _ _ W)
  clear q
  have HB := Aside0.mk hb
  have HS := Aside0.mk hs
  have HO := Aside0.mk hO
  have HG0 := Aside0.mk hg
  have hu := Tryd.underlying40
  clear hb hO hl
  go_enter Tryd.func37, Tryd.ntmps37
  go_wp2
  go_quiet (fail)
  go_wp2_with fail
  refine (HLT.out _).mono ?_
  rintro e w' ⟨rfl, ⟨n, rfl⟩⟩
  have hne : w.heap.size ≠ g := by omega
  have hz1 : (i : Int) ≤ (i : Int) + 1 := by omega
  have hz2 : (i : Int) + 1 ≤ (s.size : Int) := by omega
  go_wp2
  have hT1 : ((w.alloc (.cells #[.int .i64 0, .int .i64 i, .string ⟨#[]⟩] 40)).drewN (nq + n)).heap[w.heap.size]? = some (.cells #[.int .i64 0, .int .i64 i, .string ⟨#[]⟩] 40 (0, 0)) := blk_drewN (blk_new w _) _
  have hb1 : Blk ((w.alloc (.cells #[.int .i64 0, .int .i64 i, .string ⟨#[]⟩] 40)).drewN (nq + n)) g s i L := blk_drewN (blk_alloc HB.out _) _
  have ho1 : Kd.R k40 40 ((w.alloc (.cells #[.int .i64 0, .int .i64 i, .string ⟨#[]⟩] 40)).drewN (nq + n)) base (fun k => k ≠ g ∧ k ≠ w.heap.size) L ts := Kd.R_mono (Kd.R_drewN (Kd.R_alloc (Kd.R_bound HO.out) _) _) (fun k hk => ⟨hk.1, Nat.ne_of_lt hk.2.2.1⟩)
  have hw1 : Below base w ((w.alloc (.cells #[.int .i64 0, .int .i64 i, .string ⟨#[]⟩] 40)).drewN (nq + n)) := (pw_below_drewN (below_alloc (Below.refl w.heap.size w) _) _).mono (by omega)
  generalize ((w.alloc (.cells #[.int .i64 0, .int .i64 i, .string ⟨#[]⟩] 40)).drewN (nq + n)) = W1 at hT1 hb1 ho1 hw1 ⊢
  clear c0 c1
  have d0 := hb1.c0
  have d1 := hb1.c1
  have df1 := hb1.fr 1
  have t0 := (blk_cell hT1 0).trans rfl
  have t2 := (blk_cell hT1 2).trans rfl
  have tf0 := blk_frozen hT1 0
  have tf2 := blk_frozen hT1 2
  have HT1 := Aside0.mk hT1
  have HB1 := Aside0.mk hb1
  have HO1 := Aside0.mk ho1
  have HW1 := Aside0.mk hw1
  clear hT1 hb1 ho1 hw1
  have hz3 : i ≤ i + 1 := by omega
  have hz4 : i + 1 ≤ s.size := by omega
  have hz5 : (0 : Int) ≤ (i : Int) + 1 := by omega
  have hz6 : ((i : Int) + 1).toNat = i + 1 := by omega
  have hz7 : IntKind.i64.wrap ((i : Int) + 1) = (i : Int) + 1 := IntWalk.i64_in _ (by omega)
  refine start_ (n := 24) (S := fun w' => w'.cell? ⟨g, 0, none⟩ = some (.string s) ∧ w'.cell? ⟨g, 1, none⟩ = some (.int .i64 i)) (ds := []) #[false, false, false, false, false, false, false, false, false, false, false, false, false, false, false, false, false, false, false, false, false, false, false, false] (by kernel_rfl) rfl rfl ⟨d0, d1⟩ (fun hHeld => ?_)
  refine pure_ (i := 0) (N := some 49) (v := ?_) (a' := ?_) #[true, false, false, false, false, false, false, false, false, false, false, false, false, false, false, false, false, false, false, false, false, false, false, false] rfl rfl (by kernel_rfl) (fun _ _ _ h => h) (Or.inl ⟨by rfl, ?_⟩) ?_ ?_
  rotate_left
  · intro w'
    go_simp
    with_reducible rfl
  rotate_left
  · simp only [Act.put, List.setIfInBounds_toArray, List.set_cons_zero, List.set_cons_succ, i64_w, i32_w]
    rfl
  refine pure_ (i := 3) (N := some 52) (v := ?_) (a' := ?_) #[true, false, false, true, false, false, false, false, false, false, false, false, false, false, false, false, false, false, false, false, false, false, false, false] rfl rfl (by kernel_rfl) (fun _ _ _ h => h) (Or.inl ⟨by rfl, ?_⟩) ?_ ?_
  rotate_left
  · intro w'
    go_simp
    with_reducible rfl
  rotate_left
  · simp only [Act.put, List.setIfInBounds_toArray, List.set_cons_zero, List.set_cons_succ, i64_w, i32_w]
    rfl
  refine pure_ (i := 4) (N := some 53) (v := ?_) (a' := ?_) #[true, false, false, true, true, false, false, false, false, false, false, false, false, false, false, false, false, false, false, false, false, false, false, false] rfl rfl (by kernel_rfl) (fun _ _ _ h => h) (Or.inl ⟨by rfl, ?_⟩) ?_ ?_
  rotate_left
  · intro w'
    go_simp
    with_reducible rfl
  rotate_left
  · simp only [Act.put, List.setIfInBounds_toArray, List.set_cons_zero, List.set_cons_succ, i64_w, i32_w]
    rfl
  refine pure_ (i := 5) (N := some 54) (v := ?_) (a' := ?_) #[true, false, false, true, true, true, false, false, false, false, false, false, false, false, false, false, false, false, false, false, false, false, false, false] rfl rfl (by kernel_rfl) (fun _ _ _ h => h) (Or.inl ⟨by rfl, ?_⟩) ?_ ?_
  rotate_left
  · intro w'
    go_simp
    with_reducible rfl
  rotate_left
  · simp only [Act.put, List.setIfInBounds_toArray, List.set_cons_zero, List.set_cons_succ, i64_w, i32_w]
    rfl
  refine pure_ (i := 6) (N := some 55) (v := ?_) (a' := ?_) #[true, false, false, true, true, true, true, false, false, false, false, false, false, false, false, false, false, false, false, false, false, false, false, false] rfl rfl (by kernel_rfl) (fun _ _ _ h => h) (Or.inl ⟨by rfl, ?_⟩) ?_ ?_
  rotate_left
  · intro w'
    go_simp
    with_reducible rfl
  rotate_left
  · simp only [Act.put, List.setIfInBounds_toArray, List.set_cons_zero, List.set_cons_succ, i64_w, i32_w]
    rfl
  refine pure_ (i := 8) (N := some 57) (v := ?_) (a' := ?_) #[true, false, false, true, true, true, true, false, true, false, false, false, false, false, false, false, false, false, false, false, false, false, false, false] rfl rfl (by kernel_rfl) (fun _ _ _ h => h) (Or.inl ⟨by rfl, ?_⟩) ?_ ?_
  rotate_left
  · intro w'
    go_simp
    with_reducible rfl
  rotate_left
  · simp only [Act.put, List.setIfInBounds_toArray, List.set_cons_zero, List.set_cons_succ, i64_w, i32_w]
    rfl
  refine pure_ (i := 9) (N := some 58) (v := ?_) (a' := ?_) #[true, false, false, true, true, true, true, false, true, true, false, false, false, false, false, false, false, false, false, false, false, false, false, false] rfl rfl (by kernel_rfl) (fun _ _ _ h => h) (Or.inl ⟨by rfl, ?_⟩) ?_ ?_
  rotate_left
  · intro w'
    go_simp
    with_reducible rfl
  rotate_left
  · simp only [Act.put, List.setIfInBounds_toArray, List.set_cons_zero, List.set_cons_succ, i64_w, i32_w]
    rfl
  refine pure_ (i := 10) (N := some 59) (v := ?_) (a' := ?_) #[true, false, false, true, true, true, true, false, true, true, true, false, false, false, false, false, false, false, false, false, false, false, false, false] rfl rfl (by kernel_rfl) (fun _ _ _ h => h) (Or.inl ⟨by rfl, ?_⟩) ?_ ?_
  rotate_left
  · intro w'
    go_simp
    with_reducible rfl
  rotate_left
  · simp only [Act.put, List.setIfInBounds_toArray, List.set_cons_zero, List.set_cons_succ, i64_w, i32_w]
    rfl
  refine pure_ (i := 11) (N := some 60) (v := ?_) (a' := ?_) #[true, false, false, true, true, true, true, false, true, true, true, true, false, false, false, false, false, false, false, false, false, false, false, false] rfl rfl (by kernel_rfl) (fun _ _ _ h => h) (Or.inl ⟨by rfl, ?_⟩) ?_ ?_
  rotate_left
  · intro w'
    go_simp
    with_reducible rfl
  rotate_left
  · simp only [Act.put, List.setIfInBounds_toArray, List.set_cons_zero, List.set_cons_succ, i64_w, i32_w]
    rfl
  refine pure_ (i := 13) (N := some 62) (v := ?_) (a' := ?_) #[true, false, false, true, true, true, true, false, true, true, true, true, false, true, false, false, false, false, false, false, false, false, false, false] rfl rfl (by kernel_rfl) (fun _ _ _ h => h) (Or.inl ⟨by rfl, ?_⟩) ?_ ?_
  rotate_left
  · intro w'
    go_simp
    with_reducible rfl
  rotate_left
  · simp only [Act.put, List.setIfInBounds_toArray, List.set_cons_zero, List.set_cons_succ, i64_w, i32_w]
    rfl
  refine pure_ (i := 14) (N := some 63) (v := ?_) (a' := ?_) #[true, false, false, true, true, true, true, false, true, true, true, true, false, true, true, false, false, false, false, false, false, false, false, false] rfl rfl (by kernel_rfl) (fun _ _ _ h => h) (Or.inl ⟨by rfl, ?_⟩) ?_ ?_
  rotate_left
  · intro w'
    go_simp
    with_reducible rfl
  rotate_left
  · simp only [Act.put, List.setIfInBounds_toArray, List.set_cons_zero, List.set_cons_succ, i64_w, i32_w]
    rfl
  refine pure_ (i := 15) (N := some 64) (v := ?_) (a' := ?_) #[true, false, false, true, true, true, true, false, true, true, true, true, false, true, true, true, false, false, false, false, false, false, false, false] rfl rfl (by kernel_rfl) (fun _ _ _ h => h) (Or.inl ⟨by rfl, ?_⟩) ?_ ?_
  rotate_left
  · intro w'
    go_simp
    with_reducible rfl
  rotate_left
  · simp only [Act.put, List.setIfInBounds_toArray, List.set_cons_zero, List.set_cons_succ, i64_w, i32_w]
    rfl
  refine pure_ (i := 16) (N := some 65) (v := ?_) (a' := ?_) #[true, false, false, true, true, true, true, false, true, true, true, true, false, true, true, true, true, false, false, false, false, false, false, false] rfl rfl (by kernel_rfl) (fun _ _ _ h => h) (Or.inl ⟨by rfl, ?_⟩) ?_ ?_
  rotate_left
  · intro w'
    go_simp
    with_reducible rfl
  rotate_left
  · simp only [Act.put, List.setIfInBounds_toArray, List.set_cons_zero, List.set_cons_succ, i64_w, i32_w]
    rfl
  refine take_ (i := 7) (N := some 56) (v := ?_) (a' := ?_) #[true, false, false, true, true, true, true, true, true, true, true, true, false, true, true, true, true, false, false, false, false, false, false, false] rfl rfl (by kernel_rfl) (fun _ _ _ h => h) (Or.inl ⟨by rfl, ?_⟩) hHeld ?_ ?_
  rotate_left
  · rintro w' ⟨s0, s1⟩
    go_simp
    with_reducible rfl
  rotate_left
  · simp only [Act.put, List.setIfInBounds_toArray, List.set_cons_zero, List.set_cons_succ, i64_w, i32_w]
    rfl
  refine take_ (i := 12) (N := some 61) (v := ?_) (a' := ?_) #[true, false, false, true, true, true, true, true, true, true, true, true, true, true, true, true, true, false, false, false, false, false, false, false] rfl rfl (by kernel_rfl) (fun _ _ _ h => h) (Or.inl ⟨by rfl, ?_⟩) hHeld ?_ ?_
  rotate_left
  · rintro w' ⟨s0, s1⟩
    go_simp
    with_reducible rfl
  rotate_left
  · simp only [Act.put, List.setIfInBounds_toArray, List.set_cons_zero, List.set_cons_succ, i64_w, i32_w]
    rfl
  refine take_ (i := 17) (N := some 66) (v := ?_) (a' := ?_) #[true, false, false, true, true, true, true, true, true, true, true, true, true, true, true, true, true, true, false, false, false, false, false, false] rfl rfl (by kernel_rfl) (fun _ _ _ h => h) (Or.inl ⟨by rfl, ?_⟩) hHeld ?_ ?_
  rotate_left
  · rintro w' ⟨s0, s1⟩
    go_simp
    with_reducible rfl
  rotate_left
  · simp only [Act.put, List.setIfInBounds_toArray, List.set_cons_zero, List.set_cons_succ, i64_w, i32_w]
    rfl
  refine pure_ (i := 18) (N := some 67) (v := ?_) (a' := ?_) #[true, false, false, true, true, true, true, true, true, true, true, true, true, true, true, true, true, true, true, false, false, false, false, false] rfl rfl (by kernel_rfl) (fun _ _ _ h => h) (Or.inl ⟨by rfl, ?_⟩) ?_ ?_
  rotate_left
  · intro w'
    go_simp
    with_reducible rfl
  rotate_left
  · simp only [Act.put, List.setIfInBounds_toArray, List.set_cons_zero, List.set_cons_succ, i64_w, i32_w]
    rfl
  refine pure_ (i := 19) (N := some 68) (v := ?_) (a' := ?_) #[true, false, false, true, true, true, true, true, true, true, true, true, true, true, true, true, true, true, true, true, false, false, false, false] rfl rfl (by kernel_rfl) (fun _ _ _ h => h) (Or.inl ⟨by rfl, ?_⟩) ?_ ?_
  rotate_left
  · intro w'
    go_simp
    with_reducible rfl
  rotate_left
  · simp only [Act.put, List.setIfInBounds_toArray, List.set_cons_zero, List.set_cons_succ, i64_w, i32_w]
    rfl
  refine one_ (i := 1) (N := some 50) #[true, true, false, true, true, true, true, true, true, true, true, true, true, true, true, true, true, true, true, true, false, false, false, false] rfl rfl (by kernel_rfl) (by decide) (fun K hK => ?_)
  refine goes_ Tryd.func63 (by kernel_rfl) rfl #[.string ⟨#[40, 41, 59]⟩, .int .u8 (bt s (i : Int))] (by rfl) rfl rfl (by simp only [List.map_toArray, List.map_cons, List.map_nil]; rfl) ?_
  with_reducible refine (HQ.out _).mono ?_
  rintro e w' ⟨rfl, rfl⟩
  refine ⟨_, rfl, ?_⟩
  refine hK.out _ _ ⟨hHeld.1, hHeld.2⟩ (fun hHeld => ?_)
  clear hK K
  refine norm_ (a' := ?_) ?_ ?_
  rotate_left
  · show Act.put _ (some 50) _ = _
    simp only [Act.put, List.setIfInBounds_toArray, List.set_cons_zero, List.set_cons_succ, i64_w, i32_w]
    rfl
  refine pure_ (i := 2) (N := some 51) (v := ?_) (a' := ?_) #[true, true, true, true, true, true, true, true, true, true, true, true, true, true, true, true, true, true, true, true, false, false, false, false] rfl rfl (by kernel_rfl) (fun _ _ _ h => h) (Or.inl ⟨by rfl, ?_⟩) ?_ ?_
  rotate_left
  · intro w'
    go_simp
    with_reducible rfl
  rotate_left
  · simp only [Act.put, List.setIfInBounds_toArray, List.set_cons_zero, List.set_cons_succ, i64_w, i32_w]
    rfl
  refine pure_ (i := 20) (N := some 69) (v := ?_) (a' := ?_) #[true, true, true, true, true, true, true, true, true, true, true, true, true, true, true, true, true, true, true, true, true, false, false, false] rfl rfl (by kernel_rfl) (fun _ _ _ h => h) (Or.inl ⟨by rfl, ?_⟩) ?_ ?_
  rotate_left
  · intro w'
    go_simp
    with_reducible rfl
  rotate_left
  · simp only [Act.put, List.setIfInBounds_toArray, List.set_cons_zero, List.set_cons_succ, i64_w, i32_w]
    rfl
  refine one_ (i := 21) (N := none) #[true, true, true, true, true, true, true, true, true, true, true, true, true, true, true, true, true, true, true, true, true, true, false, false] rfl rfl (by kernel_rfl) (by decide) (fun K hK => ?_)
  refine skip_ (w1 := ?_) (by rfl) rfl ?_ ?_
  rotate_left
  · go_simp
    rfl
  refine hK.out _ _ ⟨(Blk.c0 (blk_far (blk_drew HB1.out) (Ne.symm hne) _)), (Blk.c1 (blk_far (blk_drew HB1.out) (Ne.symm hne) _))⟩ (fun hHeld => ?_)
  clear hK K
  refine pure_ (i := 22) (N := some 70) (v := ?_) (a' := ?_) #[true, true, true, true, true, true, true, true, true, true, true, true, true, true, true, true, true, true, true, true, true, true, true, false] rfl rfl (by kernel_rfl) (fun _ _ _ h => h) (Or.inl ⟨by rfl, ?_⟩) ?_ ?_
  rotate_left
  · intro w'
    go_simp
    with_reducible rfl
  rotate_left
  · simp only [Act.put, List.setIfInBounds_toArray, List.set_cons_zero, List.set_cons_succ, i64_w, i32_w]
    rfl
  refine one_ (i := 23) (N := none) #[true, true, true, true, true, true, true, true, true, true, true, true, true, true, true, true, true, true, true, true, true, true, true, true] rfl rfl (by kernel_rfl) (by decide) (fun K hK => ?_)
  refine skip_ (w1 := ?_) (by rfl) rfl ?_ ?_
  rotate_left
  · go_simp
    rfl
  refine hK.out _ _ ⟨(Blk.c0 (blk_far (blk_far (blk_drew HB1.out) (Ne.symm hne) _) (Ne.symm hne) _)), (Blk.c1 (blk_far (blk_far (blk_drew HB1.out) (Ne.symm hne) _) (Ne.symm hne) _))⟩ (fun hHeld => ?_)
  clear hK K
  refine done_ (by kernel_rfl) ?_

  clear hz3 hz4 hz5 hz6 hz7
  go_wp2
  simp only [show wrap64 3 = (3 : Int) from by unfold wrap64; omega]
  have hT3 : ((((W1.setCell ⟨w.heap.size, 0, none⟩ (.int .i64 3)).setCell ⟨w.heap.size, 2, none⟩ (.string (s.extract i (i + 1)))).setCell ⟨g, 1, none⟩ (.int .i64 ((i : Int) + 1))).drew).heap[w.heap.size]? = some (.cells #[.int .i64 3, .int .i64 i, .string (s.extract i (i + 1))] 40 (0, 0)) :=
    blk_drew (blk_far (blk_put (blk_put HT1.out 0 (.int .i64 3) rfl) 2 (.string (s.extract i (i + 1))) rfl) hne _)
  have hB3 : Blk ((((W1.setCell ⟨w.heap.size, 0, none⟩ (.int .i64 3)).setCell ⟨w.heap.size, 2, none⟩ (.string (s.extract i (i + 1)))).setCell ⟨g, 1, none⟩ (.int .i64 ((i : Int) + 1))).drew) g s ((i : Int) + 1) L := blk_drew (Blk.at1 (blk_far (blk_far HB1.out (Ne.symm hne) _) (Ne.symm hne) _) _)
  have hO3 : Kd.R k40 40 ((((W1.setCell ⟨w.heap.size, 0, none⟩ (.int .i64 3)).setCell ⟨w.heap.size, 2, none⟩ (.string (s.extract i (i + 1)))).setCell ⟨g, 1, none⟩ (.int .i64 ((i : Int) + 1))).drew) base (fun k => k ≠ g) L ts :=
    Kd.R_mono (Kd.R_drew (Kd.R_far (Kd.R_far (Kd.R_far HO1.out (p := ⟨w.heap.size, 0, none⟩) (fun k hk => hk.2) _) (p := ⟨w.heap.size, 2, none⟩) (fun k hk => hk.2) _) (p := ⟨g, 1, none⟩) (fun k hk => hk.1) _)) (fun k hk => hk.1)
  have hW3 : Below base w ((((W1.setCell ⟨w.heap.size, 0, none⟩ (.int .i64 3)).setCell ⟨w.heap.size, 2, none⟩ (.string (s.extract i (i + 1)))).setCell ⟨g, 1, none⟩ (.int .i64 ((i : Int) + 1))).drew) := (((HW1.out.setCell (by simp; omega) _).setCell (by simp; omega) _).setCell (by simpa using hbase) _).drew
  clear t0 t2 tf0 tf2 d0 d1 df1 hne
  generalize ((((W1.setCell ⟨w.heap.size, 0, none⟩ (.int .i64 3)).setCell ⟨w.heap.size, 2, none⟩ (.string (s.extract i (i + 1)))).setCell ⟨g, 1, none⟩ (.int .i64 ((i : Int) + 1))).drew) = W3 at hT3 hB3 hO3 hW3 ⊢
  have HT3 := Aside0.mk hT3
  have HB3 := Aside0.mk hB3
  have HO3 := Aside0.mk hO3
  have HW3 := Aside0.mk hW3
  have t0 := (blk_cell hT3 0).trans rfl
  have t1 := (blk_cell hT3 1).trans rfl
  have t2 := (blk_cell hT3 2).trans rfl
  have d2 := hB3.c2
  have df := hB3.fr 2
  have hg3 := blk_lt hB3
  have hb3 := blk_lt hT3
  have hne : g ≠ w.heap.size := by omega
  clear hT3 hB3 hO3 hW3
  have hbase3 : base ≤ W3.heap.size := by omega
  go_region_law ((refine app_tok base g (by rfl) (.tmp 84) (.tmp 86) rfl L ts (⟨3, i, s.extract i (i + 1)⟩ : Tk) ?aV ?aX ?aG ?aO ?aS ?aL ?_; (case aV => first | rfl | (simp [Act.eval])); (case aX => first | rfl | (simp [Act.eval])); (case aG => exact hg3); (case aO => exact HO3.out); (case aS => exact hbase3); (case aL => omega); intro v1 w1 ho hb1 hg1; obtain ⟨A1, k1, e1⟩ := Kd.R_slice ho; subst e1; have hB4 : Blk w1 g s ((i : Int) + 1) L := blk_grown (blk_drew HB3.out) hg1 (Kd.R_away HO3.out (fun k hk => hk)); have f1' := hB4.fr 2; have c2' := hB4.c2; have HO4 := Aside0.mk ho; have HB4 := Aside0.mk hB4; have HW4 := Aside0.mk (HW3.out.trans hb1); clear ho hb1 hg1 hB4))
  all_goals
    go_wp2
    go_ret
    refine ⟨rfl, _, ?_, Kd.R_far HO4.out (fun k hk => hk) _, HW4.out.setCell (by simp; omega) _⟩
    have := blk_set HB4.out 2 (.slice A1 (ts ++ [(⟨3, i, s.extract i (i + 1)⟩ : Tk)]).length k1)
    simpa [Blk] using this
set_option maxHeartbeats 4000000 in
set_option maxRecDepth 100000 in
theorem token_p41 (s : ByteArray) (i : Nat) (L : Value) (ts : List Tk) (g base : Nat) (w : World) (hs : s.size ≤ 140737488351232) (hi : i < s.size) (hb : Blk w g s i L)
    (hO : Kd.R k40 40 w base (fun k => k ≠ g) L ts) (hbase : base ≤ g) (hts : ts.length ≤ 1000000000) (hl : pLetter (bt s i) = false) (q : bt s (i : Int) = 41) :
    Calls Tryd.prog 37 #[.pointer (some ⟨g, 0, none⟩)] w fun e w' =>
      e = .returned (.bool true) ∧ ∃ L', Blk w' g s ((i : Int) + 1) L' ∧ Kd.R k40 40 w' base (fun k => k ≠ g) L' (ts ++ [⟨4, i, s.extract i (i + 1)⟩]) ∧ Below base w w' := by
  have hg := blk_lt hb
  have c0 := hb.c0
  have c1 := hb.c1
  have hr := bt_range s (i : Int)
  have HLT := Aside0.mk (show ∀ W : World, Calls Tryd.prog 60 #[.int .u8 (bt s (i : Int))] W fun e w' => e = .returned (.bool false) ∧ Drawn0 W w' from fun W => lex_letter.calls _ _ W ((pLetter_some _ hr.1 hr.2).trans (by rw [hl])))
  have hlt2 : (i : Int) < (s.size : Int) := by omega
  have hx : ∀ h : i < s.size, ((s[i]'h).toNat : Int) = bt s (i : Int) := fun h => bt_at s (i : Int) h
  have b34 : (bt s (i : Int) == 34) = false := by rw [q]; rfl
  have b40 : (bt s (i : Int) == 40) = false := by rw [q]; rfl
  have b41 : (bt s (i : Int) == 41) = true := by rw [q]; rfl
  have b59 : (bt s (i : Int) == 59) = false := by rw [q]; rfl
  have HQ := Aside0.mk (show ∀ W : World, Calls Tryd.prog 63 #[.string ⟨#[40, 41, 59]⟩, .int .u8 (bt s (i : Int))] W fun e w' => e = .returned (.int .i64 1) ∧ w' = W from fun W => by rw [q]; exact Tryd.strings_IndexByte _ _ W)
  clear q
  have HB := Aside0.mk hb
  have HS := Aside0.mk hs
  have HO := Aside0.mk hO
  have HG0 := Aside0.mk hg
  have hu := Tryd.underlying40
  clear hb hO hl
  go_enter Tryd.func37, Tryd.ntmps37
  go_wp2
  go_quiet (fail)
  go_wp2_with fail
  refine (HLT.out _).mono ?_
  rintro e w' ⟨rfl, ⟨n, rfl⟩⟩
  have hne : w.heap.size ≠ g := by omega
  have hz1 : (i : Int) ≤ (i : Int) + 1 := by omega
  have hz2 : (i : Int) + 1 ≤ (s.size : Int) := by omega
  go_wp2
  have hT1 : ((w.alloc (.cells #[.int .i64 0, .int .i64 i, .string ⟨#[]⟩] 40)).drewN (nq + n)).heap[w.heap.size]? = some (.cells #[.int .i64 0, .int .i64 i, .string ⟨#[]⟩] 40 (0, 0)) := blk_drewN (blk_new w _) _
  have hb1 : Blk ((w.alloc (.cells #[.int .i64 0, .int .i64 i, .string ⟨#[]⟩] 40)).drewN (nq + n)) g s i L := blk_drewN (blk_alloc HB.out _) _
  have ho1 : Kd.R k40 40 ((w.alloc (.cells #[.int .i64 0, .int .i64 i, .string ⟨#[]⟩] 40)).drewN (nq + n)) base (fun k => k ≠ g ∧ k ≠ w.heap.size) L ts := Kd.R_mono (Kd.R_drewN (Kd.R_alloc (Kd.R_bound HO.out) _) _) (fun k hk => ⟨hk.1, Nat.ne_of_lt hk.2.2.1⟩)
  have hw1 : Below base w ((w.alloc (.cells #[.int .i64 0, .int .i64 i, .string ⟨#[]⟩] 40)).drewN (nq + n)) := (pw_below_drewN (below_alloc (Below.refl w.heap.size w) _) _).mono (by omega)
  generalize ((w.alloc (.cells #[.int .i64 0, .int .i64 i, .string ⟨#[]⟩] 40)).drewN (nq + n)) = W1 at hT1 hb1 ho1 hw1 ⊢
  clear c0 c1
  have d0 := hb1.c0
  have d1 := hb1.c1
  have df1 := hb1.fr 1
  have t0 := (blk_cell hT1 0).trans rfl
  have t2 := (blk_cell hT1 2).trans rfl
  have tf0 := blk_frozen hT1 0
  have tf2 := blk_frozen hT1 2
  have HT1 := Aside0.mk hT1
  have HB1 := Aside0.mk hb1
  have HO1 := Aside0.mk ho1
  have HW1 := Aside0.mk hw1
  clear hT1 hb1 ho1 hw1
  have hz3 : i ≤ i + 1 := by omega
  have hz4 : i + 1 ≤ s.size := by omega
  have hz5 : (0 : Int) ≤ (i : Int) + 1 := by omega
  have hz6 : ((i : Int) + 1).toNat = i + 1 := by omega
  have hz7 : IntKind.i64.wrap ((i : Int) + 1) = (i : Int) + 1 := IntWalk.i64_in _ (by omega)
  refine start_ (n := 24) (S := fun w' => w'.cell? ⟨g, 0, none⟩ = some (.string s) ∧ w'.cell? ⟨g, 1, none⟩ = some (.int .i64 i)) (ds := []) #[false, false, false, false, false, false, false, false, false, false, false, false, false, false, false, false, false, false, false, false, false, false, false, false] (by kernel_rfl) rfl rfl ⟨d0, d1⟩ (fun hHeld => ?_)
  refine pure_ (i := 0) (N := some 49) (v := ?_) (a' := ?_) #[true, false, false, false, false, false, false, false, false, false, false, false, false, false, false, false, false, false, false, false, false, false, false, false] rfl rfl (by kernel_rfl) (fun _ _ _ h => h) (Or.inl ⟨by rfl, ?_⟩) ?_ ?_
  rotate_left
  · intro w'
    go_simp
    with_reducible rfl
  rotate_left
  · simp only [Act.put, List.setIfInBounds_toArray, List.set_cons_zero, List.set_cons_succ, i64_w, i32_w]
    rfl
  refine pure_ (i := 3) (N := some 52) (v := ?_) (a' := ?_) #[true, false, false, true, false, false, false, false, false, false, false, false, false, false, false, false, false, false, false, false, false, false, false, false] rfl rfl (by kernel_rfl) (fun _ _ _ h => h) (Or.inl ⟨by rfl, ?_⟩) ?_ ?_
  rotate_left
  · intro w'
    go_simp
    with_reducible rfl
  rotate_left
  · simp only [Act.put, List.setIfInBounds_toArray, List.set_cons_zero, List.set_cons_succ, i64_w, i32_w]
    rfl
  refine pure_ (i := 4) (N := some 53) (v := ?_) (a' := ?_) #[true, false, false, true, true, false, false, false, false, false, false, false, false, false, false, false, false, false, false, false, false, false, false, false] rfl rfl (by kernel_rfl) (fun _ _ _ h => h) (Or.inl ⟨by rfl, ?_⟩) ?_ ?_
  rotate_left
  · intro w'
    go_simp
    with_reducible rfl
  rotate_left
  · simp only [Act.put, List.setIfInBounds_toArray, List.set_cons_zero, List.set_cons_succ, i64_w, i32_w]
    rfl
  refine pure_ (i := 5) (N := some 54) (v := ?_) (a' := ?_) #[true, false, false, true, true, true, false, false, false, false, false, false, false, false, false, false, false, false, false, false, false, false, false, false] rfl rfl (by kernel_rfl) (fun _ _ _ h => h) (Or.inl ⟨by rfl, ?_⟩) ?_ ?_
  rotate_left
  · intro w'
    go_simp
    with_reducible rfl
  rotate_left
  · simp only [Act.put, List.setIfInBounds_toArray, List.set_cons_zero, List.set_cons_succ, i64_w, i32_w]
    rfl
  refine pure_ (i := 6) (N := some 55) (v := ?_) (a' := ?_) #[true, false, false, true, true, true, true, false, false, false, false, false, false, false, false, false, false, false, false, false, false, false, false, false] rfl rfl (by kernel_rfl) (fun _ _ _ h => h) (Or.inl ⟨by rfl, ?_⟩) ?_ ?_
  rotate_left
  · intro w'
    go_simp
    with_reducible rfl
  rotate_left
  · simp only [Act.put, List.setIfInBounds_toArray, List.set_cons_zero, List.set_cons_succ, i64_w, i32_w]
    rfl
  refine pure_ (i := 8) (N := some 57) (v := ?_) (a' := ?_) #[true, false, false, true, true, true, true, false, true, false, false, false, false, false, false, false, false, false, false, false, false, false, false, false] rfl rfl (by kernel_rfl) (fun _ _ _ h => h) (Or.inl ⟨by rfl, ?_⟩) ?_ ?_
  rotate_left
  · intro w'
    go_simp
    with_reducible rfl
  rotate_left
  · simp only [Act.put, List.setIfInBounds_toArray, List.set_cons_zero, List.set_cons_succ, i64_w, i32_w]
    rfl
  refine pure_ (i := 9) (N := some 58) (v := ?_) (a' := ?_) #[true, false, false, true, true, true, true, false, true, true, false, false, false, false, false, false, false, false, false, false, false, false, false, false] rfl rfl (by kernel_rfl) (fun _ _ _ h => h) (Or.inl ⟨by rfl, ?_⟩) ?_ ?_
  rotate_left
  · intro w'
    go_simp
    with_reducible rfl
  rotate_left
  · simp only [Act.put, List.setIfInBounds_toArray, List.set_cons_zero, List.set_cons_succ, i64_w, i32_w]
    rfl
  refine pure_ (i := 10) (N := some 59) (v := ?_) (a' := ?_) #[true, false, false, true, true, true, true, false, true, true, true, false, false, false, false, false, false, false, false, false, false, false, false, false] rfl rfl (by kernel_rfl) (fun _ _ _ h => h) (Or.inl ⟨by rfl, ?_⟩) ?_ ?_
  rotate_left
  · intro w'
    go_simp
    with_reducible rfl
  rotate_left
  · simp only [Act.put, List.setIfInBounds_toArray, List.set_cons_zero, List.set_cons_succ, i64_w, i32_w]
    rfl
  refine pure_ (i := 11) (N := some 60) (v := ?_) (a' := ?_) #[true, false, false, true, true, true, true, false, true, true, true, true, false, false, false, false, false, false, false, false, false, false, false, false] rfl rfl (by kernel_rfl) (fun _ _ _ h => h) (Or.inl ⟨by rfl, ?_⟩) ?_ ?_
  rotate_left
  · intro w'
    go_simp
    with_reducible rfl
  rotate_left
  · simp only [Act.put, List.setIfInBounds_toArray, List.set_cons_zero, List.set_cons_succ, i64_w, i32_w]
    rfl
  refine pure_ (i := 13) (N := some 62) (v := ?_) (a' := ?_) #[true, false, false, true, true, true, true, false, true, true, true, true, false, true, false, false, false, false, false, false, false, false, false, false] rfl rfl (by kernel_rfl) (fun _ _ _ h => h) (Or.inl ⟨by rfl, ?_⟩) ?_ ?_
  rotate_left
  · intro w'
    go_simp
    with_reducible rfl
  rotate_left
  · simp only [Act.put, List.setIfInBounds_toArray, List.set_cons_zero, List.set_cons_succ, i64_w, i32_w]
    rfl
  refine pure_ (i := 14) (N := some 63) (v := ?_) (a' := ?_) #[true, false, false, true, true, true, true, false, true, true, true, true, false, true, true, false, false, false, false, false, false, false, false, false] rfl rfl (by kernel_rfl) (fun _ _ _ h => h) (Or.inl ⟨by rfl, ?_⟩) ?_ ?_
  rotate_left
  · intro w'
    go_simp
    with_reducible rfl
  rotate_left
  · simp only [Act.put, List.setIfInBounds_toArray, List.set_cons_zero, List.set_cons_succ, i64_w, i32_w]
    rfl
  refine pure_ (i := 15) (N := some 64) (v := ?_) (a' := ?_) #[true, false, false, true, true, true, true, false, true, true, true, true, false, true, true, true, false, false, false, false, false, false, false, false] rfl rfl (by kernel_rfl) (fun _ _ _ h => h) (Or.inl ⟨by rfl, ?_⟩) ?_ ?_
  rotate_left
  · intro w'
    go_simp
    with_reducible rfl
  rotate_left
  · simp only [Act.put, List.setIfInBounds_toArray, List.set_cons_zero, List.set_cons_succ, i64_w, i32_w]
    rfl
  refine pure_ (i := 16) (N := some 65) (v := ?_) (a' := ?_) #[true, false, false, true, true, true, true, false, true, true, true, true, false, true, true, true, true, false, false, false, false, false, false, false] rfl rfl (by kernel_rfl) (fun _ _ _ h => h) (Or.inl ⟨by rfl, ?_⟩) ?_ ?_
  rotate_left
  · intro w'
    go_simp
    with_reducible rfl
  rotate_left
  · simp only [Act.put, List.setIfInBounds_toArray, List.set_cons_zero, List.set_cons_succ, i64_w, i32_w]
    rfl
  refine take_ (i := 7) (N := some 56) (v := ?_) (a' := ?_) #[true, false, false, true, true, true, true, true, true, true, true, true, false, true, true, true, true, false, false, false, false, false, false, false] rfl rfl (by kernel_rfl) (fun _ _ _ h => h) (Or.inl ⟨by rfl, ?_⟩) hHeld ?_ ?_
  rotate_left
  · rintro w' ⟨s0, s1⟩
    go_simp
    with_reducible rfl
  rotate_left
  · simp only [Act.put, List.setIfInBounds_toArray, List.set_cons_zero, List.set_cons_succ, i64_w, i32_w]
    rfl
  refine take_ (i := 12) (N := some 61) (v := ?_) (a' := ?_) #[true, false, false, true, true, true, true, true, true, true, true, true, true, true, true, true, true, false, false, false, false, false, false, false] rfl rfl (by kernel_rfl) (fun _ _ _ h => h) (Or.inl ⟨by rfl, ?_⟩) hHeld ?_ ?_
  rotate_left
  · rintro w' ⟨s0, s1⟩
    go_simp
    with_reducible rfl
  rotate_left
  · simp only [Act.put, List.setIfInBounds_toArray, List.set_cons_zero, List.set_cons_succ, i64_w, i32_w]
    rfl
  refine take_ (i := 17) (N := some 66) (v := ?_) (a' := ?_) #[true, false, false, true, true, true, true, true, true, true, true, true, true, true, true, true, true, true, false, false, false, false, false, false] rfl rfl (by kernel_rfl) (fun _ _ _ h => h) (Or.inl ⟨by rfl, ?_⟩) hHeld ?_ ?_
  rotate_left
  · rintro w' ⟨s0, s1⟩
    go_simp
    with_reducible rfl
  rotate_left
  · simp only [Act.put, List.setIfInBounds_toArray, List.set_cons_zero, List.set_cons_succ, i64_w, i32_w]
    rfl
  refine pure_ (i := 18) (N := some 67) (v := ?_) (a' := ?_) #[true, false, false, true, true, true, true, true, true, true, true, true, true, true, true, true, true, true, true, false, false, false, false, false] rfl rfl (by kernel_rfl) (fun _ _ _ h => h) (Or.inl ⟨by rfl, ?_⟩) ?_ ?_
  rotate_left
  · intro w'
    go_simp
    with_reducible rfl
  rotate_left
  · simp only [Act.put, List.setIfInBounds_toArray, List.set_cons_zero, List.set_cons_succ, i64_w, i32_w]
    rfl
  refine pure_ (i := 19) (N := some 68) (v := ?_) (a' := ?_) #[true, false, false, true, true, true, true, true, true, true, true, true, true, true, true, true, true, true, true, true, false, false, false, false] rfl rfl (by kernel_rfl) (fun _ _ _ h => h) (Or.inl ⟨by rfl, ?_⟩) ?_ ?_
  rotate_left
  · intro w'
    go_simp
    with_reducible rfl
  rotate_left
  · simp only [Act.put, List.setIfInBounds_toArray, List.set_cons_zero, List.set_cons_succ, i64_w, i32_w]
    rfl
  refine one_ (i := 1) (N := some 50) #[true, true, false, true, true, true, true, true, true, true, true, true, true, true, true, true, true, true, true, true, false, false, false, false] rfl rfl (by kernel_rfl) (by decide) (fun K hK => ?_)
  refine goes_ Tryd.func63 (by kernel_rfl) rfl #[.string ⟨#[40, 41, 59]⟩, .int .u8 (bt s (i : Int))] (by rfl) rfl rfl (by simp only [List.map_toArray, List.map_cons, List.map_nil]; rfl) ?_
  with_reducible refine (HQ.out _).mono ?_
  rintro e w' ⟨rfl, rfl⟩
  refine ⟨_, rfl, ?_⟩
  refine hK.out _ _ ⟨hHeld.1, hHeld.2⟩ (fun hHeld => ?_)
  clear hK K
  refine norm_ (a' := ?_) ?_ ?_
  rotate_left
  · show Act.put _ (some 50) _ = _
    simp only [Act.put, List.setIfInBounds_toArray, List.set_cons_zero, List.set_cons_succ, i64_w, i32_w]
    rfl
  refine pure_ (i := 2) (N := some 51) (v := ?_) (a' := ?_) #[true, true, true, true, true, true, true, true, true, true, true, true, true, true, true, true, true, true, true, true, false, false, false, false] rfl rfl (by kernel_rfl) (fun _ _ _ h => h) (Or.inl ⟨by rfl, ?_⟩) ?_ ?_
  rotate_left
  · intro w'
    go_simp
    with_reducible rfl
  rotate_left
  · simp only [Act.put, List.setIfInBounds_toArray, List.set_cons_zero, List.set_cons_succ, i64_w, i32_w]
    rfl
  refine pure_ (i := 20) (N := some 69) (v := ?_) (a' := ?_) #[true, true, true, true, true, true, true, true, true, true, true, true, true, true, true, true, true, true, true, true, true, false, false, false] rfl rfl (by kernel_rfl) (fun _ _ _ h => h) (Or.inl ⟨by rfl, ?_⟩) ?_ ?_
  rotate_left
  · intro w'
    go_simp
    with_reducible rfl
  rotate_left
  · simp only [Act.put, List.setIfInBounds_toArray, List.set_cons_zero, List.set_cons_succ, i64_w, i32_w]
    rfl
  refine one_ (i := 21) (N := none) #[true, true, true, true, true, true, true, true, true, true, true, true, true, true, true, true, true, true, true, true, true, true, false, false] rfl rfl (by kernel_rfl) (by decide) (fun K hK => ?_)
  refine skip_ (w1 := ?_) (by rfl) rfl ?_ ?_
  rotate_left
  · go_simp
    rfl
  refine hK.out _ _ ⟨(Blk.c0 (blk_far (blk_drew HB1.out) (Ne.symm hne) _)), (Blk.c1 (blk_far (blk_drew HB1.out) (Ne.symm hne) _))⟩ (fun hHeld => ?_)
  clear hK K
  refine pure_ (i := 22) (N := some 70) (v := ?_) (a' := ?_) #[true, true, true, true, true, true, true, true, true, true, true, true, true, true, true, true, true, true, true, true, true, true, true, false] rfl rfl (by kernel_rfl) (fun _ _ _ h => h) (Or.inl ⟨by rfl, ?_⟩) ?_ ?_
  rotate_left
  · intro w'
    go_simp
    with_reducible rfl
  rotate_left
  · simp only [Act.put, List.setIfInBounds_toArray, List.set_cons_zero, List.set_cons_succ, i64_w, i32_w]
    rfl
  refine one_ (i := 23) (N := none) #[true, true, true, true, true, true, true, true, true, true, true, true, true, true, true, true, true, true, true, true, true, true, true, true] rfl rfl (by kernel_rfl) (by decide) (fun K hK => ?_)
  refine skip_ (w1 := ?_) (by rfl) rfl ?_ ?_
  rotate_left
  · go_simp
    rfl
  refine hK.out _ _ ⟨(Blk.c0 (blk_far (blk_far (blk_drew HB1.out) (Ne.symm hne) _) (Ne.symm hne) _)), (Blk.c1 (blk_far (blk_far (blk_drew HB1.out) (Ne.symm hne) _) (Ne.symm hne) _))⟩ (fun hHeld => ?_)
  clear hK K
  refine done_ (by kernel_rfl) ?_

  clear hz3 hz4 hz5 hz6 hz7
  go_wp2
  simp only [show wrap64 4 = (4 : Int) from by unfold wrap64; omega]
  have hT3 : ((((W1.setCell ⟨w.heap.size, 0, none⟩ (.int .i64 4)).setCell ⟨w.heap.size, 2, none⟩ (.string (s.extract i (i + 1)))).setCell ⟨g, 1, none⟩ (.int .i64 ((i : Int) + 1))).drew).heap[w.heap.size]? = some (.cells #[.int .i64 4, .int .i64 i, .string (s.extract i (i + 1))] 40 (0, 0)) :=
    blk_drew (blk_far (blk_put (blk_put HT1.out 0 (.int .i64 4) rfl) 2 (.string (s.extract i (i + 1))) rfl) hne _)
  have hB3 : Blk ((((W1.setCell ⟨w.heap.size, 0, none⟩ (.int .i64 4)).setCell ⟨w.heap.size, 2, none⟩ (.string (s.extract i (i + 1)))).setCell ⟨g, 1, none⟩ (.int .i64 ((i : Int) + 1))).drew) g s ((i : Int) + 1) L := blk_drew (Blk.at1 (blk_far (blk_far HB1.out (Ne.symm hne) _) (Ne.symm hne) _) _)
  have hO3 : Kd.R k40 40 ((((W1.setCell ⟨w.heap.size, 0, none⟩ (.int .i64 4)).setCell ⟨w.heap.size, 2, none⟩ (.string (s.extract i (i + 1)))).setCell ⟨g, 1, none⟩ (.int .i64 ((i : Int) + 1))).drew) base (fun k => k ≠ g) L ts :=
    Kd.R_mono (Kd.R_drew (Kd.R_far (Kd.R_far (Kd.R_far HO1.out (p := ⟨w.heap.size, 0, none⟩) (fun k hk => hk.2) _) (p := ⟨w.heap.size, 2, none⟩) (fun k hk => hk.2) _) (p := ⟨g, 1, none⟩) (fun k hk => hk.1) _)) (fun k hk => hk.1)
  have hW3 : Below base w ((((W1.setCell ⟨w.heap.size, 0, none⟩ (.int .i64 4)).setCell ⟨w.heap.size, 2, none⟩ (.string (s.extract i (i + 1)))).setCell ⟨g, 1, none⟩ (.int .i64 ((i : Int) + 1))).drew) := (((HW1.out.setCell (by simp; omega) _).setCell (by simp; omega) _).setCell (by simpa using hbase) _).drew
  clear t0 t2 tf0 tf2 d0 d1 df1 hne
  generalize ((((W1.setCell ⟨w.heap.size, 0, none⟩ (.int .i64 4)).setCell ⟨w.heap.size, 2, none⟩ (.string (s.extract i (i + 1)))).setCell ⟨g, 1, none⟩ (.int .i64 ((i : Int) + 1))).drew) = W3 at hT3 hB3 hO3 hW3 ⊢
  have HT3 := Aside0.mk hT3
  have HB3 := Aside0.mk hB3
  have HO3 := Aside0.mk hO3
  have HW3 := Aside0.mk hW3
  have t0 := (blk_cell hT3 0).trans rfl
  have t1 := (blk_cell hT3 1).trans rfl
  have t2 := (blk_cell hT3 2).trans rfl
  have d2 := hB3.c2
  have df := hB3.fr 2
  have hg3 := blk_lt hB3
  have hb3 := blk_lt hT3
  have hne : g ≠ w.heap.size := by omega
  clear hT3 hB3 hO3 hW3
  have hbase3 : base ≤ W3.heap.size := by omega
  go_region_law ((refine app_tok base g (by rfl) (.tmp 84) (.tmp 86) rfl L ts (⟨4, i, s.extract i (i + 1)⟩ : Tk) ?aV ?aX ?aG ?aO ?aS ?aL ?_; (case aV => first | rfl | (simp [Act.eval])); (case aX => first | rfl | (simp [Act.eval])); (case aG => exact hg3); (case aO => exact HO3.out); (case aS => exact hbase3); (case aL => omega); intro v1 w1 ho hb1 hg1; obtain ⟨A1, k1, e1⟩ := Kd.R_slice ho; subst e1; have hB4 : Blk w1 g s ((i : Int) + 1) L := blk_grown (blk_drew HB3.out) hg1 (Kd.R_away HO3.out (fun k hk => hk)); have f1' := hB4.fr 2; have c2' := hB4.c2; have HO4 := Aside0.mk ho; have HB4 := Aside0.mk hB4; have HW4 := Aside0.mk (HW3.out.trans hb1); clear ho hb1 hg1 hB4))
  all_goals
    go_wp2
    go_ret
    refine ⟨rfl, _, ?_, Kd.R_far HO4.out (fun k hk => hk) _, HW4.out.setCell (by simp; omega) _⟩
    have := blk_set HB4.out 2 (.slice A1 (ts ++ [(⟨4, i, s.extract i (i + 1)⟩ : Tk)]).length k1)
    simpa [Blk] using this
set_option maxHeartbeats 4000000 in
set_option maxRecDepth 100000 in
theorem token_p59 (s : ByteArray) (i : Nat) (L : Value) (ts : List Tk) (g base : Nat) (w : World) (hs : s.size ≤ 140737488351232) (hi : i < s.size) (hb : Blk w g s i L)
    (hO : Kd.R k40 40 w base (fun k => k ≠ g) L ts) (hbase : base ≤ g) (hts : ts.length ≤ 1000000000) (hl : pLetter (bt s i) = false) (q : bt s (i : Int) = 59) :
    Calls Tryd.prog 37 #[.pointer (some ⟨g, 0, none⟩)] w fun e w' =>
      e = .returned (.bool true) ∧ ∃ L', Blk w' g s ((i : Int) + 1) L' ∧ Kd.R k40 40 w' base (fun k => k ≠ g) L' (ts ++ [⟨5, i, s.extract i (i + 1)⟩]) ∧ Below base w w' := by
  have hg := blk_lt hb
  have c0 := hb.c0
  have c1 := hb.c1
  have hr := bt_range s (i : Int)
  have HLT := Aside0.mk (show ∀ W : World, Calls Tryd.prog 60 #[.int .u8 (bt s (i : Int))] W fun e w' => e = .returned (.bool false) ∧ Drawn0 W w' from fun W => lex_letter.calls _ _ W ((pLetter_some _ hr.1 hr.2).trans (by rw [hl])))
  have hlt2 : (i : Int) < (s.size : Int) := by omega
  have hx : ∀ h : i < s.size, ((s[i]'h).toNat : Int) = bt s (i : Int) := fun h => bt_at s (i : Int) h
  have b34 : (bt s (i : Int) == 34) = false := by rw [q]; rfl
  have b40 : (bt s (i : Int) == 40) = false := by rw [q]; rfl
  have b41 : (bt s (i : Int) == 41) = false := by rw [q]; rfl
  have b59 : (bt s (i : Int) == 59) = true := by rw [q]; rfl
  have HQ := Aside0.mk (show ∀ W : World, Calls Tryd.prog 63 #[.string ⟨#[40, 41, 59]⟩, .int .u8 (bt s (i : Int))] W fun e w' => e = .returned (.int .i64 2) ∧ w' = W from fun W => by rw [q]; exact Tryd.strings_IndexByte _ _ W)
  clear q
  have HB := Aside0.mk hb
  have HS := Aside0.mk hs
  have HO := Aside0.mk hO
  have HG0 := Aside0.mk hg
  have hu := Tryd.underlying40
  clear hb hO hl
  go_enter Tryd.func37, Tryd.ntmps37
  go_wp2
  go_quiet (fail)
  go_wp2_with fail
  refine (HLT.out _).mono ?_
  rintro e w' ⟨rfl, ⟨n, rfl⟩⟩
  have hne : w.heap.size ≠ g := by omega
  have hz1 : (i : Int) ≤ (i : Int) + 1 := by omega
  have hz2 : (i : Int) + 1 ≤ (s.size : Int) := by omega
  go_wp2
  have hT1 : ((w.alloc (.cells #[.int .i64 0, .int .i64 i, .string ⟨#[]⟩] 40)).drewN (nq + n)).heap[w.heap.size]? = some (.cells #[.int .i64 0, .int .i64 i, .string ⟨#[]⟩] 40 (0, 0)) := blk_drewN (blk_new w _) _
  have hb1 : Blk ((w.alloc (.cells #[.int .i64 0, .int .i64 i, .string ⟨#[]⟩] 40)).drewN (nq + n)) g s i L := blk_drewN (blk_alloc HB.out _) _
  have ho1 : Kd.R k40 40 ((w.alloc (.cells #[.int .i64 0, .int .i64 i, .string ⟨#[]⟩] 40)).drewN (nq + n)) base (fun k => k ≠ g ∧ k ≠ w.heap.size) L ts := Kd.R_mono (Kd.R_drewN (Kd.R_alloc (Kd.R_bound HO.out) _) _) (fun k hk => ⟨hk.1, Nat.ne_of_lt hk.2.2.1⟩)
  have hw1 : Below base w ((w.alloc (.cells #[.int .i64 0, .int .i64 i, .string ⟨#[]⟩] 40)).drewN (nq + n)) := (pw_below_drewN (below_alloc (Below.refl w.heap.size w) _) _).mono (by omega)
  generalize ((w.alloc (.cells #[.int .i64 0, .int .i64 i, .string ⟨#[]⟩] 40)).drewN (nq + n)) = W1 at hT1 hb1 ho1 hw1 ⊢
  clear c0 c1
  have d0 := hb1.c0
  have d1 := hb1.c1
  have df1 := hb1.fr 1
  have t0 := (blk_cell hT1 0).trans rfl
  have t2 := (blk_cell hT1 2).trans rfl
  have tf0 := blk_frozen hT1 0
  have tf2 := blk_frozen hT1 2
  have HT1 := Aside0.mk hT1
  have HB1 := Aside0.mk hb1
  have HO1 := Aside0.mk ho1
  have HW1 := Aside0.mk hw1
  clear hT1 hb1 ho1 hw1
  have hz3 : i ≤ i + 1 := by omega
  have hz4 : i + 1 ≤ s.size := by omega
  have hz5 : (0 : Int) ≤ (i : Int) + 1 := by omega
  have hz6 : ((i : Int) + 1).toNat = i + 1 := by omega
  have hz7 : IntKind.i64.wrap ((i : Int) + 1) = (i : Int) + 1 := IntWalk.i64_in _ (by omega)
  refine start_ (n := 24) (S := fun w' => w'.cell? ⟨g, 0, none⟩ = some (.string s) ∧ w'.cell? ⟨g, 1, none⟩ = some (.int .i64 i)) (ds := []) #[false, false, false, false, false, false, false, false, false, false, false, false, false, false, false, false, false, false, false, false, false, false, false, false] (by kernel_rfl) rfl rfl ⟨d0, d1⟩ (fun hHeld => ?_)
  refine pure_ (i := 0) (N := some 49) (v := ?_) (a' := ?_) #[true, false, false, false, false, false, false, false, false, false, false, false, false, false, false, false, false, false, false, false, false, false, false, false] rfl rfl (by kernel_rfl) (fun _ _ _ h => h) (Or.inl ⟨by rfl, ?_⟩) ?_ ?_
  rotate_left
  · intro w'
    go_simp
    with_reducible rfl
  rotate_left
  · simp only [Act.put, List.setIfInBounds_toArray, List.set_cons_zero, List.set_cons_succ, i64_w, i32_w]
    rfl
  refine pure_ (i := 3) (N := some 52) (v := ?_) (a' := ?_) #[true, false, false, true, false, false, false, false, false, false, false, false, false, false, false, false, false, false, false, false, false, false, false, false] rfl rfl (by kernel_rfl) (fun _ _ _ h => h) (Or.inl ⟨by rfl, ?_⟩) ?_ ?_
  rotate_left
  · intro w'
    go_simp
    with_reducible rfl
  rotate_left
  · simp only [Act.put, List.setIfInBounds_toArray, List.set_cons_zero, List.set_cons_succ, i64_w, i32_w]
    rfl
  refine pure_ (i := 4) (N := some 53) (v := ?_) (a' := ?_) #[true, false, false, true, true, false, false, false, false, false, false, false, false, false, false, false, false, false, false, false, false, false, false, false] rfl rfl (by kernel_rfl) (fun _ _ _ h => h) (Or.inl ⟨by rfl, ?_⟩) ?_ ?_
  rotate_left
  · intro w'
    go_simp
    with_reducible rfl
  rotate_left
  · simp only [Act.put, List.setIfInBounds_toArray, List.set_cons_zero, List.set_cons_succ, i64_w, i32_w]
    rfl
  refine pure_ (i := 5) (N := some 54) (v := ?_) (a' := ?_) #[true, false, false, true, true, true, false, false, false, false, false, false, false, false, false, false, false, false, false, false, false, false, false, false] rfl rfl (by kernel_rfl) (fun _ _ _ h => h) (Or.inl ⟨by rfl, ?_⟩) ?_ ?_
  rotate_left
  · intro w'
    go_simp
    with_reducible rfl
  rotate_left
  · simp only [Act.put, List.setIfInBounds_toArray, List.set_cons_zero, List.set_cons_succ, i64_w, i32_w]
    rfl
  refine pure_ (i := 6) (N := some 55) (v := ?_) (a' := ?_) #[true, false, false, true, true, true, true, false, false, false, false, false, false, false, false, false, false, false, false, false, false, false, false, false] rfl rfl (by kernel_rfl) (fun _ _ _ h => h) (Or.inl ⟨by rfl, ?_⟩) ?_ ?_
  rotate_left
  · intro w'
    go_simp
    with_reducible rfl
  rotate_left
  · simp only [Act.put, List.setIfInBounds_toArray, List.set_cons_zero, List.set_cons_succ, i64_w, i32_w]
    rfl
  refine pure_ (i := 8) (N := some 57) (v := ?_) (a' := ?_) #[true, false, false, true, true, true, true, false, true, false, false, false, false, false, false, false, false, false, false, false, false, false, false, false] rfl rfl (by kernel_rfl) (fun _ _ _ h => h) (Or.inl ⟨by rfl, ?_⟩) ?_ ?_
  rotate_left
  · intro w'
    go_simp
    with_reducible rfl
  rotate_left
  · simp only [Act.put, List.setIfInBounds_toArray, List.set_cons_zero, List.set_cons_succ, i64_w, i32_w]
    rfl
  refine pure_ (i := 9) (N := some 58) (v := ?_) (a' := ?_) #[true, false, false, true, true, true, true, false, true, true, false, false, false, false, false, false, false, false, false, false, false, false, false, false] rfl rfl (by kernel_rfl) (fun _ _ _ h => h) (Or.inl ⟨by rfl, ?_⟩) ?_ ?_
  rotate_left
  · intro w'
    go_simp
    with_reducible rfl
  rotate_left
  · simp only [Act.put, List.setIfInBounds_toArray, List.set_cons_zero, List.set_cons_succ, i64_w, i32_w]
    rfl
  refine pure_ (i := 10) (N := some 59) (v := ?_) (a' := ?_) #[true, false, false, true, true, true, true, false, true, true, true, false, false, false, false, false, false, false, false, false, false, false, false, false] rfl rfl (by kernel_rfl) (fun _ _ _ h => h) (Or.inl ⟨by rfl, ?_⟩) ?_ ?_
  rotate_left
  · intro w'
    go_simp
    with_reducible rfl
  rotate_left
  · simp only [Act.put, List.setIfInBounds_toArray, List.set_cons_zero, List.set_cons_succ, i64_w, i32_w]
    rfl
  refine pure_ (i := 11) (N := some 60) (v := ?_) (a' := ?_) #[true, false, false, true, true, true, true, false, true, true, true, true, false, false, false, false, false, false, false, false, false, false, false, false] rfl rfl (by kernel_rfl) (fun _ _ _ h => h) (Or.inl ⟨by rfl, ?_⟩) ?_ ?_
  rotate_left
  · intro w'
    go_simp
    with_reducible rfl
  rotate_left
  · simp only [Act.put, List.setIfInBounds_toArray, List.set_cons_zero, List.set_cons_succ, i64_w, i32_w]
    rfl
  refine pure_ (i := 13) (N := some 62) (v := ?_) (a' := ?_) #[true, false, false, true, true, true, true, false, true, true, true, true, false, true, false, false, false, false, false, false, false, false, false, false] rfl rfl (by kernel_rfl) (fun _ _ _ h => h) (Or.inl ⟨by rfl, ?_⟩) ?_ ?_
  rotate_left
  · intro w'
    go_simp
    with_reducible rfl
  rotate_left
  · simp only [Act.put, List.setIfInBounds_toArray, List.set_cons_zero, List.set_cons_succ, i64_w, i32_w]
    rfl
  refine pure_ (i := 14) (N := some 63) (v := ?_) (a' := ?_) #[true, false, false, true, true, true, true, false, true, true, true, true, false, true, true, false, false, false, false, false, false, false, false, false] rfl rfl (by kernel_rfl) (fun _ _ _ h => h) (Or.inl ⟨by rfl, ?_⟩) ?_ ?_
  rotate_left
  · intro w'
    go_simp
    with_reducible rfl
  rotate_left
  · simp only [Act.put, List.setIfInBounds_toArray, List.set_cons_zero, List.set_cons_succ, i64_w, i32_w]
    rfl
  refine pure_ (i := 15) (N := some 64) (v := ?_) (a' := ?_) #[true, false, false, true, true, true, true, false, true, true, true, true, false, true, true, true, false, false, false, false, false, false, false, false] rfl rfl (by kernel_rfl) (fun _ _ _ h => h) (Or.inl ⟨by rfl, ?_⟩) ?_ ?_
  rotate_left
  · intro w'
    go_simp
    with_reducible rfl
  rotate_left
  · simp only [Act.put, List.setIfInBounds_toArray, List.set_cons_zero, List.set_cons_succ, i64_w, i32_w]
    rfl
  refine pure_ (i := 16) (N := some 65) (v := ?_) (a' := ?_) #[true, false, false, true, true, true, true, false, true, true, true, true, false, true, true, true, true, false, false, false, false, false, false, false] rfl rfl (by kernel_rfl) (fun _ _ _ h => h) (Or.inl ⟨by rfl, ?_⟩) ?_ ?_
  rotate_left
  · intro w'
    go_simp
    with_reducible rfl
  rotate_left
  · simp only [Act.put, List.setIfInBounds_toArray, List.set_cons_zero, List.set_cons_succ, i64_w, i32_w]
    rfl
  refine take_ (i := 7) (N := some 56) (v := ?_) (a' := ?_) #[true, false, false, true, true, true, true, true, true, true, true, true, false, true, true, true, true, false, false, false, false, false, false, false] rfl rfl (by kernel_rfl) (fun _ _ _ h => h) (Or.inl ⟨by rfl, ?_⟩) hHeld ?_ ?_
  rotate_left
  · rintro w' ⟨s0, s1⟩
    go_simp
    with_reducible rfl
  rotate_left
  · simp only [Act.put, List.setIfInBounds_toArray, List.set_cons_zero, List.set_cons_succ, i64_w, i32_w]
    rfl
  refine take_ (i := 12) (N := some 61) (v := ?_) (a' := ?_) #[true, false, false, true, true, true, true, true, true, true, true, true, true, true, true, true, true, false, false, false, false, false, false, false] rfl rfl (by kernel_rfl) (fun _ _ _ h => h) (Or.inl ⟨by rfl, ?_⟩) hHeld ?_ ?_
  rotate_left
  · rintro w' ⟨s0, s1⟩
    go_simp
    with_reducible rfl
  rotate_left
  · simp only [Act.put, List.setIfInBounds_toArray, List.set_cons_zero, List.set_cons_succ, i64_w, i32_w]
    rfl
  refine take_ (i := 17) (N := some 66) (v := ?_) (a' := ?_) #[true, false, false, true, true, true, true, true, true, true, true, true, true, true, true, true, true, true, false, false, false, false, false, false] rfl rfl (by kernel_rfl) (fun _ _ _ h => h) (Or.inl ⟨by rfl, ?_⟩) hHeld ?_ ?_
  rotate_left
  · rintro w' ⟨s0, s1⟩
    go_simp
    with_reducible rfl
  rotate_left
  · simp only [Act.put, List.setIfInBounds_toArray, List.set_cons_zero, List.set_cons_succ, i64_w, i32_w]
    rfl
  refine pure_ (i := 18) (N := some 67) (v := ?_) (a' := ?_) #[true, false, false, true, true, true, true, true, true, true, true, true, true, true, true, true, true, true, true, false, false, false, false, false] rfl rfl (by kernel_rfl) (fun _ _ _ h => h) (Or.inl ⟨by rfl, ?_⟩) ?_ ?_
  rotate_left
  · intro w'
    go_simp
    with_reducible rfl
  rotate_left
  · simp only [Act.put, List.setIfInBounds_toArray, List.set_cons_zero, List.set_cons_succ, i64_w, i32_w]
    rfl
  refine pure_ (i := 19) (N := some 68) (v := ?_) (a' := ?_) #[true, false, false, true, true, true, true, true, true, true, true, true, true, true, true, true, true, true, true, true, false, false, false, false] rfl rfl (by kernel_rfl) (fun _ _ _ h => h) (Or.inl ⟨by rfl, ?_⟩) ?_ ?_
  rotate_left
  · intro w'
    go_simp
    with_reducible rfl
  rotate_left
  · simp only [Act.put, List.setIfInBounds_toArray, List.set_cons_zero, List.set_cons_succ, i64_w, i32_w]
    rfl
  refine one_ (i := 1) (N := some 50) #[true, true, false, true, true, true, true, true, true, true, true, true, true, true, true, true, true, true, true, true, false, false, false, false] rfl rfl (by kernel_rfl) (by decide) (fun K hK => ?_)
  refine goes_ Tryd.func63 (by kernel_rfl) rfl #[.string ⟨#[40, 41, 59]⟩, .int .u8 (bt s (i : Int))] (by rfl) rfl rfl (by simp only [List.map_toArray, List.map_cons, List.map_nil]; rfl) ?_
  with_reducible refine (HQ.out _).mono ?_
  rintro e w' ⟨rfl, rfl⟩
  refine ⟨_, rfl, ?_⟩
  refine hK.out _ _ ⟨hHeld.1, hHeld.2⟩ (fun hHeld => ?_)
  clear hK K
  refine norm_ (a' := ?_) ?_ ?_
  rotate_left
  · show Act.put _ (some 50) _ = _
    simp only [Act.put, List.setIfInBounds_toArray, List.set_cons_zero, List.set_cons_succ, i64_w, i32_w]
    rfl
  refine pure_ (i := 2) (N := some 51) (v := ?_) (a' := ?_) #[true, true, true, true, true, true, true, true, true, true, true, true, true, true, true, true, true, true, true, true, false, false, false, false] rfl rfl (by kernel_rfl) (fun _ _ _ h => h) (Or.inl ⟨by rfl, ?_⟩) ?_ ?_
  rotate_left
  · intro w'
    go_simp
    with_reducible rfl
  rotate_left
  · simp only [Act.put, List.setIfInBounds_toArray, List.set_cons_zero, List.set_cons_succ, i64_w, i32_w]
    rfl
  refine pure_ (i := 20) (N := some 69) (v := ?_) (a' := ?_) #[true, true, true, true, true, true, true, true, true, true, true, true, true, true, true, true, true, true, true, true, true, false, false, false] rfl rfl (by kernel_rfl) (fun _ _ _ h => h) (Or.inl ⟨by rfl, ?_⟩) ?_ ?_
  rotate_left
  · intro w'
    go_simp
    with_reducible rfl
  rotate_left
  · simp only [Act.put, List.setIfInBounds_toArray, List.set_cons_zero, List.set_cons_succ, i64_w, i32_w]
    rfl
  refine one_ (i := 21) (N := none) #[true, true, true, true, true, true, true, true, true, true, true, true, true, true, true, true, true, true, true, true, true, true, false, false] rfl rfl (by kernel_rfl) (by decide) (fun K hK => ?_)
  refine skip_ (w1 := ?_) (by rfl) rfl ?_ ?_
  rotate_left
  · go_simp
    rfl
  refine hK.out _ _ ⟨(Blk.c0 (blk_far (blk_drew HB1.out) (Ne.symm hne) _)), (Blk.c1 (blk_far (blk_drew HB1.out) (Ne.symm hne) _))⟩ (fun hHeld => ?_)
  clear hK K
  refine pure_ (i := 22) (N := some 70) (v := ?_) (a' := ?_) #[true, true, true, true, true, true, true, true, true, true, true, true, true, true, true, true, true, true, true, true, true, true, true, false] rfl rfl (by kernel_rfl) (fun _ _ _ h => h) (Or.inl ⟨by rfl, ?_⟩) ?_ ?_
  rotate_left
  · intro w'
    go_simp
    with_reducible rfl
  rotate_left
  · simp only [Act.put, List.setIfInBounds_toArray, List.set_cons_zero, List.set_cons_succ, i64_w, i32_w]
    rfl
  refine one_ (i := 23) (N := none) #[true, true, true, true, true, true, true, true, true, true, true, true, true, true, true, true, true, true, true, true, true, true, true, true] rfl rfl (by kernel_rfl) (by decide) (fun K hK => ?_)
  refine skip_ (w1 := ?_) (by rfl) rfl ?_ ?_
  rotate_left
  · go_simp
    rfl
  refine hK.out _ _ ⟨(Blk.c0 (blk_far (blk_far (blk_drew HB1.out) (Ne.symm hne) _) (Ne.symm hne) _)), (Blk.c1 (blk_far (blk_far (blk_drew HB1.out) (Ne.symm hne) _) (Ne.symm hne) _))⟩ (fun hHeld => ?_)
  clear hK K
  refine done_ (by kernel_rfl) ?_

  clear hz3 hz4 hz5 hz6 hz7
  go_wp2
  simp only [show wrap64 5 = (5 : Int) from by unfold wrap64; omega]
  have hT3 : ((((W1.setCell ⟨w.heap.size, 0, none⟩ (.int .i64 5)).setCell ⟨w.heap.size, 2, none⟩ (.string (s.extract i (i + 1)))).setCell ⟨g, 1, none⟩ (.int .i64 ((i : Int) + 1))).drew).heap[w.heap.size]? = some (.cells #[.int .i64 5, .int .i64 i, .string (s.extract i (i + 1))] 40 (0, 0)) :=
    blk_drew (blk_far (blk_put (blk_put HT1.out 0 (.int .i64 5) rfl) 2 (.string (s.extract i (i + 1))) rfl) hne _)
  have hB3 : Blk ((((W1.setCell ⟨w.heap.size, 0, none⟩ (.int .i64 5)).setCell ⟨w.heap.size, 2, none⟩ (.string (s.extract i (i + 1)))).setCell ⟨g, 1, none⟩ (.int .i64 ((i : Int) + 1))).drew) g s ((i : Int) + 1) L := blk_drew (Blk.at1 (blk_far (blk_far HB1.out (Ne.symm hne) _) (Ne.symm hne) _) _)
  have hO3 : Kd.R k40 40 ((((W1.setCell ⟨w.heap.size, 0, none⟩ (.int .i64 5)).setCell ⟨w.heap.size, 2, none⟩ (.string (s.extract i (i + 1)))).setCell ⟨g, 1, none⟩ (.int .i64 ((i : Int) + 1))).drew) base (fun k => k ≠ g) L ts :=
    Kd.R_mono (Kd.R_drew (Kd.R_far (Kd.R_far (Kd.R_far HO1.out (p := ⟨w.heap.size, 0, none⟩) (fun k hk => hk.2) _) (p := ⟨w.heap.size, 2, none⟩) (fun k hk => hk.2) _) (p := ⟨g, 1, none⟩) (fun k hk => hk.1) _)) (fun k hk => hk.1)
  have hW3 : Below base w ((((W1.setCell ⟨w.heap.size, 0, none⟩ (.int .i64 5)).setCell ⟨w.heap.size, 2, none⟩ (.string (s.extract i (i + 1)))).setCell ⟨g, 1, none⟩ (.int .i64 ((i : Int) + 1))).drew) := (((HW1.out.setCell (by simp; omega) _).setCell (by simp; omega) _).setCell (by simpa using hbase) _).drew
  clear t0 t2 tf0 tf2 d0 d1 df1 hne
  generalize ((((W1.setCell ⟨w.heap.size, 0, none⟩ (.int .i64 5)).setCell ⟨w.heap.size, 2, none⟩ (.string (s.extract i (i + 1)))).setCell ⟨g, 1, none⟩ (.int .i64 ((i : Int) + 1))).drew) = W3 at hT3 hB3 hO3 hW3 ⊢
  have HT3 := Aside0.mk hT3
  have HB3 := Aside0.mk hB3
  have HO3 := Aside0.mk hO3
  have HW3 := Aside0.mk hW3
  have t0 := (blk_cell hT3 0).trans rfl
  have t1 := (blk_cell hT3 1).trans rfl
  have t2 := (blk_cell hT3 2).trans rfl
  have d2 := hB3.c2
  have df := hB3.fr 2
  have hg3 := blk_lt hB3
  have hb3 := blk_lt hT3
  have hne : g ≠ w.heap.size := by omega
  clear hT3 hB3 hO3 hW3
  have hbase3 : base ≤ W3.heap.size := by omega
  go_region_law ((refine app_tok base g (by rfl) (.tmp 84) (.tmp 86) rfl L ts (⟨5, i, s.extract i (i + 1)⟩ : Tk) ?aV ?aX ?aG ?aO ?aS ?aL ?_; (case aV => first | rfl | (simp [Act.eval])); (case aX => first | rfl | (simp [Act.eval])); (case aG => exact hg3); (case aO => exact HO3.out); (case aS => exact hbase3); (case aL => omega); intro v1 w1 ho hb1 hg1; obtain ⟨A1, k1, e1⟩ := Kd.R_slice ho; subst e1; have hB4 : Blk w1 g s ((i : Int) + 1) L := blk_grown (blk_drew HB3.out) hg1 (Kd.R_away HO3.out (fun k hk => hk)); have f1' := hB4.fr 2; have c2' := hB4.c2; have HO4 := Aside0.mk ho; have HB4 := Aside0.mk hB4; have HW4 := Aside0.mk (HW3.out.trans hb1); clear ho hb1 hg1 hB4))
  all_goals
    go_wp2
    go_ret
    refine ⟨rfl, _, ?_, Kd.R_far HO4.out (fun k hk => hk) _, HW4.out.setCell (by simp; omega) _⟩
    have := blk_set HB4.out 2 (.slice A1 (ts ++ [(⟨5, i, s.extract i (i + 1)⟩ : Tk)]).length k1)
    simpa [Blk] using this
end Go.Proofs.YtngedmioeodmfaaDoor.Lx
namespace Go.Proofs.YtngedmioeodmfaaDoor.Lx
open Go.RowKit Go.Proofs.YtngedmioeodmfaaDoor.Pr Go.Proofs.YtngedmioeodmfaaDoorW.PrintWords Go.Proofs.YtngedmioeodmfaaDoorW.PrintLast Go.Proofs.YtngedmioeodmfaaDoorW.PrintMore
set_option linter.unusedVariables false
set_option linter.unusedSimpArgs false
theorem quo_ge (s : ByteArray) : ∀ d i out, i ≤ s.size → i ≤ (quo s d i out).2.1 ∧ (quo s d i out).2.1 ≤ s.size := by
  intro d
  induction d with
  | zero => intro i out h; exact ⟨Nat.le_refl _, h⟩
  | succ d ih =>
    intro i out h
    rw [quo]
    repeat' split
    all_goals try (simp only; omega)
    · have := ih (i + 2) (out ++ [bt s ((i + 1 : Nat) : Int)]) (by omega); omega
    · have := ih (i + 1) (out ++ [bt s (i : Int)]) (by omega); omega
theorem letter_word : ∀ c : Fin 256, pLetter (c.val : Int) = true → pWord (c.val : Int) = true := by decide +kernel
theorem wEnd_lt (s : ByteArray) (i : Nat) (h : i < s.size) (hl : pLetter (bt s i) = true) : i < wEnd s i := by
  have hr := bt_range s (i : Int)
  obtain ⟨q, hq⟩ : ∃ q : Fin 256, (q.val : Int) = bt s (i : Int) := ⟨⟨(bt s (i : Int)).toNat, by omega⟩, by simp; omega⟩
  have hw : pWord (bt s (i : Int)) = true := by rw [← hq]; exact letter_word q (by rw [hq]; exact hl)
  have e : wEnd s i = rowEnd s pWord (s.size - (i + 1)) (i + 1) := rowEnd_go s pWord i h hw
  have := rowEnd_le s pWord (s.size - (i + 1)) (i + 1) (by omega)
  omega
theorem tokE_ge (s : ByteArray) (i : Nat) (h : i < s.size) {t : Tk} {j : Nat} {ok : Bool} (e : tokE s i = some (t, j, ok)) : i < j ∧ j ≤ s.size := by
  unfold tokE at e
  split at e
  · rename_i hl
    simp only [Option.some.injEq, Prod.mk.injEq] at e
    obtain ⟨_, rfl, _⟩ := e
    exact ⟨wEnd_lt s i h hl, (wEnd_le s i (by omega)).2⟩
  · split at e
    · simp only [Option.some.injEq, Prod.mk.injEq] at e
      obtain ⟨_, rfl, _⟩ := e
      have := quo_ge s (s.size - (i + 1)) (i + 1) [] (by omega)
      unfold quoE; omega
    · split at e
      · simp only [Option.some.injEq, Prod.mk.injEq] at e
        obtain ⟨_, rfl, _⟩ := e
        omega
      · cases e
/-- The tokens from a place on; the place that offends, if one does. -/
def runF (s : ByteArray) : Nat → Nat → List Tk → List Tk × Option Nat
  | 0, _, ts => (ts, none)
  | d + 1, i, ts =>
    if i < s.size then
      match tokE s i with
      | some (t, j, true) => runF s d (btw s j) (ts ++ [t])
      | some (t, j, false) => (ts ++ [t], some j)
      | none => (ts, some i)
    else (ts, none)
def run (s : ByteArray) (i : Nat) (ts : List Tk) : List Tk × Option Nat := runF s (s.size - i) i ts
theorem runF_more (s : ByteArray) : ∀ d d' i ts, s.size - i ≤ d → s.size - i ≤ d' → runF s d i ts = runF s d' i ts := by
  intro d
  induction d with
  | zero => intro d' i ts h h'; cases d' with
    | zero => rfl
    | succ d' => rw [runF, runF, if_neg (by omega)]
  | succ d ih =>
    intro d' i ts h h'
    cases d' with
    | zero => rw [runF, runF, if_neg (by omega)]
    | succ d' =>
      rw [runF, runF]
      by_cases q : i < s.size
      · rw [if_pos q, if_pos q]
        match e : tokE s i with
        | some (t, j, true) =>
          have hj := tokE_ge s i q e
          have hb := btw_le s j hj.2
          exact ih d' _ _ (by omega) (by omega)
        | some (t, j, false) => rfl
        | none => rfl
      · rw [if_neg q, if_neg q]
theorem run_stop (s : ByteArray) (i : Nat) (ts : List Tk) (h : ¬ i < s.size) : run s i ts = (ts, none) := by
  unfold run; rw [show s.size - i = 0 by omega, runF]
theorem run_go (s : ByteArray) (i : Nat) (ts : List Tk) (h : i < s.size) {t : Tk} {j : Nat} (e : tokE s i = some (t, j, true)) : run s i ts = run s (btw s j) (ts ++ [t]) := by
  have hj := tokE_ge s i h e
  have hb := btw_le s j hj.2
  unfold run
  rw [show s.size - i = (s.size - i - 1) + 1 by omega, runF, if_pos h, e]
  exact runF_more s _ _ _ _ (by omega) (by omega)
theorem run_bad (s : ByteArray) (i : Nat) (ts : List Tk) (h : i < s.size) {t : Tk} {j : Nat} (e : tokE s i = some (t, j, false)) : run s i ts = (ts ++ [t], some j) := by
  unfold run
  rw [show s.size - i = (s.size - i - 1) + 1 by omega, runF, if_pos h, e]
theorem run_none (s : ByteArray) (i : Nat) (ts : List Tk) (h : i < s.size) (e : tokE s i = none) : run s i ts = (ts, some i) := by
  unfold run
  rw [show s.size - i = (s.size - i - 1) + 1 by omega, runF, if_pos h, e]
/-- One call of token, whatever stands there. -/
theorem token_calls (s : ByteArray) (i : Nat) (L : Value) (ts : List Tk) (g base : Nat) (w : World) (hs : s.size ≤ 140737488351232) (hi : i < s.size) (hb : Blk w g s i L)
    (hO : Kd.R k40 40 w base (fun k => k ≠ g) L ts) (hbase : base ≤ g) (hts : ts.length ≤ 1000000000) {t : Tk} {j : Nat} {ok : Bool} (ht : tokE s i = some (t, j, ok)) :
    Calls Tryd.prog 37 #[.pointer (some ⟨g, 0, none⟩)] w fun e w' =>
      e = .returned (.bool ok) ∧ ∃ L', Blk w' g s (j : Nat) L' ∧ Kd.R k40 40 w' base (fun k => k ≠ g) L' (ts ++ [t]) ∧ Below base w w' := by
  unfold tokE at ht
  split at ht
  · rename_i hl
    simp only [Option.some.injEq, Prod.mk.injEq] at ht
    obtain ⟨rfl, rfl, rfl⟩ := ht
    exact token_letter s i L ts g base w hs hi hb hO hbase hts hl
  · rename_i hl
    have hl' : pLetter (bt s (i : Int)) = false := by cases h : pLetter (bt s (i : Int)) with
      | true => exact absurd h hl
      | false => rfl
    split at ht
    · rename_i q
      simp only [Option.some.injEq, Prod.mk.injEq] at ht
      obtain ⟨rfl, rfl, rfl⟩ := ht
      exact token_quote s i L ts g base w hs hi hb hO hbase hts hl' q _ _ _ rfl
    · split at ht
      · rename_i q
        simp only [Option.some.injEq, Prod.mk.injEq] at ht
        obtain ⟨rfl, rfl, rfl⟩ := ht
        have hc : (((i + 1 : Nat)) : Int) = (i : Int) + 1 := by omega
        rw [hc]
        rcases q with q | q | q
        · have := token_p40 s i L ts g base w hs hi hb hO hbase hts hl' q; rw [q]; exact this
        · have := token_p41 s i L ts g base w hs hi hb hO hbase hts hl' q; rw [q]; exact this
        · have := token_p59 s i L ts g base w hs hi hb hO hbase hts hl' q; rw [q]; exact this
      · cases ht
theorem token_nothing (s : ByteArray) (i : Nat) (L : Value) (ts : List Tk) (g base : Nat) (w : World) (hs : s.size ≤ 140737488351232) (hi : i < s.size) (hb : Blk w g s i L)
    (hO : Kd.R k40 40 w base (fun k => k ≠ g) L ts) (hbase : base ≤ g) (hts : ts.length ≤ 1000000000) (ht : tokE s i = none) :
    Calls Tryd.prog 37 #[.pointer (some ⟨g, 0, none⟩)] w fun e w' => e = .returned (.bool false) ∧ Blk w' g s (i : Nat) L ∧ Below base w w' := by
  unfold tokE at ht
  split at ht
  · cases ht
  · rename_i hl
    split at ht
    · cases ht
    · rename_i q34
      split at ht
      · cases ht
      · rename_i q
        exact token_none s i L ts g base w hs hi hb hO hbase hts (by cases h : pLetter (bt s (i : Int)) with
          | true => exact absurd h hl
          | false => rfl) q34 (fun h => q (.inl h)) (fun h => q (.inr (.inl h))) (fun h => q (.inr (.inr h)))
end Go.Proofs.YtngedmioeodmfaaDoor.Lx
namespace Go.Proofs.YtngedmioeodmfaaDoor.Lx
open Go.RowKit Go.Proofs.YtngedmioeodmfaaDoor.Pr Go.Proofs.YtngedmioeodmfaaDoorW.PrintWords Go.Proofs.YtngedmioeodmfaaDoorW.PrintLast Go.Proofs.YtngedmioeodmfaaDoorW.PrintMore
set_option linter.unusedVariables false
set_option linter.unusedSimpArgs false
/-- What Tokens hands back: the tokens, the fault. -/
def tokRes (s : ByteArray) (bad : Int) : List Tk × Int × Int :=
  let r := run s (btw s 0) []
  let b := match r.2 with
    | some j => min bad (j : Int)
    | none => bad
  if b ≤ (s.size : Int) then ([], 8, b) else (r.1, 0, 0)
set_option maxHeartbeats 4000000 in
set_option maxRecDepth 100000 in
theorem tokens_big (s : ByteArray) (w : World) (h : s.size > 3000) :
    Calls Tryd.prog 15 #[.string s] w fun e w' => e = .returned (.tuple #[.slice none 0 0, .agg #[.int .i64 2, .int .i64 0]]) ∧ Below w.heap.size w w' := by
  have h1 : decide (3000 < s.size) = true := decide_eq_true h
  have hu := Tryd.underlying30
  go_enter Tryd.func15, Tryd.ntmps15
  go_wp2
  exact bodyPost_ret (v := .tuple #[.slice none 0 0, .agg #[.int .i64 2, .int .i64 0]]) (by simp [results, Tryd.results15, go_sem]) rfl ⟨rfl, below_alloc (Below.refl _ _) _⟩
set_option maxHeartbeats 4000000 in
set_option maxRecDepth 100000 in
theorem tokens_calls (s : ByteArray) (k : Nat) (bad : Int) (w : World) (hL : Laid w) (h : s.size ≤ 3000) (hw : lex_wrong.f k s = some bad) (r1 : List Tk) (r2 r3 : Int) (hr : tokRes s bad = (r1, r2, r3)) :
    Calls Tryd.prog 15 #[.string s] w fun e w' => ∃ v0_ : Value, e = .returned (.tuple #[v0_, .agg #[.int .i64 r2, .int .i64 r3]]) ∧ Kd.R k40 40 w' w.heap.size (fun _ => True) v0_ r1 ∧ Below w.heap.size w w' := by
  have h1 : decide (3000 < s.size) = false := decide_eq_false (by omega)
  have h1i : decide ((3000 : Int) < (s.size : Int)) = false := decide_eq_false (by omega)
  have h1j : ¬ ((3000 : Int) < (s.size : Int)) := by omega
  have hu := Tryd.underlying30
  have HL := Aside0.mk hL
  have HW := Aside0.mk hw
  have HR := Aside0.mk hr
  have HS := Aside0.mk h
  clear hL hw hr h
  go_enter Tryd.func15, Tryd.ntmps15
  go_wp2_with fail
  refine (lex_wrong.calls k s bad _ ?_ HW.out).mono ?_
  · exact HL.out.below (by exact below_alloc (below_alloc (Below.refl _ _) _) _)
  rintro e w1 ⟨rfl, hb1⟩
  have hF1 : w1.heap[w.heap.size]? = some (.cells #[.int .i64 0, .int .i64 0] 30 (0, 0)) := by
    rw [hb1.block _ (by simp; omega)]
    exact blk_alloc (blk_new w _) _
  have hB1 : Blk w1 (w.heap.size + 1) s (0 : Nat) (.slice none 0 0) := by
    unfold Blk
    rw [hb1.block _ (by simp)]
    have := blk_new (w.alloc (.cells #[.int .i64 0, .int .i64 0] 30)) (.cells #[.string s, .int .i64 0, .slice none 0 0] 79)
    simpa using this
  have hW1 : Below w.heap.size w w1 := Below.trans (below_alloc (below_alloc (Below.refl _ _) _) _) (hb1.mono (by simp; omega))
  clear hb1
  have HB1 := Aside0.mk hB1
  have HF1 := Aside0.mk hF1
  have HW1 := Aside0.mk hW1
  clear hB1 hF1 hW1
  go_wp2_with fail
  refine (between_calls s 0 _ _ _ (by have := HS.out; omega) (Nat.zero_le _) HB1.out).mono ?_
  rintro e w2 ⟨rfl, hb2, hk2⟩
  have HB2 := Aside0.mk hb2
  have HF2 := Aside0.mk (hk2.k.blk HF1.out (by omega) (by simp))
  have HW2 := Aside0.mk (HW1.out.trans (hk2.b.mono (by omega)))
  clear hb2 hk2 HB1 HF1 HW1
  have hRR : tokRes s bad = tokRes s bad := rfl
  obtain ⟨RR, hRun⟩ : ∃ R, run s (btw s 0) [] = R := ⟨_, rfl⟩
  have HRun := Aside0.mk hRun
  clear hRR hRun
  go_wp2_with fail
  have HRun0 := HRun
  go_loopg [5] (s.size) (fun gk v5 w' => ∃ (i : Nat) (ts : List Tk) (L : Value), v5 = .int .i64 bad ∧ Aside0 (i ≤ s.size) ∧ Aside0 (run s i ts = RR) ∧ Aside0 (Blk w' (w.heap.size + 1) s i L) ∧ Aside0 (w'.heap[w.heap.size]? = some (.cells #[.int .i64 0, .int .i64 0] 30 (0, 0))) ∧ Aside0 (Below w.heap.size w w') ∧ Aside0 (Kd.R k40 40 w' (w.heap.size + 1) (fun k => k ≠ w.heap.size + 1) L ts) ∧ Aside0 (ts.length ≤ i) ∧ Aside0 (s.size - i ≤ gk))
  case atStart =>
    have hbl := btw_le s 0 (Nat.zero_le _)
    exact ⟨btw s 0, [], _, rfl, ⟨hbl.2⟩, HRun, HB2, HF2, HW2, ⟨Kd.R_nil _ _ _ _ _⟩, ⟨Nat.zero_le _⟩, ⟨by omega⟩⟩
  case round =>
    clear HRun HB2 HF2 HW2
    obtain ⟨i, ts, L, rfl, Hi, HRun, HB, HF, HW2, HO, HLn, HG⟩ := hrel
    have hi := Hi.out
    have c0 := HB.out.c0
    have c1 := HB.out.c1
    by_cases hlt : i < s.size
    · have e1 : decide (s.size ≤ i) = false := decide_eq_false (by omega)
      have e1i : decide ((s.size : Int) ≤ (i : Int)) = false := decide_eq_false (by omega)
      match htk : tokE s i with
      | none =>
        have hst := run_none s i ts hlt htk
        rw [HRun.out] at hst
        subst hst
        go_wp2_with (first | (go_at_call 36; refine (end_calls s i L _ _ HB.out).mono ?_; rintro e w' ⟨rfl, ⟨n, rfl⟩⟩))
        refine (token_nothing s i L ts _ (w.heap.size + 1) _ (by have := HS.out; omega) hlt (by exact blk_drewN HB.out _) (by exact Kd.R_drewN HO.out _) (Nat.le_refl _) (by have := HS.out; have := HLn.out; omega) htk).mono ?_
        rintro e w3 ⟨rfl, hb3, hw3⟩
        have c1 := hb3.c1
        have c0 := hb3.c0
        have c2 := hb3.c2
        have hF3 : w3.heap[w.heap.size]? = some (.cells #[.int .i64 0, .int .i64 0] 30 (0, 0)) := by
          rw [hw3.block _ (by omega)]
          exact HF.out
        have f0 := blk_frozen hF3 0
        have f1 := blk_frozen hF3 1
        have d0 := (blk_cell hF3 0).trans rfl
        have d1 := (blk_cell hF3 1).trans rfl
        have HW3 := Aside0.mk ((HW2.out.trans (pw_below_drewN (Below.refl _ _) _)).trans (hw3.mono (by omega)))
        have HR2 := HR.out
        unfold tokRes at HR2
        rw [HRun0.out] at HR2
        clear hF3
        by_cases hbad : min bad (i : Int) ≤ (s.size : Int)
        · have b1 : decide (min bad (i : Int) ≤ (s.size : Int)) = true := decide_eq_true hbad
          simp only [if_pos hbad, Prod.mk.injEq] at HR2
          obtain ⟨rfl, rfl, rfl⟩ := HR2
          go_wp2_with fail
          all_goals
            exact bodyPost_ret (v := .tuple #[.slice none 0 0, .agg #[.int .i64 8, .int .i64 (min bad (i : Int))]]) (by simp [results, Tryd.results15, go_sem, d0, d1, hu]) rfl ⟨_, rfl, Kd.R_nil _ _ _ _ _, (HW3.out.setCell (Nat.le_refl _) _).setCell (Nat.le_refl _) _⟩
        · exact absurd (by omega) hbad
      | some (t, j, true) =>
        go_wp2_with (first | (go_at_call 36; refine (end_calls s i L _ _ HB.out).mono ?_; rintro e w' ⟨rfl, ⟨n, rfl⟩⟩))
        refine (token_calls s i L ts _ (w.heap.size + 1) _ (by have := HS.out; omega) hlt (by exact blk_drewN HB.out _) (by exact Kd.R_drewN HO.out _) (Nat.le_refl _) (by have := HS.out; have := HLn.out; omega) htk).mono ?_
        rintro e w3 ⟨rfl, L3, hb3, ho3, hw3⟩
        have hj := tokE_ge s i hlt htk
        go_wp2_with fail
        refine (between_calls s j _ _ _ (by have := HS.out; omega) hj.2 (by exact hb3)).mono ?_
        rintro e w4 ⟨rfl, hb4, hk4⟩
        have hbl := btw_le s j hj.2
        go_wp2
        go_roundg (s.size - btw s j)
        case measure => have := HG.out; omega
        case rel =>
          refine ⟨btw s j, ts ++ [t], L3, rfl, ⟨by omega⟩, ⟨by rw [← HRun.out]; exact (run_go s i ts hlt htk).symm⟩, ⟨hb4⟩, ⟨?_⟩, ⟨?_⟩, ⟨?_⟩, ⟨by have := HLn.out; simp; omega⟩, ⟨Nat.le_refl _⟩⟩
          · refine hk4.k.blk ?_ (by omega) (by simp)
            rw [hw3.block _ (by omega)]
            exact HF.out
          · exact (HW2.out.trans (pw_below_drewN (Below.refl _ _) _)).trans ((hw3.mono (by omega)).trans (hk4.b.mono (by omega)))
          · exact Kd.R_keep ho3 hk4.k (fun k hk => hk)
      | some (t, j, false) =>
        have hst := run_bad s i ts hlt htk
        rw [HRun.out] at hst
        subst hst
        go_wp2_with (first | (go_at_call 36; refine (end_calls s i L _ _ HB.out).mono ?_; rintro e w' ⟨rfl, ⟨n, rfl⟩⟩))
        refine (token_calls s i L ts _ (w.heap.size + 1) _ (by have := HS.out; omega) hlt (by exact blk_drewN HB.out _) (by exact Kd.R_drewN HO.out _) (Nat.le_refl _) (by have := HS.out; have := HLn.out; omega) htk).mono ?_
        rintro e w3 ⟨rfl, L3, hb3, ho3, hw3⟩
        have c1 := hb3.c1
        have c0 := hb3.c0
        have c2 := hb3.c2
        have hF3 : w3.heap[w.heap.size]? = some (.cells #[.int .i64 0, .int .i64 0] 30 (0, 0)) := by
          rw [hw3.block _ (by omega)]
          exact HF.out
        have f0 := blk_frozen hF3 0
        have f1 := blk_frozen hF3 1
        have d0 := (blk_cell hF3 0).trans rfl
        have d1 := (blk_cell hF3 1).trans rfl
        have HW3 := Aside0.mk ((HW2.out.trans (pw_below_drewN (Below.refl _ _) _)).trans (hw3.mono (by omega)))
        have HR2 := HR.out
        unfold tokRes at HR2
        rw [HRun0.out] at HR2
        clear hF3
        by_cases hbad : min bad (j : Int) ≤ (s.size : Int)
        · have b1 : decide (min bad (j : Int) ≤ (s.size : Int)) = true := decide_eq_true hbad
          simp only [if_pos hbad, Prod.mk.injEq] at HR2
          obtain ⟨rfl, rfl, rfl⟩ := HR2
          go_wp2_with fail
          all_goals
            exact bodyPost_ret (v := .tuple #[.slice none 0 0, .agg #[.int .i64 8, .int .i64 (min bad (j : Int))]]) (by simp [results, Tryd.results15, go_sem, d0, d1, hu]) rfl ⟨_, rfl, Kd.R_nil _ _ _ _ _, (HW3.out.setCell (Nat.le_refl _) _).setCell (Nat.le_refl _) _⟩
        · have b1 : decide (min bad (j : Int) ≤ (s.size : Int)) = false := decide_eq_false hbad
          simp only [if_neg hbad, Prod.mk.injEq] at HR2
          obtain ⟨rfl, rfl, rfl⟩ := HR2
          go_wp2_with fail
          all_goals
            exact bodyPost_ret (v := .tuple #[L3, .agg #[.int .i64 0, .int .i64 0]]) (by simp [results, Tryd.results15, go_sem, d0, d1, hu]) rfl ⟨_, rfl, Kd.R_lower (Kd.R_mono (Kd.R_far (Kd.R_far (Kd.R_bound ho3) (p := ⟨w.heap.size, 0, none⟩) (fun k hk => Nat.ne_of_gt hk.2.1) _) (p := ⟨w.heap.size, 1, none⟩) (fun k hk => Nat.ne_of_gt hk.2.1) _) (fun _ _ => trivial)) (by omega), (HW3.out.setCell (Nat.le_refl _) _).setCell (Nat.le_refl _) _⟩
    · have e1 : decide (s.size ≤ i) = true := decide_eq_true (by omega)
      have e1i : decide ((s.size : Int) ≤ (i : Int)) = true := decide_eq_true (by omega)
      have hst := run_stop s i ts hlt
      rw [HRun.out] at hst
      subst hst
      have HR2 := HR.out
      unfold tokRes at HR2
      rw [HRun0.out] at HR2
      have c2 := HB.out.c2
      have f0 := blk_frozen HF.out 0
      have f1 := blk_frozen HF.out 1
      have d0 := (blk_cell HF.out 0).trans rfl
      have d1 := (blk_cell HF.out 1).trans rfl
      by_cases hbad : bad ≤ (s.size : Int)
      · have b1 : decide (bad ≤ (s.size : Int)) = true := decide_eq_true hbad
        simp only [if_pos hbad, Prod.mk.injEq] at HR2
        obtain ⟨rfl, rfl, rfl⟩ := HR2
        go_wp2_with (go_at_call 36; refine (end_calls s i L _ _ HB.out).mono ?_; rintro e w' ⟨rfl, ⟨n, rfl⟩⟩)
        all_goals
          exact bodyPost_ret (v := .tuple #[.slice none 0 0, .agg #[.int .i64 8, .int .i64 bad]]) (by simp [results, Tryd.results15, go_sem, d0, d1, hu]) rfl ⟨_, rfl, Kd.R_nil _ _ _ _ _, ((pw_below_drewN HW2.out _).setCell (Nat.le_refl _) _).setCell (Nat.le_refl _) _⟩
      · have b1 : decide (bad ≤ (s.size : Int)) = false := decide_eq_false hbad
        simp only [if_neg hbad, Prod.mk.injEq] at HR2
        obtain ⟨rfl, rfl, rfl⟩ := HR2
        go_wp2_with (go_at_call 36; refine (end_calls s i L _ _ HB.out).mono ?_; rintro e w' ⟨rfl, ⟨n, rfl⟩⟩)
        all_goals
          exact bodyPost_ret (v := .tuple #[L, .agg #[.int .i64 0, .int .i64 0]]) (by simp [results, Tryd.results15, go_sem, d0, d1, hu]) rfl ⟨_, rfl, Kd.R_lower (Kd.R_mono (Kd.R_far (Kd.R_far (Kd.R_bound (Kd.R_drewN HO.out _)) (p := ⟨w.heap.size, 0, none⟩) (fun k hk => Nat.ne_of_gt hk.2.1) _) (p := ⟨w.heap.size, 1, none⟩) (fun k hk => Nat.ne_of_gt hk.2.1) _) (fun _ _ => trivial)) (by omega), ((pw_below_drewN HW2.out _).setCell (Nat.le_refl _) _).setCell (Nat.le_refl _) _⟩
end Go.Proofs.YtngedmioeodmfaaDoor.Lx
namespace Go.Proofs.YtngedmioeodmfaaDoor.Pu
open Go.RowKit Go.Proofs.YtngedmioeodmfaaDoor.Pr Go.Proofs.YtngedmioeodmfaaDoorW.PrintWords
theorem w64 {n : Int} (h0 : -9223372036854775808 ≤ n) (h1 : n ≤ 9223372036854775807) : wrap64 n = n := by
  unfold wrap64; omega
theorem bytesOf_range (s : ByteArray) : ∀ x ∈ bytesOf s, 0 ≤ x ∧ x ≤ 255 := by
  intro x hx
  unfold bytesOf at hx
  obtain ⟨b, _, rfl⟩ := List.mem_map.1 hx
  have := UInt8.toNat_lt b
  omega
theorem bytesOf_str (xs : List Int) (h : ∀ x ∈ xs, 0 ≤ x ∧ x ≤ 255) : bytesOf (strOfNums xs) = xs := by
  unfold bytesOf
  rw [strOfNums_data, List.map_map]
  conv => rhs; rw [← List.map_id xs]
  apply List.map_congr_left
  intro x hx
  have := h x hx
  simp [Function.comp]
  omega
theorem bt_drop (s : ByteArray) (i : Nat) (h : i < s.size) : (bytesOf s).drop i = bt s (i : Int) :: (bytesOf s).drop (i + 1) := by
  have hl : i < (bytesOf s).length := by rw [bytesOf_length]; exact h
  rw [List.drop_eq_getElem_cons hl]
  congr 1
  rw [← rd_bytesOf, rd, Int.toNat_natCast, List.getD_eq_getElem?_getD, List.getElem?_eq_getElem hl]
  rfl
theorem bytesOf_inj {s t : ByteArray} (h : bytesOf s = bytesOf t) : s = t := by
  have h2 : s.data.toList = t.data.toList := by
    unfold bytesOf at h
    refine (List.map_inj_right ?_).1 h
    intro a b hab
    exact UInt8.toNat_inj.1 (by omega)
  cases s with | mk a => cases t with | mk b => exact congrArg ByteArray.mk (Array.ext' h2)
theorem str_bytesOf (s : ByteArray) : strOfNums (bytesOf s) = s := by
  apply bytesOf_inj
  exact bytesOf_str _ (bytesOf_range s)
/-- What is some r at each number of rounds. -/
theorem Ev.const {α : Type} {g : Nat → Option α} {r : α} (h : ∀ k, g k = some r) : Ev g r := ⟨0, fun k _ => h k⟩
/-- Rounds behind one another: the fixed answer first. -/
theorem Ev.some_bind {α β : Type} {o : Option α} {f : Nat → α → Option β} {a : α} {r : β} (h : o = some a) (k : Ev (fun n => f n a) r) : Ev (fun n => o.bind (f n)) r := by
  subst h; exact k
end Go.Proofs.YtngedmioeodmfaaDoor.Pu
namespace Go.Proofs.YtngedmioeodmfaaDoorW.PrintWords
theorem Ev.eq {α : Type} {g : Nat → Option α} {r q : α} (h : Ev g r) (e : r = q) : Ev g q := e ▸ h
end Go.Proofs.YtngedmioeodmfaaDoorW.PrintWords
namespace Go.Proofs.YtngedmioeodmfaaDoor.Pu
open Go.RowKit Go.Proofs.YtngedmioeodmfaaDoor.Pr Go.Proofs.YtngedmioeodmfaaDoorW.PrintWords Go.Proofs.YtngedmioeodmfaaDoor.Lx
set_option linter.unusedVariables false
set_option linter.unusedSimpArgs false
/-- Where the machine stands: between tokens, in a note, in a word, in a string, behind a stroke in a string. -/
inductive St where
  | sk : St
  | nt : St
  | wd (a : Nat) (acc : List Int) : St
  | qt (a : Nat) (acc : List Int) : St
  | es (a : Nat) (p : Nat) (acc : List Int) : St
inductive Out where
  | bad (j : Nat) : Out
  | good (ts : List Tk) : Out
inductive One where
  | bad (j : Nat) : One
  | go (st : St) (ts : List Tk) : One
def fin (n : Nat) : St → List Tk → Out
  | .sk, ts => .good ts
  | .nt, ts => .good ts
  | .wd a acc, ts => .good (ts ++ [⟨1, a, strOfNums acc⟩])
  | .qt _ _, _ => .bad n
  | .es _ _ _, _ => .bad n
def st1 (i : Nat) (c : Int) (ts : List Tk) : One :=
  if pBlank c = true then .go .sk ts
  else if c = 35 then .go .nt ts
  else if pLetter c = true then .go (.wd i [c]) ts
  else if c = 34 then .go (.qt i []) ts
  else if c = 40 ∨ c = 41 ∨ c = 59 then .go .sk (ts ++ [⟨opIdx c, i, strOfNums [c]⟩])
  else .bad i
def step (i : Nat) (c : Int) : St → List Tk → One
  | .sk, ts => st1 i c ts
  | .nt, ts => if c = 10 then .go .sk ts else .go .nt ts
  | .wd a acc, ts => if pWord c = true then .go (.wd a (acc ++ [c])) ts else st1 i c (ts ++ [⟨1, a, strOfNums acc⟩])
  | .qt a acc, ts => if c = 34 then .go .sk (ts ++ [⟨2, a, strOfNums acc⟩]) else if c = 10 then .bad i else if c = 92 then .go (.es a i acc) ts else .go (.qt a (acc ++ [c])) ts
  | .es a p acc, ts => if c = 34 ∨ c = 92 then .go (.qt a (acc ++ [c])) ts else .bad p
def sm : Nat → St → List Tk → List Int → Out
  | i, st, ts, [] => fin i st ts
  | i, st, ts, c :: l => match step i c st ts with
    | .bad j => .bad j
    | .go st' ts' => sm (i + 1) st' ts' l
def cast : List Tk × Option Nat → Out
  | (ts, none) => .good ts
  | (_, some j) => .bad j
def dr (s : ByteArray) (i : Nat) : List Int := (bytesOf s).drop i
theorem dr_cons (s : ByteArray) (i : Nat) (h : i < s.size) : dr s i = bt s (i : Int) :: dr s (i + 1) := bt_drop s i h
theorem dr_nil (s : ByteArray) (i : Nat) (h : ¬ i < s.size) : dr s i = [] := List.drop_eq_nil_of_le (by rw [bytesOf_length]; omega)
theorem sm_go (s : ByteArray) (i : Nat) (h : i < s.size) (st : St) (ts : List Tk) (st' : St) (ts' : List Tk) (e : step i (bt s (i : Int)) st ts = .go st' ts') : sm i st ts (dr s i) = sm (i + 1) st' ts' (dr s (i + 1)) := by
  rw [dr_cons s i h, sm, e]
theorem sm_bad (s : ByteArray) (i : Nat) (h : i < s.size) (st : St) (ts : List Tk) (j : Nat) (e : step i (bt s (i : Int)) st ts = .bad j) : sm i st ts (dr s i) = .bad j := by
  rw [dr_cons s i h, sm, e]
/-- A row passed over, state by state. -/
theorem sm_row (s : ByteArray) (p : Int → Bool) (st : St) (hst : ∀ i c ts, p c = true → step i c st ts = .go st ts) : ∀ d i ts, sm i st ts (dr s i) = sm (rowEnd s p d i) st ts (dr s (rowEnd s p d i)) := by
  intro d
  induction d with
  | zero => intro i ts; rfl
  | succ d ih =>
    intro i ts
    rw [rowEnd]
    by_cases q : i < s.size ∧ p (bt s i) = true
    · rw [if_pos q, ← ih (i + 1) ts]
      exact sm_go s i q.1 _ _ _ _ (hst _ _ _ q.2)
    · rw [if_neg q]
theorem sm_blanks (s : ByteArray) (i : Nat) (ts : List Tk) : sm i .sk ts (dr s i) = sm (bEnd s i) .sk ts (dr s (bEnd s i)) := by
  refine sm_row s pBlank .sk ?_ _ i ts
  intro i c ts h
  simp only [step, st1, h, if_true]
theorem rowEnd_not (s : ByteArray) (p : Int → Bool) : ∀ d i, s.size - i ≤ d → ¬ (rowEnd s p d i < s.size ∧ p (bt s (rowEnd s p d i)) = true) := by
  intro d
  induction d with
  | zero => intro i h; rw [rowEnd]; omega
  | succ d ih =>
    intro i h
    rw [rowEnd]
    split
    · exact ih (i + 1) (by omega)
    · rename_i q; exact q
theorem nt_all : ∀ c : Fin 256, pNN (c.val : Int) = true ∨ (c.val : Int) = 10 := by decide +kernel
theorem bt_fin (s : ByteArray) (i : Int) : ∃ q : Fin 256, (q.val : Int) = bt s i := by
  have hr := bt_range s i
  exact ⟨⟨(bt s i).toNat, by omega⟩, by simp; omega⟩
theorem sm_notes (s : ByteArray) (i : Nat) (h : i < s.size) (hc : bt s (i : Int) = 35) (ts : List Tk) : sm i .sk ts (dr s i) = sm (nEnd s i) .sk ts (dr s (nEnd s i)) := by
  have e1 : sm i .sk ts (dr s i) = sm (i + 1) .nt ts (dr s (i + 1)) := sm_go s i h _ _ _ _ (by simp only [step, st1, hc]; rfl)
  have e2 : nEnd s i = rowEnd s pNN (s.size - (i + 1)) (i + 1) := rowEnd_go s pNN i h (by rw [hc]; rfl)
  rw [e1, e2, sm_row s pNN .nt ?_ (s.size - (i + 1)) (i + 1) ts]
  · have hn := rowEnd_not s pNN (s.size - (i + 1)) (i + 1) (Nat.le_refl _)
    generalize rowEnd s pNN (s.size - (i + 1)) (i + 1) = r at hn ⊢
    by_cases q : r < s.size
    · obtain ⟨c, hc2⟩ := bt_fin s (r : Int)
      have h10 : bt s (r : Int) = 10 := by
        rcases nt_all c with h | h
        · exact absurd ⟨q, by rw [← hc2]; exact h⟩ hn
        · rw [← hc2]; exact h
      rw [sm_go s r q .nt ts .sk ts (by simp only [step, h10, if_true]), sm_go s r q .sk ts .sk ts (by simp only [step, st1, h10]; rfl)]
    · rw [dr_nil s r q]; rfl
  · intro i c ts h
    simp only [step]
    rw [if_neg]
    intro e; rw [e] at h; cases h
theorem sm_btw2 (s : ByteArray) : ∀ d i ts, sm i .sk ts (dr s i) = sm (btw2 s d i) .sk ts (dr s (btw2 s d i)) := by
  intro d
  induction d with
  | zero => intro i ts; rfl
  | succ d ih =>
    intro i ts
    rw [btw2]
    split
    · rename_i q
      rw [sm_notes s i q.1 q.2, sm_blanks, ih]
    · rfl
theorem sm_btw (s : ByteArray) (i : Nat) (ts : List Tk) : sm i .sk ts (dr s i) = sm (btw s i) .sk ts (dr s (btw s i)) := by
  rw [sm_blanks]
  exact sm_btw2 s _ _ ts
theorem btw2_not (s : ByteArray) : ∀ d i, i ≤ s.size → s.size - i ≤ d → ¬ (i < s.size ∧ pBlank (bt s i) = true) → btw2 s d i < s.size → pBlank (bt s (btw2 s d i)) = false ∧ bt s (btw2 s d i) ≠ 35 := by
  intro d
  induction d with
  | zero => intro i hi h _ hl; rw [btw2] at hl; omega
  | succ d ih =>
    intro i hi h hb
    rw [btw2]
    split
    · rename_i q
      have h1 := nEnd_lt s i q.1 q.2
      have h2 := nEnd_le s i hi
      have h3 := bEnd_le s (nEnd s i) h2.2
      exact ih (bEnd s (nEnd s i)) h3.2 (by omega) (rowEnd_not s pBlank _ _ (Nat.le_refl _))
    · rename_i q
      intro hl
      constructor
      · cases hx : pBlank (bt s i) with
        | true => exact absurd ⟨hl, hx⟩ hb
        | false => rfl
      · intro e; exact q ⟨hl, e⟩
theorem btw_not (s : ByteArray) (i : Nat) (hi : i ≤ s.size) (h : btw s i < s.size) : pBlank (bt s (btw s i)) = false ∧ bt s (btw s i) ≠ 35 :=
  btw2_not s _ _ (bEnd_le s i hi).2 (Nat.le_refl _) (rowEnd_not s pBlank _ _ (Nat.le_refl _)) h
theorem strOfNums_inj_bytes (s : ByteArray) (xs : List Int) (h : bytesOf s = xs) : strOfNums xs = s := by rw [← h]; exact str_bytesOf s
theorem bytesOf_ext (s : ByteArray) (i j : Nat) : bytesOf (s.extract i j) = ((bytesOf s).take j).drop i := by
  unfold bytesOf
  rw [ByteArray.data_extract, Array.toList_extract, List.extract_eq_take_drop, List.map_take, List.map_drop, List.drop_take]
theorem sm_word (s : ByteArray) (a : Nat) : ∀ d i acc ts, sm i (.wd a acc) ts (dr s i) = sm (rowEnd s pWord d i) (.wd a (acc ++ ((bytesOf s).take (rowEnd s pWord d i)).drop i)) ts (dr s (rowEnd s pWord d i)) := by
  intro d
  induction d with
  | zero =>
    intro i acc ts
    rw [rowEnd, List.drop_eq_nil_of_le (by rw [List.length_take]; omega), List.append_nil]
  | succ d ih =>
    intro i acc ts
    rw [rowEnd]
    by_cases q : i < s.size ∧ pWord (bt s i) = true
    · rw [if_pos q]
      rw [sm_go s i q.1 _ _ (.wd a (acc ++ [bt s (i : Int)])) ts (by simp only [step, q.2, if_true])]
      rw [ih (i + 1)]
      have hr : i + 1 ≤ rowEnd s pWord d (i + 1) := by
        have := rowEnd_le s pWord d (i + 1) (by omega); omega
      congr 2
      generalize rowEnd s pWord d (i + 1) = r at hr ⊢
      rw [List.append_assoc]
      congr 1
      have hl : i < ((bytesOf s).take r).length := by rw [List.length_take, bytesOf_length]; omega
      rw [List.drop_eq_getElem_cons hl]
      congr 1
      rw [List.getElem_take, ← rd_bytesOf, rd, Int.toNat_natCast, List.getD_eq_getElem?_getD, List.getElem?_eq_getElem (by rw [bytesOf_length]; exact q.1)]
      rfl
    · rw [if_neg q, List.drop_eq_nil_of_le (by rw [List.length_take]; omega), List.append_nil]
theorem sm_tok_word (s : ByteArray) (i : Nat) (h : i < s.size) (hb : pBlank (bt s i) = false) (h35 : bt s (i : Int) ≠ 35) (hl : pLetter (bt s i) = true) (ts : List Tk) :
    sm i .sk ts (dr s i) = sm (wEnd s i) .sk (ts ++ [⟨1, i, s.extract i (wEnd s i)⟩]) (dr s (wEnd s i)) := by
  obtain ⟨c, hc⟩ := bt_fin s (i : Int)
  have hw : pWord (bt s (i : Int)) = true := by rw [← hc]; exact letter_word c (by rw [hc]; exact hl)
  have e : wEnd s i = rowEnd s pWord (s.size - (i + 1)) (i + 1) := rowEnd_go s pWord i h hw
  rw [sm_go s i h .sk ts (.wd i [bt s (i : Int)]) ts (by simp only [step, st1, hb, hl, if_true]; rw [if_neg h35]; rfl), sm_word s i (s.size - (i + 1)) (i + 1), ← e]
  have hle := wEnd_le s i (by omega)
  have hlt := wEnd_lt s i h hl
  have hst : strOfNums ([bt s (i : Int)] ++ ((bytesOf s).take (wEnd s i)).drop (i + 1)) = s.extract i (wEnd s i) := by
    apply strOfNums_inj_bytes
    rw [bytesOf_ext]
    have hl : i < ((bytesOf s).take (wEnd s i)).length := by rw [List.length_take, bytesOf_length]; omega
    rw [List.drop_eq_getElem_cons hl]
    show _ :: _ = _ :: _
    congr 1
    rw [List.getElem_take, ← rd_bytesOf, rd, Int.toNat_natCast, List.getD_eq_getElem?_getD, List.getElem?_eq_getElem (by rw [bytesOf_length]; exact h)]
    rfl
  have hn : ¬ (wEnd s i < s.size ∧ pWord (bt s (wEnd s i)) = true) := rowEnd_not s pWord _ _ (Nat.le_refl _)
  by_cases q : wEnd s i < s.size
  · have hn2 : pWord (bt s (wEnd s i)) = false := by
      cases hx : pWord (bt s (wEnd s i)) with
      | true => exact absurd ⟨q, hx⟩ hn
      | false => rfl
    rw [dr_cons s _ q, sm, sm]
    simp only [step, hn2, hst]
    rfl
  · rw [dr_nil s _ q, sm, sm]
    simp only [fin, hst]
theorem sm_quo (s : ByteArray) (a : Nat) (ts : List Tk) : ∀ d i out, i ≤ s.size → s.size - i ≤ d → sm i (.qt a out) ts (dr s i) =
    (match quo s d i out with
     | (o, j, true) => sm j .sk (ts ++ [⟨2, a, strOfNums o⟩]) (dr s j)
     | (_, j, false) => .bad j) := by
  intro d
  induction d using Nat.strongRecOn with
  | _ d ih =>
    intro i out hi hd
    cases d with
    | zero => rw [dr_nil s i (by omega), quo]; rfl
    | succ d =>
      rw [quo]
      by_cases q : i < s.size
      · rw [if_pos q]
        by_cases h34 : bt s (i : Int) = 34
        · rw [if_pos h34]
          exact sm_go s i q _ _ _ _ (by simp only [step, h34, if_true])
        · rw [if_neg h34]
          by_cases h10 : bt s (i : Int) = 10
          · rw [if_pos h10]
            exact sm_bad s i q _ _ _ (by simp only [step]; rw [if_neg h34, if_pos h10])
          · rw [if_neg h10]
            by_cases h92 : bt s (i : Int) = 92
            · rw [if_pos h92]
              rw [sm_go s i q _ _ (.es a i out) ts (by simp only [step]; rw [if_neg h34, if_neg h10, if_pos h92])]
              by_cases he : i + 1 = s.size
              · rw [if_pos he, dr_nil s (i + 1) (by omega)]; rfl
              · rw [if_neg he]
                have q2 : i + 1 < s.size := by omega
                by_cases hq : bt s ((i + 1 : Nat) : Int) = 34 ∨ bt s ((i + 1 : Nat) : Int) = 92
                · rw [if_pos hq, sm_go s (i + 1) q2 _ _ (.qt a (out ++ [bt s ((i + 1 : Nat) : Int)])) ts (by simp only [step]; rw [if_pos hq])]
                  exact ih d (by omega) (i + 2) _ (by omega) (by omega)
                · rw [if_neg hq]
                  exact sm_bad s (i + 1) q2 _ _ _ (by simp only [step]; rw [if_neg hq])
            · rw [if_neg h92, sm_go s i q _ _ (.qt a (out ++ [bt s (i : Int)])) ts (by simp only [step]; rw [if_neg h34, if_neg h10, if_neg h92])]
              exact ih d (by omega) (i + 1) _ (by omega) (by omega)
      · rw [if_neg q, dr_nil s i q]
        have : i = s.size := by omega
        rfl
theorem sm_run (s : ByteArray) : ∀ d i ts, s.size - i ≤ d → i ≤ s.size → (i < s.size → pBlank (bt s i) = false ∧ bt s (i : Int) ≠ 35) → cast (runF s d i ts) = sm i .sk ts (dr s i) := by
  intro d
  induction d with
  | zero => intro i ts h hi _; rw [runF, dr_nil s i (by omega)]; rfl
  | succ d ih =>
    intro i ts h hi hb
    rw [runF]
    by_cases q : i < s.size
    · rw [if_pos q]
      obtain ⟨hb1, hb2⟩ := hb q
      have go : ∀ t j, tokE s i = some (t, j, true) → cast (runF s d (btw s j) (ts ++ [t])) = sm j .sk (ts ++ [t]) (dr s j) := by
        intro t j e
        have hj := tokE_ge s i q e
        have hbl := btw_le s j hj.2
        rw [sm_btw s j]
        exact ih (btw s j) _ (by omega) hbl.2 (btw_not s j hj.2)
      cases e : tokE s i with
      | none =>
        simp only
        unfold tokE at e
        split at e
        · cases e
        · rename_i n1
          split at e
          · cases e
          · rename_i n2
            split at e
            · cases e
            · rename_i n3
              refine (sm_bad s i q _ _ _ ?_).symm
              simp only [step, st1]
              rw [hb1, if_neg (by simp), if_neg hb2, if_neg n1, if_neg n2, if_neg n3]
      | some x =>
        obtain ⟨t, j, ok⟩ := x
        have e0 := e
        unfold tokE at e
        split at e
        · rename_i hl
          simp only [Option.some.injEq, Prod.mk.injEq] at e
          obtain ⟨rfl, rfl, rfl⟩ := e
          simp only
          rw [go _ _ e0, sm_tok_word s i q hb1 hb2 hl]
        · rename_i n1
          split at e
          · rename_i h34
            simp only [Option.some.injEq, Prod.mk.injEq] at e
            obtain ⟨rfl, rfl, rfl⟩ := e
            have e1 : sm i .sk ts (dr s i) = sm (i + 1) (.qt i []) ts (dr s (i + 1)) := sm_go s i q _ _ _ _ (by simp only [step, st1]; rw [hb1, if_neg (by simp), if_neg hb2, if_neg n1, if_pos h34])
            rw [e1, sm_quo s i ts (s.size - (i + 1)) (i + 1) [] (by omega) (Nat.le_refl _)]
            have hqe : quo s (s.size - (i + 1)) (i + 1) [] = quoE s (i + 1) [] := rfl
            rw [hqe]
            obtain ⟨o, j, b, hq⟩ : ∃ o j b, quoE s (i + 1) [] = (o, j, b) := ⟨_, _, _, rfl⟩
            rw [hq] at e0 ⊢
            cases b with
            | true => simp only; rw [go _ _ e0]
            | false => rfl
          · rename_i n2
            split at e
            · rename_i h3
              simp only [Option.some.injEq, Prod.mk.injEq] at e
              obtain ⟨rfl, rfl, rfl⟩ := e
              simp only
              rw [go _ _ e0]
              have hx : s.extract i (i + 1) = strOfNums [bt s (i : Int)] := by
                refine (strOfNums_inj_bytes _ _ ?_).symm
                rw [bytesOf_ext]
                have hl : i < ((bytesOf s).take (i + 1)).length := by rw [List.length_take, bytesOf_length]; omega
                rw [List.drop_eq_getElem_cons hl, List.drop_eq_nil_of_le (by rw [List.length_take]; omega)]
                congr 1
                rw [List.getElem_take, ← rd_bytesOf, rd, Int.toNat_natCast, List.getD_eq_getElem?_getD, List.getElem?_eq_getElem (by rw [bytesOf_length]; exact q)]
                rfl
              rw [hx]
              exact (sm_go s i q _ _ _ _ (by simp only [step, st1]; rw [hb1, if_neg (by simp), if_neg hb2, if_neg n1, if_neg n2, if_pos h3])).symm
            · cases e
    · rw [if_neg q, dr_nil s i q]; rfl
/-- The scanner's run from the text's beginning is the machine's. -/
theorem run_sm (s : ByteArray) : cast (run s (btw s 0) []) = sm 0 .sk [] (bytesOf s) := by
  have h := btw_le s 0 (Nat.zero_le _)
  have := sm_run s (s.size - btw s 0) (btw s 0) [] (Nat.le_refl _) h.2 (btw_not s 0 (Nat.zero_le _))
  rw [← sm_btw s 0] at this
  exact this
theorem sm_bad_le (s : ByteArray) : ∀ d i st ts j, s.size - i ≤ d → i ≤ s.size → (∀ a p acc, st = .es a p acc → p ≤ s.size) → sm i st ts (dr s i) = .bad j → j ≤ s.size := by
  intro d
  induction d with
  | zero =>
    intro i st ts j h hi he e
    rw [dr_nil s i (by omega), sm] at e
    cases st <;> simp [fin] at e <;> omega
  | succ d ih =>
    intro i st ts j h hi he e
    by_cases q : i < s.size
    · rw [dr_cons s i q, sm] at e
      cases hs : step i (bt s (i : Int)) st ts with
      | bad j' =>
        rw [hs] at e
        simp only [Out.bad.injEq] at e
        subst e
        cases st with
        | sk => simp only [step, st1] at hs; repeat' split at hs
                all_goals simp at hs; try omega
        | nt => simp only [step] at hs; split at hs <;> simp at hs
        | wd a acc => simp only [step, st1] at hs; repeat' split at hs
                      all_goals simp at hs; try omega
        | qt a acc => simp only [step] at hs; repeat' split at hs
                      all_goals simp at hs; try omega
        | es a p acc => simp only [step] at hs; repeat' split at hs
                        all_goals simp at hs; try (have := he a p acc rfl; omega)
      | go st' ts' =>
        rw [hs] at e
        have hes : ∀ a p acc, st' = .es a p acc → p ≤ s.size := by
          intro a p acc e2
          subst e2
          cases st with
          | sk => simp only [step, st1] at hs; repeat' split at hs
                  all_goals simp at hs
          | nt => simp only [step] at hs; split at hs <;> simp at hs
          | wd a acc => simp only [step, st1] at hs; repeat' split at hs
                        all_goals simp at hs
          | qt a acc => simp only [step] at hs; repeat' split at hs
                        all_goals simp at hs; try omega
          | es a p acc => simp only [step] at hs; repeat' split at hs
                          all_goals simp at hs
        exact ih (i + 1) st' ts' j (by omega) (by omega) hes e
    · rw [dr_nil s i q, sm] at e
      cases st <;> simp [fin] at e <;> omega
/-- What Tokens hands back, by the machine. -/
theorem tokRes_sm (s : ByteArray) (bad : Int) : tokRes s bad = (match sm 0 .sk [] (bytesOf s) with
    | .bad j => ([], 8, min bad (j : Int))
    | .good ts => if bad ≤ (s.size : Int) then ([], 8, bad) else (ts, 0, 0)) := by
  have h := run_sm s
  unfold tokRes
  obtain ⟨ts, o, hr⟩ : ∃ ts o, run s (btw s 0) [] = (ts, o) := ⟨_, _, rfl⟩
  rw [hr] at h
  cases o with
  | none => rw [← h, hr]; rfl
  | some j =>
    rw [← h, hr]
    have hj : j ≤ s.size := sm_bad_le s s.size 0 .sk [] j (by omega) (by omega) (fun _ _ _ e => by cases e) (by rw [← show bytesOf s = dr s 0 from rfl] ; exact h.symm)
    simp only [cast]
    rw [if_pos (by omega)]
end Go.Proofs.YtngedmioeodmfaaDoor.Pu
namespace Go.Proofs.YtngedmioeodmfaaDoor.Pr
open Go.RowKit Go.Proofs.YtngedmioeodmfaaDoorW.PrintWords Go.Proofs.YtngedmioeodmfaaDoorW.PrintLast Go.Proofs.YtngedmioeodmfaaDoorW.PrintMore
attribute [local go_sem] max2_int min2_int max_two min_two max_three min_three max_four min_four   -- for this text's walks alone
set_option linter.unusedVariables false
set_option linter.unusedSimpArgs false
def lex_Tokens.f (k : Nat) (a0 : ByteArray) : Option (List (S40) × Int × Int) := if (a0.size : Int) > 3000 then some ([], 2, 0) else (lex_wrong.f k a0).bind fun bad => some (Go.Proofs.YtngedmioeodmfaaDoor.Lx.tokRes a0 bad)
theorem lex_Tokens.mono : ∀ a0 k, LeO (lex_Tokens.f k a0) (lex_Tokens.f (k + 1) a0) := by
  intro a0 k
  unfold lex_Tokens.f
  exact LeO.ite (LeO.refl _) (LeO.bind (lex_wrong.mono _ _) (fun _ => LeO.refl _))
theorem lex_Tokens.calls (k : Nat) (a0 : ByteArray) (r1 : List (S40)) (r2 : Int) (r3 : Int) (w : World) (hL : Laid w) (h : lex_Tokens.f k a0 = some (r1, r2, r3)) :
    Calls Tryd.prog 15 #[.string a0] w fun e w' => ∃ v0_ : Value, e = .returned (.tuple #[v0_, .agg #[.int .i64 r2, .int .i64 r3]]) ∧ Kd.R k40 40 w' w.heap.size (fun _ => True) v0_ r1 ∧ Below w.heap.size w w' := by
  unfold lex_Tokens.f at h
  by_cases hs : (a0.size : Int) > 3000
  · rw [if_pos hs] at h
    simp only [Option.some.injEq, Prod.mk.injEq] at h
    obtain ⟨rfl, rfl, rfl⟩ := h
    refine (Go.Proofs.YtngedmioeodmfaaDoor.Lx.tokens_big a0 w (by omega)).mono ?_
    rintro e w' ⟨rfl, hb⟩
    exact ⟨_, rfl, Kd.R_nil _ _ _ _ _, hb⟩
  · rw [if_neg hs] at h
    obtain ⟨bad, hw, hr⟩ := Option.bind_eq_some_iff.mp h
    exact Go.Proofs.YtngedmioeodmfaaDoor.Lx.tokens_calls a0 k bad w hL (by omega) hw r1 r2 r3 (Option.some.inj hr)
end Go.Proofs.YtngedmioeodmfaaDoor.Pr
namespace Go.Proofs.YtngedmioeodmfaaDoor.Pr
open Go.RowKit Go.Proofs.YtngedmioeodmfaaDoorW.PrintWords Go.Proofs.YtngedmioeodmfaaDoorW.PrintLast Go.Proofs.YtngedmioeodmfaaDoorW.PrintMore
attribute [local go_sem] max2_int min2_int max_two min_two max_three min_three max_four min_four   -- for this text's walks alone
set_option linter.unusedVariables false
set_option linter.unusedSimpArgs false
end Go.Proofs.YtngedmioeodmfaaDoor.Pr
namespace Go.Proofs.YtngedmioeodmfaaDoor.Pu
open Go.RowKit Go.Proofs.YtngedmioeodmfaaDoor.Pr Go.Proofs.YtngedmioeodmfaaDoorW.PrintWords
set_option linter.unusedVariables false
set_option linter.unusedSimpArgs false
/-- How many bytes the rune has that begins b0 b1 b2 b3, of n bytes; 0: it is none. -/
def runeLen (n b0 b1 b2 b3 : Int) : Int :=
  if b0 < 128 then 1
  else if b0 < 194 then 0
  else if b0 < 224 then (if 2 ≤ n ∧ 128 ≤ b1 ∧ b1 < 192 then 2 else 0)
  else if b0 < 240 then (if 3 ≤ n ∧ 128 ≤ b1 ∧ b1 < 192 ∧ 128 ≤ b2 ∧ b2 < 192 ∧ 2048 ≤ (b0 % 16 * 64 + b1 % 64) * 64 + b2 % 64 ∧ ¬ (55296 ≤ (b0 % 16 * 64 + b1 % 64) * 64 + b2 % 64 ∧ (b0 % 16 * 64 + b1 % 64) * 64 + b2 % 64 ≤ 57343) then 3 else 0)
  else if b0 < 245 then (if 4 ≤ n ∧ 128 ≤ b1 ∧ b1 < 192 ∧ 128 ≤ b2 ∧ b2 < 192 ∧ 128 ≤ b3 ∧ b3 < 192 ∧ 65536 ≤ ((b0 % 8 * 64 + b1 % 64) * 64 + b2 % 64) * 64 + b3 % 64 ∧ ((b0 % 8 * 64 + b1 % 64) * 64 + b2 % 64) * 64 + b3 % 64 ≤ 1114111 then 4 else 0)
  else 0
/-- How many bytes the rune has by the library's decoder; 0: it is none. -/
def runeD (l : List UInt8) : Nat := if (Go.Lib.decodeL l).1 = 65533 ∧ (Go.Lib.decodeL l).2 = 1 then 0 else (Go.Lib.decodeL l).2
theorem runeN (n b0 b1 b2 b3 : Nat) (h1 : b1 < 256) (h2 : b2 < 256) (h3 : b3 < 256) (h0 : b0 < 256) (hn : 0 < n) :
    ((if (Go.Lib.decodeN n b0 b1 b2 b3).1 = 65533 ∧ (Go.Lib.decodeN n b0 b1 b2 b3).2 = 1 then 0 else (Go.Lib.decodeN n b0 b1 b2 b3).2 : Nat) : Int) = runeLen n b0 b1 b2 b3 := by
  unfold runeLen
  by_cases a1 : b0 < 128
  · have e : Go.Lib.decodeN n b0 b1 b2 b3 = (b0, 1) := by unfold Go.Lib.decodeN; rw [if_pos a1]
    rw [e, if_neg (by simp only; omega), if_pos (by omega)]; rfl
  rw [if_neg (show ¬ (b0 : Int) < 128 by omega)]
  by_cases a2 : b0 < 194
  · have e : Go.Lib.decodeN n b0 b1 b2 b3 = (65533, 1) := by
      unfold Go.Lib.decodeN
      rw [if_neg a1]
      by_cases q : b0 / 32 = 6 ∧ (1 < n ∧ b1 / 64 = 2)
      · rw [if_pos q, if_neg (by omega)]
      · rw [if_neg q, if_neg (by omega), if_neg (by omega)]
    rw [e, if_pos ⟨rfl, rfl⟩, if_pos (by omega)]; rfl
  rw [if_neg (show ¬ (b0 : Int) < 194 by omega)]
  by_cases a3 : b0 < 224
  · rw [if_pos (show (b0 : Int) < 224 by omega)]
    by_cases q : 2 ≤ n ∧ 128 ≤ b1 ∧ b1 < 192
    · have e : Go.Lib.decodeN n b0 b1 b2 b3 = (b0 % 32 * 64 + b1 % 64, 2) := by
        unfold Go.Lib.decodeN; rw [if_neg a1, if_pos (by omega), if_pos (by omega)]
      rw [e, if_neg (by simp), if_pos (by omega)]; rfl
    · have e : Go.Lib.decodeN n b0 b1 b2 b3 = (65533, 1) := by
        unfold Go.Lib.decodeN; rw [if_neg a1, if_neg (by omega), if_neg (by omega), if_neg (by omega)]
      rw [e, if_pos ⟨rfl, rfl⟩, if_neg (by omega)]; rfl
  rw [if_neg (show ¬ (b0 : Int) < 224 by omega)]
  by_cases a4 : b0 < 240
  · rw [if_pos (show (b0 : Int) < 240 by omega)]
    by_cases q : 3 ≤ n ∧ 128 ≤ b1 ∧ b1 < 192 ∧ 128 ≤ b2 ∧ b2 < 192
    · by_cases q2 : 2048 ≤ b0 % 16 * 4096 + b1 % 64 * 64 + b2 % 64 ∧ ¬ (55296 ≤ b0 % 16 * 4096 + b1 % 64 * 64 + b2 % 64 ∧ b0 % 16 * 4096 + b1 % 64 * 64 + b2 % 64 ≤ 57343)
      · have e : Go.Lib.decodeN n b0 b1 b2 b3 = (b0 % 16 * 4096 + b1 % 64 * 64 + b2 % 64, 3) := by
          unfold Go.Lib.decodeN; rw [if_neg a1, if_neg (by omega), if_pos (by omega), if_pos (by omega)]
        rw [e, if_neg (by simp), if_pos (by omega)]; rfl
      · have e : Go.Lib.decodeN n b0 b1 b2 b3 = (65533, 1) := by
          unfold Go.Lib.decodeN; rw [if_neg a1, if_neg (by omega), if_pos (by omega), if_neg (by omega)]
        rw [e, if_pos ⟨rfl, rfl⟩, if_neg (by omega)]; rfl
    · have e : Go.Lib.decodeN n b0 b1 b2 b3 = (65533, 1) := by
        unfold Go.Lib.decodeN; rw [if_neg a1, if_neg (by omega), if_neg (by omega), if_neg (by omega)]
      rw [e, if_pos ⟨rfl, rfl⟩, if_neg (by omega)]; rfl
  rw [if_neg (show ¬ (b0 : Int) < 240 by omega)]
  by_cases a5 : b0 < 245
  · rw [if_pos (show (b0 : Int) < 245 by omega)]
    by_cases q : 4 ≤ n ∧ 128 ≤ b1 ∧ b1 < 192 ∧ 128 ≤ b2 ∧ b2 < 192 ∧ 128 ≤ b3 ∧ b3 < 192
    · by_cases q2 : 65536 ≤ b0 % 8 * 262144 + b1 % 64 * 4096 + b2 % 64 * 64 + b3 % 64 ∧ b0 % 8 * 262144 + b1 % 64 * 4096 + b2 % 64 * 64 + b3 % 64 ≤ 1114111
      · have e : Go.Lib.decodeN n b0 b1 b2 b3 = (b0 % 8 * 262144 + b1 % 64 * 4096 + b2 % 64 * 64 + b3 % 64, 4) := by
          unfold Go.Lib.decodeN; rw [if_neg a1, if_neg (by omega), if_neg (by omega), if_pos (by omega), if_pos (by omega)]
        rw [e, if_neg (by simp), if_pos (by omega)]; rfl
      · have e : Go.Lib.decodeN n b0 b1 b2 b3 = (65533, 1) := by
          unfold Go.Lib.decodeN; rw [if_neg a1, if_neg (by omega), if_neg (by omega), if_pos (by omega), if_neg (by omega)]
        rw [e, if_pos ⟨rfl, rfl⟩, if_neg (by omega)]; rfl
    · have e : Go.Lib.decodeN n b0 b1 b2 b3 = (65533, 1) := by
        unfold Go.Lib.decodeN; rw [if_neg a1, if_neg (by omega), if_neg (by omega), if_neg (by omega)]
      rw [e, if_pos ⟨rfl, rfl⟩, if_neg (by omega)]; rfl
  · rw [if_neg (show ¬ (b0 : Int) < 245 by omega)]
    have e : Go.Lib.decodeN n b0 b1 b2 b3 = (65533, 1) := by
      unfold Go.Lib.decodeN
      rw [if_neg a1, if_neg (by omega), if_neg (by omega)]
      by_cases q : b0 / 8 = 30 ∧ (1 < n ∧ b1 / 64 = 2) ∧ (2 < n ∧ b2 / 64 = 2) ∧ (3 < n ∧ b3 / 64 = 2)
      · rw [if_pos q, if_neg (by omega)]
      · rw [if_neg q]
    rw [e, if_pos ⟨rfl, rfl⟩]; rfl
theorem bt_getD (x : ByteArray) (j : Nat) : bt x (j : Int) = ((x.data.toList.getD j 0).toNat : Int) := by
  unfold bt
  rw [Int.toNat_natCast]
  by_cases h : j < x.size
  · have h2 : j < x.data.toList.length := by rw [data_length]; exact h
    rw [dif_pos h, List.getD_eq_getElem?_getD, List.getElem?_eq_getElem h2]; rfl
  · have h2 : ¬ j < x.data.toList.length := by rw [data_length]; exact h
    rw [dif_neg h, List.getD_eq_getElem?_getD, List.getElem?_eq_none (by omega)]; rfl
theorem runeD_eq (x : ByteArray) (h : 0 < x.size) : (runeD x.data.toList : Int) = runeLen x.size (bt x 0) (bt x 1) (bt x 2) (bt x 3) := by
  unfold runeD
  rw [Go.Lib.decodeL_N]
  have := runeN x.data.toList.length (x.data.toList.getD 0 0).toNat (x.data.toList.getD 1 0).toNat (x.data.toList.getD 2 0).toNat (x.data.toList.getD 3 0).toNat (UInt8.toNat_lt _) (UInt8.toNat_lt _) (UInt8.toNat_lt _) (UInt8.toNat_lt _) (by rw [data_length]; exact h)
  rw [this, data_length, ← bt_getD x 0, ← bt_getD x 1, ← bt_getD x 2, ← bt_getD x 3]; rfl
/-- How many bytes stand ahead of the first that is no UTF-8. -/
def brk : Nat → List UInt8 → Nat
  | 0, _ => 0
  | n + 1, l => if l = [] then 0 else if runeD l = 0 then 0 else runeD l + brk n (l.drop (runeD l))
def brkL (l : List UInt8) : Nat := brk l.length l
theorem runeD_le (l : List UInt8) (hne : l ≠ []) : runeD l ≤ l.length := by
  unfold runeD; split
  · omega
  · exact Go.Lib.decodeL_le l hne
theorem brk_le : ∀ (n : Nat) (l : List UInt8), brk n l ≤ l.length := by
  intro n
  induction n with
  | zero => intro l; simp [brk]
  | succ n ih =>
    intro l
    rw [brk]
    split
    · omega
    · rename_i hne
      split
      · omega
      · have h1 := runeD_le l hne
        have h2 := ih (l.drop (runeD l))
        rw [List.length_drop] at h2
        omega
theorem brk_more : ∀ (n m : Nat) (l : List UInt8), l.length ≤ n → l.length ≤ m → brk n l = brk m l := by
  intro n
  induction n with
  | zero => intro m l h _; have : l = [] := List.length_eq_zero_iff.1 (by omega); subst this; cases m <;> simp [brk]
  | succ n ih =>
    intro m l h hm
    cases m with
    | zero => have : l = [] := List.length_eq_zero_iff.1 (by omega); subst this; simp [brk]
    | succ m =>
      rw [brk, brk]
      by_cases hne : l = []
      · rw [if_pos hne, if_pos hne]
      · rw [if_neg hne, if_neg hne]
        by_cases h0 : runeD l = 0
        · rw [if_pos h0, if_pos h0]
        · rw [if_neg h0, if_neg h0, ih m _ (by rw [List.length_drop]; omega) (by rw [List.length_drop]; omega)]
theorem brkL_step (l : List UInt8) (hne : l ≠ []) : brkL l = if runeD l = 0 then 0 else runeD l + brkL (l.drop (runeD l)) := by
  unfold brkL
  cases hl : l.length with
  | zero => exact absurd (List.length_eq_zero_iff.1 hl) hne
  | succ n =>
    rw [brk, if_neg hne]
    by_cases h0 : runeD l = 0
    · rw [if_pos h0, if_pos h0]
    · rw [if_neg h0, if_neg h0, brk_more n _ _ (by rw [List.length_drop]; omega) (Nat.le_refl _)]
theorem data_extract (x : ByteArray) (i : Nat) : (x.extract i x.size).data.toList = x.data.toList.drop i := by
  rw [ByteArray.data_extract, Array.toList_extract, List.extract_eq_take_drop]
  exact List.take_of_length_le (by rw [List.length_drop, data_length]; omega)
end Go.Proofs.YtngedmioeodmfaaDoor.Pu
namespace Go.Proofs.YtngedmioeodmfaaDoor.Pu
open Go.RowKit Go.Proofs.YtngedmioeodmfaaDoor.Pr Go.Proofs.YtngedmioeodmfaaDoorW.PrintWords Go.Proofs.YtngedmioeodmfaaDoor.Lx
set_option linter.unusedVariables false
set_option linter.unusedSimpArgs false
theorem decodeGo_L (x : ByteArray) (h : 0 < x.size) : Go.Lib.decodeGo x = Go.Lib.decodeL x.data.toList := by
  unfold Go.Lib.decodeGo
  rw [if_neg (by omega)]
  cases x with | mk d => cases d with | mk l => rfl
def wrongN (l : List UInt8) : Nat := if brkL l = l.length then l.length + 1 else brkL l
theorem wrong_loop (x : ByteArray) (hx : x.size ≤ 1000000) (d : Nat) : ∀ i : Nat, i ≤ x.size → x.size - i ≤ d → Ev (fun k => lex_wrong.l0 k x (i : Int)) ((if i + brkL (x.data.toList.drop i) = x.size then x.size + 1 else i + brkL (x.data.toList.drop i) : Nat) : Int) := by
  have stop : ∀ i : Nat, i ≤ x.size → ¬ i < x.size → Ev (fun k => lex_wrong.l0 k x (i : Int)) ((if i + brkL (x.data.toList.drop i) = x.size then x.size + 1 else i + brkL (x.data.toList.drop i) : Nat) : Int) := by
    intro i hi hn
    have : x.data.toList.drop i = [] := List.drop_eq_nil_of_le (by rw [data_length]; omega)
    rw [this]
    have hz : brkL ([] : List UInt8) = 0 := rfl
    rw [hz, if_pos (by omega)]
    refine Ev.step (f := fun _ => some (wrap64 ((x.size : Int) + 1))) (fun k => ?_) ((Ev.now _).eq (by rw [w64 (by omega) (by omega)]; omega))
    simp only [lex_wrong.l0]
    rw [if_neg (by omega)]
  induction d with
  | zero => intro i hi hd; exact stop i hi (by omega)
  | succ d ih =>
    intro i hi hd
    by_cases hlt : i < x.size
    · have hsz : (x.extract i x.size).size = x.size - i := by rw [← data_length, data_extract, List.length_drop, data_length]
      have hne : x.data.toList.drop i ≠ [] := by
        intro e; have := congrArg List.length e; rw [List.length_drop, data_length] at this; simp at this; omega
      have hle := runeD_le _ hne
      rw [List.length_drop, data_length] at hle
      have hdec : Go.Lib.decodeGo (x.extract i x.size) = Go.Lib.decodeL (x.data.toList.drop i) := by rw [decodeGo_L _ (by omega), data_extract]
      have hle2 := Go.Lib.decodeL_le _ hne
      rw [List.length_drop, data_length] at hle2
      have hw := Go.Lib.decodeL_width (x.data.toList.drop i)
      have hb := brkL_step _ hne
      have hrd : runeD (x.data.toList.drop i) = if (Go.Lib.decodeL (x.data.toList.drop i)).1 = 65533 ∧ (Go.Lib.decodeL (x.data.toList.drop i)).2 = 1 then 0 else (Go.Lib.decodeL (x.data.toList.drop i)).2 := rfl
      have hbl := brk_le (x.data.toList.drop i).length (x.data.toList.drop i)
      refine Ev.step (fun k => ?_) (Ev.some_bind (o := utf8_DecodeRuneInString.f (x.extract i x.size)) (a := (((Go.Lib.decodeL (x.data.toList.drop i)).1 : Int), ((Go.Lib.decodeL (x.data.toList.drop i)).2 : Int))) (f := fun k bt => if bt.1 = 65533 then (if bt.2 = 1 then some (i : Int) else lex_wrong.l0 k x (wrap64 ((i : Int) + bt.2))) else lex_wrong.l0 k x (wrap64 ((i : Int) + bt.2))) (by rw [utf8_DecodeRuneInString.f, hdec]) ?_)
      · simp only [lex_wrong.l0]
        rw [if_pos (by omega), if_pos (by omega), if_pos (by omega), Int.toNat_natCast]
      · simp only
        by_cases h0 : (Go.Lib.decodeL (x.data.toList.drop i)).1 = 65533 ∧ (Go.Lib.decodeL (x.data.toList.drop i)).2 = 1
        · rw [if_pos h0] at hrd
          rw [hrd, if_pos rfl] at hb
          rw [hb, if_neg (by omega)]
          refine Ev.step (f := fun _ => some (i : Int)) (fun k => ?_) ((Ev.now _).eq (by omega))
          rw [if_pos (by omega), if_pos (by omega)]
        · rw [if_neg h0] at hrd
          have h1 : runeD (x.data.toList.drop i) ≠ 0 := by omega
          rw [if_neg h1] at hb
          have hi2 := ih (i + (Go.Lib.decodeL (x.data.toList.drop i)).2) (by omega) (by omega)
          rw [← List.drop_drop, ← hrd] at hi2
          rw [hb]
          have e : ∀ k, (if (((Go.Lib.decodeL (x.data.toList.drop i)).1 : Nat) : Int) = 65533 then (if (((Go.Lib.decodeL (x.data.toList.drop i)).2 : Nat) : Int) = 1 then some (i : Int) else lex_wrong.l0 k x (wrap64 ((i : Int) + (((Go.Lib.decodeL (x.data.toList.drop i)).2 : Nat) : Int)))) else lex_wrong.l0 k x (wrap64 ((i : Int) + (((Go.Lib.decodeL (x.data.toList.drop i)).2 : Nat) : Int)))) = lex_wrong.l0 k x ((i + runeD (x.data.toList.drop i) : Nat) : Int) := by
            intro k
            rw [w64 (by omega) (by omega), ← hrd, Int.natCast_add]
            split
            · split
              · omega
              · rfl
            · rfl
          simp only [e]
          rw [Nat.add_assoc] at hi2
          exact hi2
    · exact stop i hi hlt
theorem wrong_ev (x : ByteArray) (hx : x.size ≤ 1000000) : Ev (fun k => lex_wrong.f k x) ((wrongN x.data.toList : Nat) : Int) := by
  have := wrong_loop x hx x.size 0 (by omega) (by omega)
  simp only [Nat.zero_add, List.drop_zero] at this
  unfold wrongN
  rw [data_length]
  exact this
/-- What Tokens hands back. -/
def tokM (x : ByteArray) : List Tk × Int × Int :=
  if x.size > 3000 then ([], 2, 0) else
  match sm 0 .sk [] (bytesOf x) with
  | .bad j => ([], 8, min (wrongN x.data.toList : Int) (j : Int))
  | .good ts => if (wrongN x.data.toList : Int) ≤ (x.size : Int) then ([], 8, (wrongN x.data.toList : Int)) else (ts, 0, 0)
theorem tokens_ev (x : ByteArray) : Ev (fun k => lex_Tokens.f k x) (tokM x) := by
  unfold tokM lex_Tokens.f
  by_cases h : x.size > 3000
  · rw [if_pos h]
    refine Ev.const fun k => ?_
    rw [if_pos (by omega)]
  · rw [if_neg h]
    have e : ∀ k, (if (x.size : Int) > 3000 then some ([], 2, 0) else (lex_wrong.f k x).bind fun bad => some (tokRes x bad)) = (lex_wrong.f k x).bind fun bad => some (tokRes x bad) := fun k => if_neg (by omega)
    simp only [e]
    refine Ev.bind (wrong_ev x (by omega)) ((Ev.now _).eq ?_)
    first
    | (rw [tokRes_sm]; cases sm 0 .sk [] (bytesOf x) <;> rfl)
    | rw [tokRes_sm]
end Go.Proofs.YtngedmioeodmfaaDoor.Pu
namespace Go.Proofs.YtngedmioeodmfaaDoor.Pu
open Go.RowKit Go.Proofs.YtngedmioeodmfaaDoor.Pr Go.Proofs.YtngedmioeodmfaaDoorW.PrintWords Go.Proofs.YtngedmioeodmfaaDoor.Lx
set_option linter.unusedVariables false
set_option linter.unusedSimpArgs false
/-- The machine's state behind a row. -/
def rs : Nat → St → List Tk → List Int → One
  | _, st, ts, [] => .go st ts
  | i, st, ts, c :: l => match step i c st ts with
    | .bad j => .bad j
    | .go st' ts' => rs (i + 1) st' ts' l
def ends (n : Nat) : One → Out
  | .bad j => .bad j
  | .go st ts => fin n st ts
theorem sm_rs : ∀ l i st ts, sm i st ts l = ends (i + l.length) (rs i st ts l) := by
  intro l
  induction l with
  | nil => intro i st ts; rfl
  | cons c l ih =>
    intro i st ts
    rw [sm, rs]
    cases step i c st ts with
    | bad j => rfl
    | go st' ts' =>
      simp only
      rw [ih, List.length_cons, show i + 1 + l.length = i + (l.length + 1) by omega]
theorem rs_app : ∀ l1 i st ts l2, rs i st ts (l1 ++ l2) = (match rs i st ts l1 with
    | .bad j => .bad j
    | .go st' ts' => rs (i + l1.length) st' ts' l2) := by
  intro l1
  induction l1 with
  | nil => intro i st ts l2; rfl
  | cons c l ih =>
    intro i st ts l2
    rw [List.cons_append, rs, rs]
    cases step i c st ts with
    | bad j => rfl
    | go st' ts' =>
      simp only
      rw [ih, List.length_cons, show i + 1 + l.length = i + (l.length + 1) by omega]
theorem rs_app_go {l1 : List Int} {i : Nat} {st : St} {ts : List Tk} {st' : St} {ts' : List Tk} (h : rs i st ts l1 = .go st' ts') (l2 : List Int) : rs i st ts (l1 ++ l2) = rs (i + l1.length) st' ts' l2 := by
  rw [rs_app, h]
/-- All places further by n; tokens ahead. -/
def upT (n : Nat) (t : Tk) : Tk := ⟨t.f0, t.f1 + n, t.f2⟩
def upS (n : Nat) : St → St
  | .sk => .sk
  | .nt => .nt
  | .wd a acc => .wd (n + a) acc
  | .qt a acc => .qt (n + a) acc
  | .es a p acc => .es (n + a) (n + p) acc
def upO (n : Nat) (t0 : List Tk) : One → One
  | .bad j => .bad (n + j)
  | .go st ts => .go (upS n st) (t0 ++ ts.map (upT n))
theorem st1_up (n : Nat) (t0 : List Tk) (i : Nat) (c : Int) (ts : List Tk) : st1 (n + i) c (t0 ++ ts.map (upT n)) = upO n t0 (st1 i c ts) := by
  unfold st1
  repeat' split
  all_goals simp [upO, upS, upT]
  all_goals omega
theorem step_up (n : Nat) (t0 : List Tk) (i : Nat) (c : Int) (st : St) (ts : List Tk) : step (n + i) c (upS n st) (t0 ++ ts.map (upT n)) = upO n t0 (step i c st ts) := by
  cases st with
  | sk => exact st1_up n t0 i c ts
  | nt => simp only [step, upS]; split <;> rfl
  | wd a acc =>
    simp only [step, upS]
    split
    · rfl
    · have := st1_up n t0 i c (ts ++ [⟨1, a, strOfNums acc⟩])
      rw [← this]
      congr 1
      simp [upT]; omega
  | qt a acc =>
    simp only [step, upS]
    repeat' split
    all_goals simp [upO, upS, upT]
    omega
  | es a p acc =>
    simp only [step, upS]
    split <;> rfl
theorem rs_up (n : Nat) (t0 : List Tk) : ∀ l i st ts, rs (n + i) (upS n st) (t0 ++ ts.map (upT n)) l = upO n t0 (rs i st ts l) := by
  intro l
  induction l with
  | nil => intro i st ts; rfl
  | cons c l ih =>
    intro i st ts
    rw [rs, rs, step_up]
    cases step i c st ts with
    | bad j => rfl
    | go st' ts' => exact ih (i + 1) st' ts'
/-- What a token is written as. -/
def escL (l : List Int) : List Int := l.flatMap fun c => if c = 34 ∨ c = 92 then [92, c] else [c]
theorem escL_nil : escL [] = [] := rfl
theorem escL_cons (c : Int) (l : List Int) : escL (c :: l) = (if c = 34 ∨ c = 92 then [92, c] else [c]) ++ escL l := by simp [escL]
theorem escL_app (l m : List Int) : escL (l ++ m) = escL l ++ escL m := by simp [escL]
def wof (t : Tk) : List Int := if t.f0 = 2 then 34 :: (escL (bytesOf t.f2) ++ [34]) else bytesOf t.f2
def okT (t : Tk) : Prop :=
  (t.f0 = 1 ∧ ∃ c l, bytesOf t.f2 = c :: l ∧ pBlank c = false ∧ c ≠ 35 ∧ pLetter c = true ∧ ∀ x ∈ l, pWord x = true) ∨
  (t.f0 = 2 ∧ ∀ x ∈ bytesOf t.f2, x ≠ 10) ∨
  (∃ c, (c = 40 ∨ c = 41 ∨ c = 59) ∧ t.f0 = opIdx c ∧ bytesOf t.f2 = [c])
def Placed (bs : List Int) : Nat → List Tk → Prop
  | _, [] => True
  | e, t :: r => okT t ∧ ∃ a : Nat, t.f1 = (a : Int) ∧ e ≤ a ∧ (∃ rest, bs.drop a = wof t ++ rest) ∧ Placed bs (a + (wof t).length) r
theorem Placed.weak {bs : List Int} : ∀ {e e' : Nat} {ts : List Tk}, Placed bs e ts → e' ≤ e → Placed bs e' ts
  | _, _, [], _, _ => trivial
  | _, _, _ :: _, ⟨h1, a, h2, h3, h4, h5⟩, h => ⟨h1, a, h2, Nat.le_trans h h3, h4, h5⟩
def Rng (l : List Int) : Prop := ∀ x ∈ l, 0 ≤ x ∧ x ≤ 255
theorem opIdx_ne (c : Int) : opIdx c ≠ 2 := by unfold opIdx; repeat' split
                                               all_goals omega
/-- What has been read stands where it says. -/
def Inv (bs : List Int) (i : Nat) (l : List Int) : St → Prop
  | .sk => True
  | .nt => True
  | .wd a acc => bs.drop a = acc ++ l ∧ a + acc.length = i ∧ Rng acc ∧ ∃ c r, acc = c :: r ∧ pBlank c = false ∧ c ≠ 35 ∧ pLetter c = true ∧ ∀ x ∈ r, pWord x = true
  | .qt a acc => bs.drop a = (34 :: escL acc) ++ l ∧ a + 1 + (escL acc).length = i ∧ Rng acc ∧ ∀ x ∈ acc, x ≠ 10
  | .es a p acc => bs.drop a = (34 :: escL acc) ++ 92 :: l ∧ a + 1 + (escL acc).length + 1 = i ∧ Rng acc ∧ ∀ x ∈ acc, x ≠ 10
def begins (i : Nat) : St → Nat
  | .sk => i
  | .nt => i
  | .wd a _ => a
  | .qt a _ => a
  | .es a _ _ => a
theorem sm_placed (bs : List Int) : ∀ l i st ts out, bs.drop i = l → Rng l → Inv bs i l st → sm i st ts l = .good out → ∃ new, out = ts ++ new ∧ Placed bs (begins i st) new := by
  intro l
  induction l with
  | nil =>
    intro i st ts out hd hr hI e
    rw [sm] at e
    cases st with
    | sk => simp only [fin, Out.good.injEq] at e; exact ⟨[], by simp [e], trivial⟩
    | nt => simp only [fin, Out.good.injEq] at e; exact ⟨[], by simp [e], trivial⟩
    | wd a acc =>
      simp only [fin, Out.good.injEq] at e
      obtain ⟨h1, h2, h3, c, r, h4, h5⟩ := hI
      have hb := bytesOf_str acc h3
      have hw : wof (⟨1, a, strOfNums acc⟩ : Tk) = acc := by unfold wof; rw [if_neg (by simp)]; exact hb
      refine ⟨[⟨1, a, strOfNums acc⟩], e.symm, .inl ⟨rfl, c, r, by rw [hb, h4], h5⟩, a, rfl, Nat.le_refl _, ⟨[], by rw [hw]; exact h1⟩, trivial⟩
    | qt a acc => cases e
    | es a p acc => cases e
  | cons c l ih =>
    intro i st ts out hd hr hI e
    have hd1 : bs.drop (i + 1) = l := by
      rw [← List.drop_drop, hd]; rfl
    have hr1 : Rng l := fun x hx => hr x (List.mem_cons_of_mem _ hx)
    have hrc := hr c List.mem_cons_self
    rw [sm] at e
    -- from between tokens
    have base : ∀ ts, (match st1 i c ts with | .bad j => Out.bad j | .go st' ts' => sm (i + 1) st' ts' l) = .good out → ∃ new, out = ts ++ new ∧ Placed bs i new := by
      intro ts e
      unfold st1 at e
      by_cases p1 : pBlank c = true
      · rw [if_pos p1] at e
        obtain ⟨new, h1, h2⟩ := ih (i + 1) .sk ts out hd1 hr1 trivial e
        exact ⟨new, h1, h2.weak (Nat.le_succ _)⟩
      rw [if_neg p1] at e
      have p1' : pBlank c = false := by cases h : pBlank c with
        | true => exact absurd h p1
        | false => rfl
      by_cases p2 : c = 35
      · rw [if_pos p2] at e
        obtain ⟨new, h1, h2⟩ := ih (i + 1) .nt ts out hd1 hr1 trivial e
        exact ⟨new, h1, h2.weak (Nat.le_succ _)⟩
      rw [if_neg p2] at e
      by_cases p3 : pLetter c = true
      · rw [if_pos p3] at e
        obtain ⟨new, h1, h2⟩ := ih (i + 1) (.wd i [c]) ts out hd1 hr1 ⟨hd, rfl, by intro x hx; simp at hx; subst hx; exact hrc, c, [], rfl, p1', p2, p3, by simp⟩ e
        exact ⟨new, h1, h2⟩
      rw [if_neg p3] at e
      by_cases p4 : c = 34
      · rw [if_pos p4] at e
        obtain ⟨new, h1, h2⟩ := ih (i + 1) (.qt i []) ts out hd1 hr1 ⟨by rw [hd, p4]; rfl, rfl, (by intro x hx; cases hx), by simp⟩ e
        exact ⟨new, h1, h2⟩
      rw [if_neg p4] at e
      by_cases p5 : c = 40 ∨ c = 41 ∨ c = 59
      · rw [if_pos p5] at e
        obtain ⟨new, h1, h2⟩ := ih (i + 1) .sk _ out hd1 hr1 trivial e
        have hb : bytesOf (strOfNums [c]) = [c] := bytesOf_str [c] (by intro x hx; simp at hx; subst hx; exact hrc)
        have hw : wof (⟨opIdx c, i, strOfNums [c]⟩ : Tk) = [c] := by unfold wof; rw [if_neg (opIdx_ne c)]; exact hb
        refine ⟨⟨opIdx c, i, strOfNums [c]⟩ :: new, by rw [h1]; simp, .inr (.inr ⟨c, p5, rfl, hb⟩), i, rfl, Nat.le_refl _, ⟨l, by rw [hw]; exact hd⟩, ?_⟩
        rw [hw]; exact h2
      · rw [if_neg p5] at e; cases e
    cases st with
    | sk => exact base ts e
    | nt =>
      simp only [step] at e
      by_cases p : c = 10
      · rw [if_pos p] at e
        obtain ⟨new, h1, h2⟩ := ih (i + 1) .sk ts out hd1 hr1 trivial e
        exact ⟨new, h1, h2.weak (Nat.le_succ _)⟩
      · rw [if_neg p] at e
        obtain ⟨new, h1, h2⟩ := ih (i + 1) .nt ts out hd1 hr1 trivial e
        exact ⟨new, h1, h2.weak (Nat.le_succ _)⟩
    | wd a acc =>
      obtain ⟨h1, h2, h3, c0, r, h4, h5, h6, h7, h8⟩ := hI
      simp only [step] at e
      by_cases p : pWord c = true
      · rw [if_pos p] at e
        refine ih (i + 1) (.wd a (acc ++ [c])) ts out hd1 hr1 ⟨by rw [h1]; simp, by rw [List.length_append, List.length_singleton]; omega, ?_, c0, r ++ [c], by rw [h4]; rfl, h5, h6, h7, ?_⟩ e
        · intro x hx; rcases List.mem_append.1 hx with hx | hx
          · exact h3 x hx
          · simp at hx; subst hx; exact hrc
        · intro x hx; rcases List.mem_append.1 hx with hx | hx
          · exact h8 x hx
          · simp at hx; subst hx; exact p
      · rw [if_neg p] at e
        obtain ⟨new, hn1, hn2⟩ := base _ e
        have hb := bytesOf_str acc h3
        have hw : wof (⟨1, a, strOfNums acc⟩ : Tk) = acc := by unfold wof; rw [if_neg (by simp)]; exact hb
        refine ⟨⟨1, a, strOfNums acc⟩ :: new, by rw [hn1]; simp, .inl ⟨rfl, c0, r, by rw [hb, h4], h5, h6, h7, h8⟩, a, rfl, Nat.le_refl _, ⟨c :: l, by rw [hw]; exact h1⟩, ?_⟩
        rw [hw, h2]; exact hn2
    | qt a acc =>
      obtain ⟨h1, h2, h3, h4⟩ := hI
      simp only [step] at e
      by_cases p1 : c = 34
      · rw [if_pos p1] at e
        obtain ⟨new, hn1, hn2⟩ := ih (i + 1) .sk _ out hd1 hr1 trivial e
        have hb := bytesOf_str acc h3
        have hw : wof (⟨2, a, strOfNums acc⟩ : Tk) = 34 :: (escL acc ++ [34]) := by unfold wof; rw [if_pos rfl]; show 34 :: (escL (bytesOf (strOfNums acc)) ++ [34]) = _; rw [hb]
        refine ⟨⟨2, a, strOfNums acc⟩ :: new, by rw [hn1]; simp, .inr (.inl ⟨rfl, by show ∀ x ∈ bytesOf (strOfNums acc), x ≠ 10; rw [hb]; exact h4⟩), a, rfl, Nat.le_refl _, ⟨l, by rw [hw, h1, p1]; simp⟩, ?_⟩
        rw [hw]
        have : a + (34 :: (escL acc ++ [34])).length = i + 1 := by simp; omega
        rw [this]; exact hn2
      · rw [if_neg p1] at e
        by_cases p2 : c = 10
        · rw [if_pos p2] at e; cases e
        · rw [if_neg p2] at e
          by_cases p3 : c = 92
          · rw [if_pos p3] at e
            exact ih (i + 1) (.es a i acc) ts out hd1 hr1 ⟨by rw [h1, p3], by omega, h3, h4⟩ e
          · rw [if_neg p3] at e
            have he : escL (acc ++ [c]) = escL acc ++ [c] := by rw [escL_app, escL_cons, escL_nil, if_neg (by omega)]; rfl
            refine ih (i + 1) (.qt a (acc ++ [c])) ts out hd1 hr1 ⟨by rw [h1, he]; simp, by rw [he, List.length_append, List.length_singleton]; omega, ?_, ?_⟩ e
            · intro x hx; rcases List.mem_append.1 hx with hx | hx
              · exact h3 x hx
              · simp at hx; subst hx; exact hrc
            · intro x hx; rcases List.mem_append.1 hx with hx | hx
              · exact h4 x hx
              · simp at hx; subst hx; exact p2
    | es a p acc =>
      obtain ⟨h1, h2, h3, h4⟩ := hI
      simp only [step] at e
      by_cases p1 : c = 34 ∨ c = 92
      · rw [if_pos p1] at e
        have he : escL (acc ++ [c]) = escL acc ++ [92, c] := by rw [escL_app, escL_cons, escL_nil, if_pos p1]; rfl
        refine ih (i + 1) (.qt a (acc ++ [c])) ts out hd1 hr1 ⟨by rw [h1, he]; simp, by rw [he, List.length_append]; simp; omega, ?_, ?_⟩ e
        · intro x hx; rcases List.mem_append.1 hx with hx | hx
          · exact h3 x hx
          · simp at hx; subst hx; exact hrc
        · intro x hx; rcases List.mem_append.1 hx with hx | hx
          · exact h4 x hx
          · simp at hx; subst hx; omega
      · rw [if_neg p1] at e; cases e
/-- The tokens of a text stand where they say. -/
theorem placed (s : ByteArray) (ts : List Tk) (h : sm 0 .sk [] (bytesOf s) = .good ts) : Placed (bytesOf s) 0 ts := by
  obtain ⟨new, h1, h2⟩ := sm_placed (bytesOf s) (bytesOf s) 0 .sk [] ts rfl (bytesOf_range s) trivial h
  rw [h1]; exact h2
end Go.Proofs.YtngedmioeodmfaaDoor.Pu
namespace Go.Proofs.YtngedmioeodmfaaDoor.Pr
open Go.RowKit Go.Proofs.YtngedmioeodmfaaDoorW.PrintWords Go.Proofs.YtngedmioeodmfaaDoorW.PrintLast Go.Proofs.YtngedmioeodmfaaDoorW.PrintMore
attribute [local go_sem] max2_int min2_int max_two min_two max_three min_three max_four min_four   -- for this text's walks alone
set_option linter.unusedVariables false
set_option linter.unusedSimpArgs false
end Go.Proofs.YtngedmioeodmfaaDoor.Pr
namespace Go.Proofs.YtngedmioeodmfaaDoor.Pu
open Go.RowKit Go.Proofs.YtngedmioeodmfaaDoor.Pr Go.Proofs.YtngedmioeodmfaaDoorW.PrintWords Go.Proofs.YtngedmioeodmfaaDoor.Lx
set_option linter.unusedVariables false
set_option linter.unusedSimpArgs false
theorem runeD_ascii (c : UInt8) (l : List UInt8) (h : c.toNat < 128) : runeD (c :: l) = 1 := by
  have := runeD_eq ⟨(c :: l).toArray⟩ (by simp [ByteArray.size])
  have e : bt ⟨(c :: l).toArray⟩ 0 = (c.toNat : Int) := by rw [show (0 : Int) = ((0 : Nat) : Int) from rfl, bt_getD]; rfl
  rw [e] at this
  unfold runeLen at this
  rw [if_pos (by omega)] at this
  have e2 : runeD (c :: l) = runeD (⟨(c :: l).toArray⟩ : ByteArray).data.toList := rfl
  rw [e2]; omega
theorem brkL_ascii (c : UInt8) (l : List UInt8) (h : c.toNat < 128) : brkL (c :: l) = 1 + brkL l := by
  rw [brkL_step _ (by simp), runeD_ascii c l h, if_neg (by omega)]
  rfl
theorem brkL_all_ascii : ∀ l : List UInt8, (∀ c ∈ l, c.toNat < 128) → brkL l = l.length := by
  intro l
  induction l with
  | nil => intro _; rfl
  | cons c l ih =>
    intro h
    rw [brkL_ascii c l (h c List.mem_cons_self), ih (fun x hx => h x (List.mem_cons_of_mem _ hx)), List.length_cons]; omega
theorem data_str (xs : List Int) : (strOfNums xs).data.toList = xs.map fun n => n.toNat.toUInt8 := by rw [strOfNums_data]
theorem tokM_good (x : ByteArray) (h : x.size ≤ 3000) (hv : brkL x.data.toList = x.size) {ts : List Tk} (hs : sm 0 .sk [] (bytesOf x) = .good ts) : tokM x = (ts, 0, 0) := by
  unfold tokM
  rw [if_neg (by omega), hs]
  simp only
  unfold wrongN
  rw [data_length, if_pos hv, if_neg (by omega)]
end Go.Proofs.YtngedmioeodmfaaDoor.Pu
namespace Go.Proofs.YtngedmioeodmfaaDoor.Pu
open Go.RowKit Go.Proofs.YtngedmioeodmfaaDoor.Pr Go.Proofs.YtngedmioeodmfaaDoorW.PrintWords Go.Proofs.YtngedmioeodmfaaDoor.Lx
set_option linter.unusedVariables false
set_option linter.unusedSimpArgs false
def g (l : List UInt8) (j : Nat) : Int := ((l.getD j 0).toNat : Int)
theorem runeD_list (l : List UInt8) (h : l ≠ []) : (runeD l : Int) = runeLen l.length (g l 0) (g l 1) (g l 2) (g l 3) := by
  have hp : 0 < l.length := List.length_pos_iff.2 h
  have := runeD_eq ⟨l.toArray⟩ (by simpa [ByteArray.size] using hp)
  have e0 := bt_getD ⟨l.toArray⟩ 0
  have e1 := bt_getD ⟨l.toArray⟩ 1
  have e2 := bt_getD ⟨l.toArray⟩ 2
  have e3 := bt_getD ⟨l.toArray⟩ 3
  have hs : ((ByteArray.mk l.toArray).size : Int) = l.length := by simp [ByteArray.size]
  rw [show (1 : Int) = ((1 : Nat) : Int) from rfl, show (2 : Int) = ((2 : Nat) : Int) from rfl, show (3 : Int) = ((3 : Nat) : Int) from rfl, show (0 : Int) = ((0 : Nat) : Int) from rfl, e0, e1, e2, e3, hs] at this
  exact this
theorem g_out (l : List UInt8) (j : Nat) (h : l.length ≤ j) : g l j = 0 := by
  unfold g
  rw [List.getD_eq_getElem?_getD, List.getElem?_eq_none h]; rfl
theorem g_left (A B : List UInt8) (j : Nat) (h : j < A.length) : g (A ++ B) j = g A j := by
  unfold g
  rw [List.getD_eq_getElem?_getD, List.getD_eq_getElem?_getD, List.getElem?_append_left h]
theorem runeD_ext (A B : List UInt8) (hA : A ≠ []) (h : runeD A ≠ 0) : runeD (A ++ B) = runeD A := by
  have hp : 0 < A.length := List.length_pos_iff.2 hA
  have e1 := runeD_list A hA
  have e2 := runeD_list (A ++ B) (by simp [hA])
  rw [List.length_append] at e2
  have hb := List.length_pos_iff.2 hA
  have h0 := g_left A B 0
  have h1 := g_left A B 1
  have h2 := g_left A B 2
  have h3 := g_left A B 3
  have o1 := g_out A 1
  have o2 := g_out A 2
  have o3 := g_out A 3
  generalize g (A ++ B) 0 = y0 at *
  generalize g (A ++ B) 1 = y1 at *
  generalize g (A ++ B) 2 = y2 at *
  generalize g (A ++ B) 3 = y3 at *
  generalize g A 0 = x0 at *
  generalize g A 1 = x1 at *
  generalize g A 2 = x2 at *
  generalize g A 3 = x3 at *
  generalize runeD (A ++ B) = r2 at *
  generalize runeD A = r1 at *
  generalize A.length = n at *
  generalize B.length = m at *
  have h0' := h0 hp
  subst h0'
  by_cases n1 : 1 < n
  · have h1' := h1 n1
    subst h1'
    by_cases n2 : 2 < n
    · have h2' := h2 n2
      subst h2'
      by_cases n3 : 3 < n
      · have h3' := h3 n3
        subst h3'
        unfold runeLen at e1 e2
        (repeat' split at e1) <;> (repeat' split at e2) <;> omega
      · have o := o3 (by omega)
        subst o
        unfold runeLen at e1 e2
        (repeat' split at e1) <;> (repeat' split at e2) <;> omega
    · have o := o2 (by omega)
      subst o
      unfold runeLen at e1 e2
      (repeat' split at e1) <;> (repeat' split at e2) <;> omega
  · have o := o1 (by omega)
    subst o
    unfold runeLen at e1 e2
    (repeat' split at e1) <;> (repeat' split at e2) <;> omega
theorem brkL_le (l : List UInt8) : brkL l ≤ l.length := brk_le _ _
theorem brkL_app : ∀ n (A B : List UInt8), A.length ≤ n → brkL A = A.length → brkL (A ++ B) = A.length + brkL B := by
  intro n
  induction n with
  | zero =>
    intro A B h _
    have : A = [] := List.length_eq_zero_iff.1 (by omega)
    subst this
    simp
  | succ n ih =>
    intro A B h hv
    by_cases hA : A = []
    · subst hA; simp
    · have hp : 0 < A.length := List.length_pos_iff.2 hA
      rw [brkL_step A hA] at hv
      by_cases h0 : runeD A = 0
      · rw [if_pos h0] at hv; omega
      · rw [if_neg h0] at hv
        have hle := runeD_le A hA
        have hd : (A.drop (runeD A)).length = A.length - runeD A := List.length_drop
        rw [brkL_step (A ++ B) (by simp [hA]), runeD_ext A B hA h0, if_neg h0, List.drop_append_of_le_length hle, ih (A.drop (runeD A)) B (by omega) (by omega)]
        omega
/-- A row of numbers as bytes is well formed. -/
def toU (l : List Int) : List UInt8 := l.map fun n => n.toNat.toUInt8
def V (l : List Int) : Prop := brkL (toU l) = l.length
theorem toU_app (a b : List Int) : toU (a ++ b) = toU a ++ toU b := by simp [toU]
theorem toU_len (l : List Int) : (toU l).length = l.length := by simp [toU]
theorem toU_bytes (x : ByteArray) : toU (bytesOf x) = x.data.toList := by
  have := congrArg (fun y : ByteArray => y.data.toList) (str_bytesOf x)
  simp only [data_str] at this
  exact this
theorem V_bytes (x : ByteArray) : V (bytesOf x) ↔ brkL x.data.toList = x.size := by
  unfold V; rw [toU_bytes, bytesOf_length]
theorem asc {c : Int} (h0 : 0 ≤ c) (h1 : c < 128) : (c.toNat.toUInt8).toNat < 128 := by
  simp; omega
theorem V_nil : V [] := rfl
theorem V_app {A B : List Int} (hA : V A) (hB : V B) : V (A ++ B) := by
  unfold V at *
  rw [toU_app, brkL_app _ _ _ (Nat.le_refl _) (by rw [toU_len]; exact hA), toU_len, hB, List.length_append]
theorem V_ascii (l : List Int) (h : ∀ c ∈ l, 0 ≤ c ∧ c < 128) : V l := by
  unfold V
  rw [brkL_all_ascii, toU_len]
  intro c hc
  obtain ⟨n, hn, rfl⟩ := List.mem_map.1 hc
  exact asc (h n hn).1 (h n hn).2
theorem bytesOf_app (a b : ByteArray) : bytesOf (a ++ b) = bytesOf a ++ bytesOf b := by
  unfold bytesOf
  simp [ByteArray.data_append]
theorem tokM_of (x : ByteArray) (h : x.size ≤ 3000) (hv : V (bytesOf x)) {ts : List Tk} (hs : sm 0 .sk [] (bytesOf x) = .good ts) : tokM x = (ts, 0, 0) := tokM_good x h ((V_bytes x).1 hv) hs
end Go.Proofs.YtngedmioeodmfaaDoor.Pu
namespace Go.Proofs.YtngedmioeodmfaaDoor.Pu
open Go.RowKit Go.Proofs.YtngedmioeodmfaaDoor.Pr Go.Proofs.YtngedmioeodmfaaDoorW.PrintWords Go.Proofs.YtngedmioeodmfaaDoor.Lx
set_option linter.unusedVariables false
set_option linter.unusedSimpArgs false
theorem escL_ge (l : List Int) : l.length ≤ (escL l).length := by
  induction l with
  | nil => simp [escL]
  | cons c l ih =>
    rw [escL_cons, List.length_append, List.length_cons]
    split
    all_goals simp
    all_goals omega
theorem wof_pos {t : Tk} (h : okT t) : 1 ≤ (wof t).length := by
  unfold wof
  rcases h with ⟨h1, c, l, h2, _⟩ | ⟨h1, _⟩ | ⟨c, _, h1, h2⟩
  · rw [if_neg (by omega), h2]; simp
  · rw [if_pos h1]; simp
  · rw [if_neg (by rw [h1]; exact opIdx_ne c), h2]; simp
theorem Placed.len {bs : List Int} : ∀ {e : Nat} {ts : List Tk}, Placed bs e ts → e ≤ bs.length → ts.length + e ≤ bs.length
  | e, [], _, h => by simpa using h
  | e, t :: r, ⟨hok, a, ha, hea, ⟨rest, hr⟩, hp⟩, h => by
    have h1 := wof_pos hok
    have h2 := congrArg List.length hr
    rw [List.length_drop, List.length_append] at h2
    have := Placed.len hp (by omega)
    rw [List.length_cons]; omega
theorem tokM_cases (x : ByteArray) : (∃ ts, tokM x = (ts, 0, 0) ∧ sm 0 .sk [] (bytesOf x) = .good ts ∧ V (bytesOf x) ∧ x.size ≤ 3000) ∨ (∃ j : Nat, tokM x = ([], 8, (j : Int)) ∧ j ≤ x.size) ∨ (tokM x = ([], 2, 0) ∧ x.size > 3000) := by
  unfold tokM
  by_cases h : x.size > 3000
  · rw [if_pos h]; exact .inr (.inr ⟨rfl, h⟩)
  · rw [if_neg h]
    have hw : (wrongN x.data.toList ≤ x.size) ∨ (wrongN x.data.toList = x.size + 1 ∧ brkL x.data.toList = x.size) := by
      unfold wrongN
      rw [data_length]
      split
      · rename_i q; exact .inr ⟨rfl, q⟩
      · have := brkL_le x.data.toList; rw [data_length] at this; exact .inl this
    cases hs : sm 0 .sk [] (bytesOf x) with
    | bad j =>
      have hj : j ≤ x.size := sm_bad_le x x.size 0 .sk [] j (by omega) (by omega) (fun _ _ _ e => by cases e) hs
      refine .inr (.inl ⟨min (wrongN x.data.toList) j, ?_, by omega⟩)
      simp only; congr 2; omega
    | good ts =>
      simp only
      rcases hw with hw | ⟨hw, hv⟩
      · rw [if_pos (by omega)]; exact .inr (.inl ⟨wrongN x.data.toList, rfl, hw⟩)
      · rw [if_neg (by omega)]; exact .inl ⟨ts, rfl, rfl, (V_bytes x).2 hv, by omega⟩
end Go.Proofs.YtngedmioeodmfaaDoor.Pu
namespace Go.Proofs.YtngedmioeodmfaaDoor.Pu
open Go.RowKit Go.Proofs.YtngedmioeodmfaaDoor.Pr Go.Proofs.YtngedmioeodmfaaDoorW.PrintWords Go.Proofs.YtngedmioeodmfaaDoor.Lx
set_option linter.unusedVariables false
set_option linter.unusedSimpArgs false
def key (t : Tk) : Int × ByteArray := (t.f0, t.f2)
theorem Placed.all {bs : List Int} : ∀ {e : Nat} {ts : List Tk}, Placed bs e ts → ∀ t ∈ ts, okT t ∧ ∃ (a : Nat) (rest : List Int), bs.drop a = wof t ++ rest
  | _, [], _, t, h => by cases h
  | _, x :: r, ⟨hok, a, _, _, ⟨rest, hr⟩, hp⟩, t, h => by
    rcases List.mem_cons.1 h with rfl | h
    · exact ⟨hok, a, rest, hr⟩
    · exact Placed.all hp t h
end Go.Proofs.YtngedmioeodmfaaDoor.Pu
namespace Go.Proofs.YtngedmioeodmfaaDoor.Pu
open Go.RowKit Go.Proofs.YtngedmioeodmfaaDoor.Pr Go.Proofs.YtngedmioeodmfaaDoorW.PrintWords Go.Proofs.YtngedmioeodmfaaDoor.Lx
set_option linter.unusedVariables false
set_option linter.unusedSimpArgs false
theorem w10 : pBlank 10 = true ∧ pWord 10 = false := by decide +kernel
end Go.Proofs.YtngedmioeodmfaaDoor.Pu
