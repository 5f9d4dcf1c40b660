/- The walk of a writer: it writes numbers. -/
import Derived.Test.YtbemfgpdfacdpaaMsg1
import Derived.Test.YtbemfgpdfacdpaaWTab
import Derived.Test.YtbemfgpdfacdpaaWInv
import Derived.Test.YtbemfgpdfacdpaaWInvWords
namespace Go.Proofs.Ytbemfgpdfacdpaa.Ms
open Go.RowKit Go.Proofs.YtbemfgpdfacdpaaW.PrintWords Go.Proofs.YtbemfgpdfacdpaaW.PrintLast Go.Proofs.YtbemfgpdfacdpaaW.PrintMore
open Go.Proofs.Ytbemfgpdfacdpaa.QT (OwnAt)
set_option linter.unusedVariables false
set_option linter.unusedSimpArgs false
/-- What a writer's call keeps: what is elder than its block, and what is no row of bytes. -/
structure WK (w w' : World) (g : Nat) : Prop where
  os : w'.os = w.os
  tape : w'.tape = w.tape
  output : w'.output = w.output
  size : w.heap.size ≤ w'.heap.size
  block : ∀ k, k < w.heap.size → k ≠ g → (k < g ∨ ∃ cs t fr, w.heap[k]? = some (.cells cs t fr) ∧ t ≠ 5) → w'.heap[k]? = w.heap[k]?
theorem WK.refl (w : World) (g : Nat) : WK w w g := ⟨rfl, rfl, rfl, Nat.le_refl _, fun _ _ _ _ => rfl⟩
theorem WK.trans {w w1 w2 : World} {g : Nat} (h : WK w w1 g) (k : WK w1 w2 g) : WK w w2 g :=
  ⟨k.os.trans h.os, k.tape.trans h.tape, k.output.trans h.output, Nat.le_trans h.size k.size, fun i hi hg hc => by
    have h1 := h.block i hi hg hc
    refine (k.block i (Nat.lt_of_lt_of_le hi h.size) hg ?_).trans h1
    rcases hc with hc | ⟨cs, t, fr, h2, h3⟩
    · exact .inl hc
    · exact .inr ⟨cs, t, fr, h1.trans h2, h3⟩⟩
theorem WK.of_below {w w' : World} {g : Nat} (h : Below w.heap.size w w') : WK w w' g := ⟨h.os, h.tape, h.output, h.size, fun i hi _ _ => h.block i hi⟩
theorem WK.alloc {w w' : World} {g : Nat} (h : WK w w' g) (o : Obj) : WK w (w'.alloc o) g := h.trans (.of_below (below_alloc (Below.refl _ _) o))
theorem WK.drewN {w w' : World} {g : Nat} (h : WK w w' g) (n : Nat) : WK w (w'.drewN n) g := h.trans (.of_below (pw_below_drewN (Below.refl _ _) n))
theorem WK.set {w w' : World} {g : Nat} (h : WK w w' g) (j : Nat) (u : Value) : WK w (w'.setCell ⟨g, j, none⟩ u) g :=
  h.trans ⟨rfl, rfl, rfl, by simp [World.setCell], fun i _ hg _ => Below.heap_setCell w' ⟨g, j, none⟩ u i hg⟩
theorem WK.below {w w' : World} {g : Nat} (h : WK w w' g) (hg : g ≤ w.heap.size) : Below g w w' := ⟨h.os, h.tape, h.output, h.size, fun i hi => h.block i (by omega) (by omega) (.inl hi)⟩
theorem WK.blk {w w' : World} {g k : Nat} {cs : Array Value} {t : TypeId} {fr : Nat × Nat} (h : WK w w' g) (hk : w.heap[k]? = some (.cells cs t fr)) (hne : k ≠ g) (ht : t ≠ 5) : w'.heap[k]? = some (.cells cs t fr) :=
  (h.block k (blk_lt hk) hne (.inr ⟨cs, t, fr, hk, ht⟩)).trans hk
theorem WK.grown {w w' : World} {g : Nat} {A : Option Addr} {n c : Nat} {xs : List Value} (hO : OwnAt w (g + 1) 5 (.slice A n c) xs) (hA : xs = [] → A = none) (hg : w.grownBy w' (Value.slice A n c).ownBlock) : WK w w' g :=
  ⟨hg.os, hg.tape, hg.output, hg.size, fun i hi hne hc => hg.block i hi (fun he => by
    have h1 := hO.base_le i he.symm
    rcases hc with hc | ⟨cs, t, fr, h2, h3⟩
    · omega
    · obtain ⟨A', c', hv, h4, _, _, h5, h6⟩ := hO
      cases hv
      cases xs with
      | nil => rw [hA rfl] at he; cases he
      | cons x xs =>
        obtain ⟨b, off, cs', hA', _, h7, _⟩ := h5 (Nat.lt_of_lt_of_le (Nat.succ_pos _) h4)
        rw [hA'] at he
        cases he
        rw [h7] at h2
        cases h2
        exact h3 rfl)⟩
def wnum (v : Int) : Nat → List Int
  | 0 => []
  | i + 1 => (v % 18446744073709551616 / 256 ^ i) % 256 :: wnum v i
/-- The writer at block g: its bytes (of its own), whether it is bad. -/
def Wr (w : World) (g : Nat) (l : List Int) (bad : Bool) : Prop :=
  ∃ A n c, w.heap[g]? = some (.cells #[.slice A n c, .bool bad] 51 (0, 0)) ∧ n = l.length ∧ (l = [] → A = none) ∧ OwnAt w (g + 1) 5 (.slice A n c) (nums .u8 l)
theorem infoB : (Try.prog.info? 5).map (fun i => (i.zero, i.size, i.bytes)) = some (some (.int .u8 0), 1, 1) := by kernel_rfl
theorem info_parts {P : Program} {e : TypeId} {z : Value} {s b : Nat} (h : (P.info? e).map (fun i => (i.zero, i.size, i.bytes)) = some (some z, s, b)) : ∃ i, P.info? e = some i ∧ i.zero = some z ∧ i.size = s ∧ i.bytes = b := by
  cases hi : P.info? e with
  | none => rw [hi] at h; cases h
  | some i => rw [hi] at h; simp only [Option.map_some, Option.some.injEq, Prod.mk.injEq] at h; exact ⟨i, rfl, h.1, h.2.1, h.2.2⟩
theorem shr_run (v : Int) (j : Nat) (hj : j ≤ 7) (w : World) : (Op.shift BinOp.shr IntKind.u64 (IntKind.u64.wrap v) IntKind.i64 (wrap64 (8 * (j : Int)))).run Try.prog w = .ok (.int .u64 (v % 18446744073709551616 / 256 ^ j)) w := by
  have e1 : wrap64 (8 * (j : Int)) = 8 * (j : Int) := by unfold wrap64; omega
  have e2 : IntKind.u64.wrap v = v % 18446744073709551616 := by simp [IntKind.wrap, IntKind.signed, IntKind.bits]
  rw [e1, e2]
  unfold Op.shift
  rw [if_neg (by omega)]
  have e3 : min (8 * (j : Int)).toNat IntKind.u64.bits = 8 * j := by
    rw [show (8 * (j : Int)).toNat = 8 * j by omega, show IntKind.u64.bits = 64 from rfl]
    omega
  simp only [e3]
  have e4 : (v % 18446744073709551616).fdiv (2 ^ (8 * j)) = v % 18446744073709551616 / 256 ^ j := by
    rw [Int.fdiv_eq_ediv_of_nonneg _ (Int.pow_nonneg (by decide)), Int.pow_mul]
    rfl
  rw [e4]
  rfl
theorem byte_run (x : Int) (w : World) : (convert 61 5 (.int .u64 x)).run Try.prog w = .ok (.int .u8 (x % 256)) w := by
  have e : ∀ x, IntKind.u8.wrap x = x % 256 := fun x => by simp [IntKind.wrap, IntKind.signed, IntKind.bits]
  go_simp
theorem wnum_length (v : Int) : ∀ n, (wnum v n).length = n
  | 0 => rfl
  | n + 1 => by rw [wnum, List.length_cons, wnum_length v n]
def wn3.T3 : Bool × List (List Nat × List Nat) := (true, [([], []), ([], []), ([1], [1]), ([2], [2]), ([3], [3]), ([], []), ([5], [5]), ([], []), ([7], [7]), ([6, 8], [6, 8]), ([9], [9]), ([10], [10]), ([4, 11], [4, 11]), ([0, 0, 1, 2, 3, 4, 5, 6, 7, 8, 9, 10, 11, 12], [0]), ([13, 0, 1, 2, 3, 4, 5, 6, 7, 8, 9, 10, 11, 12], [13]), ([14, 12, 12, 0, 1, 2, 3, 4, 5, 6, 7, 8, 9, 10, 11, 12], [12, 14])])
def wn3.B3 : List Nat := [0, 0, 2, 6, 14, 0, 32, 0, 128, 480, 992, 2016, 4094, 8191, 16383, 32767]
theorem wn3.tab3 : rtab .any (opsOf Try.f17 3) = wn3.T3 := by kernel_rfl
theorem wn3.bits3 : waitsOk wn3.T3.2 wn3.B3 = true := by kernel_rfl

set_option maxHeartbeats 1000000 in
set_option maxRecDepth 100000 in
theorem wnum_calls (w : World) (g : Nat) (l : List Int) (bad : Bool) (v : Int) (size : Nat) (h : Wr w g l bad) (hs : size ≤ 8) (hl : l.length ≤ 140737488350000) :
    Calls Try.prog 17 #[.pointer (some ⟨g, 0, none⟩), .int .i64 v, .int .i64 size] w fun e w' => e = .returned (.tuple #[]) ∧ Wr w' g (l ++ wnum v size) bad ∧ WK w w' g := by
  have HR := Aside0.mk h
  have HS := Aside0.mk hs
  have HL := Aside0.mk hl
  clear h hs hl
  go_enter Try.func17, Try.ntmps17
  have hs8 := HS.out
  go_wp2_with fail
  go_loopg [6] 8 (fun gk v6 wr => ∃ (k : Nat) (acc : List Int), v6 = .int .i64 ((k : Int) - 1) ∧ Aside0 (k ≤ 8) ∧ Aside0 (k ≤ gk) ∧ Aside0 (acc ++ wnum v k = l ++ wnum v size) ∧ Aside0 (Wr wr g acc bad) ∧ Aside0 (WK w wr g))
  case atStart => exact ⟨size, l, by first | go_num | (rw [show wrap64 ((size : Int) - 1) = (size : Int) - 1 by unfold wrap64; omega]), HS, ⟨by omega⟩, ⟨rfl⟩, HR, ⟨WK.refl _ _⟩⟩
  case round =>
    clear HR
    obtain ⟨k, acc, rfl, HK8, HGK, HA, HR, HW⟩ := hrel
    have hk8 := HK8.out
    by_cases hlt : 0 < k
    · have l1 : decide ((0 : Int) ≤ (k : Int) - 1) = true := decide_eq_true (by omega)
      obtain ⟨i, hi⟩ : ∃ i : Int, i = (k : Int) - 1 := ⟨_, rfl⟩
      rw [← hi] at l1 ⊢
      have HI := Aside0.mk hi
      clear hi
      obtain ⟨A, n, c, hb, hn, hz, hO⟩ := HR.out
      obtain ⟨x, hx⟩ : ∃ x : Int, x = (v % 18446744073709551616 / 256 ^ (k - 1)) % 256 := ⟨_, rfl⟩
      obtain ⟨j, hj⟩ : ∃ j, k = j + 1 := ⟨k - 1, by omega⟩
      have hij : i = (j : Int) := by rw [HI.out, hj]; omega
      have hsh : ∀ w', (Op.shift BinOp.shr IntKind.u64 (IntKind.u64.wrap v) IntKind.i64 (wrap64 (8 * i))).run Try.prog w' = .ok (.int .u64 (v % 18446744073709551616 / 256 ^ j)) w' := fun w' => by rw [hij]; exact shr_run v j (by omega) w'
      have hcv : ∀ w', (convert 61 5 (.int .u64 (v % 18446744073709551616 / 256 ^ j))).run Try.prog w' = .ok (.int .u8 x) w' := fun w' => by rw [hx, hj]; exact byte_run _ w'
      have HJ := Aside0.mk hj
      have HIJ := Aside0.mk hij
      clear hj hij
      have HB := Aside0.mk hb
      have HN := Aside0.mk hn
      have HZ := Aside0.mk hz
      have HO := Aside0.mk hO
      have HX := Aside0.mk hx
      have HBA : Aside0 ((wr.drew.alloc (.cells #[.int .u8 x] 5)).heap[g]? = _) := ⟨blk_alloc (show wr.drew.heap[g]? = _ from hb) _⟩
      have HOA : Aside0 (OwnAt (wr.drew.alloc (.cells #[.int .u8 x] 5)) (g + 1) 5 (.slice A n c) (nums .u8 acc)) := ⟨(show OwnAt wr.drew _ _ _ _ from hO).alloc _⟩
      have HBD : Aside0 (((nums .u8 acc).length + (nums .u8 [x]).length) * 1 ≤ 140737488355328) := ⟨by
        have h1 := congrArg List.length HA.out
        rw [List.length_append, List.length_append, wnum_length, wnum_length] at h1
        have := HL.out
        rw [nums_length, nums_length]
        show (_ + 1) * 1 ≤ _
        omega⟩
      have HGS : Aside0 (g + 1 ≤ (wr.drew.alloc (.cells #[.int .u8 x] 5)).heap.size) := ⟨by have := blk_lt hb; show g + 1 ≤ (wr.drew.alloc _).heap.size; simp; omega⟩
      obtain ⟨i0, hi0, hz0, hz1, hz2⟩ := info_parts infoB
      clear hb hn hz hO hx
      go_upto_region 3 with (fail)
      refine start_ (n := 16) (S := fun w' => True) (ds := []) #[false, false, false, false, false, false, false, false, false, false, false, false, false, false, false, false] (by kernel_rfl) rfl rfl trivial (fun hHeld => ?_)
      refine with_tabW wn3.tab3 wn3.bits3 (fun HT_ HW_ => ?_)
      have C : Aside0 (wr.drew.cell? ⟨g, 0, none⟩ = some (.slice A n c)) := ⟨blk_cell (show wr.drew.heap[g]? = _ from HB.out) 0⟩
      have P0 := ()
      refine pure_ (i := 0) (N := some 13) (v := ?_) (a' := ?_) #[true, false, false, false, false, false, false, false, false, false, false, false, false, false, false, false] rfl rfl (any_of HT_.out (by kernel_rfl)) (fun _ _ _ h => h) (Or.inl ⟨by rfl, ?_⟩) ?_ ?_
      rotate_left
      · intro w'
        go_simp
        with_reducible rfl
      rotate_left
      · simp only [Act.put, List.setIfInBounds_toArray, List.set_cons_zero, List.set_cons_succ, i64_w, i32_w]
        rfl
      refine pure_ (i := 1) (N := some 14) (v := ?_) (a' := ?_) #[true, true, false, false, false, false, false, false, false, false, false, false, false, false, false, false] rfl rfl (any_of HT_.out (by kernel_rfl)) (fun _ _ _ h => h) (Or.inl ⟨by rfl, ?_⟩) ?_ ?_
      rotate_left
      · intro w'
        go_simp
        with_reducible rfl
      rotate_left
      · simp only [Act.put, List.setIfInBounds_toArray, List.set_cons_zero, List.set_cons_succ, i64_w, i32_w]
        rfl
      refine pure_ (i := 2) (N := some 15) (v := ?_) (a' := ?_) #[true, true, true, false, false, false, false, false, false, false, false, false, false, false, false, false] rfl rfl (any_of HT_.out (by kernel_rfl)) (fun _ _ _ h => h) (Or.inl ⟨by rfl, ?_⟩) ?_ ?_
      rotate_left
      · intro w'
        go_simp
        with_reducible rfl
      rotate_left
      · simp only [Act.put, List.setIfInBounds_toArray, List.set_cons_zero, List.set_cons_succ, i64_w, i32_w]
        rfl
      refine pure_ (i := 3) (N := some 16) (v := ?_) (a' := ?_) #[true, true, true, true, false, false, false, false, false, false, false, false, false, false, false, false] rfl rfl (any_of HT_.out (by kernel_rfl)) (fun _ _ _ h => h) (Or.inl ⟨by rfl, ?_⟩) ?_ ?_
      rotate_left
      · intro w'
        go_simp
        with_reducible rfl
      rotate_left
      · simp only [Act.put, List.setIfInBounds_toArray, List.set_cons_zero, List.set_cons_succ, i64_w, i32_w]
        rfl
      refine pure_ (i := 5) (N := some 18) (v := ?_) (a' := ?_) #[true, true, true, true, false, true, false, false, false, false, false, false, false, false, false, false] rfl rfl (any_of HT_.out (by kernel_rfl)) (fun _ _ _ h => h) (Or.inl ⟨by rfl, ?_⟩) ?_ ?_
      rotate_left
      · intro w'
        go_simp
        with_reducible rfl
      rotate_left
      · simp only [Act.put, List.setIfInBounds_toArray, List.set_cons_zero, List.set_cons_succ, i64_w, i32_w]
        rfl
      refine pure_ (i := 6) (N := some 19) (v := ?_) (a' := ?_) #[true, true, true, true, false, true, true, false, false, false, false, false, false, false, false, false] rfl rfl (any_of HT_.out (by kernel_rfl)) (fun _ _ _ h => h) (Or.inl ⟨by rfl, ?_⟩) ?_ ?_
      rotate_left
      · intro w'
        go_simp
        with_reducible rfl
      rotate_left
      · simp only [Act.put, List.setIfInBounds_toArray, List.set_cons_zero, List.set_cons_succ, i64_w, i32_w]
        rfl
      refine pure_ (i := 7) (N := some 20) (v := ?_) (a' := ?_) #[true, true, true, true, false, true, true, true, false, false, false, false, false, false, false, false] rfl rfl (any_of HT_.out (by kernel_rfl)) (fun _ _ _ h => h) (Or.inl ⟨by rfl, ?_⟩) ?_ ?_
      rotate_left
      · intro w'
        go_simp
        with_reducible rfl
      rotate_left
      · simp only [Act.put, List.setIfInBounds_toArray, List.set_cons_zero, List.set_cons_succ, i64_w, i32_w]
        rfl
      refine pure_ (i := 8) (N := some 21) (v := ?_) (a' := ?_) #[true, true, true, true, false, true, true, true, true, false, false, false, false, false, false, false] rfl rfl (any_of HT_.out (by kernel_rfl)) (fun _ _ _ h => h) (Or.inl ⟨by rfl, ?_⟩) ?_ ?_
      rotate_left
      · intro w'
        go_simp
        with_reducible rfl
      rotate_left
      · simp only [Act.put, List.setIfInBounds_toArray, List.set_cons_zero, List.set_cons_succ, i64_w, i32_w]
        rfl
      refine pure_ (i := 9) (N := some 22) (v := ?_) (a' := ?_) #[true, true, true, true, false, true, true, true, true, true, false, false, false, false, false, false] rfl rfl (any_of HT_.out (by kernel_rfl)) (fun _ _ _ h => h) (Or.inl ⟨by rfl, ?_⟩) ?_ ?_
      rotate_left
      · intro w'
        go_simp
        with_reducible rfl
      rotate_left
      · simp only [Act.put, List.setIfInBounds_toArray, List.set_cons_zero, List.set_cons_succ, i64_w, i32_w]
        rfl
      refine pure_ (i := 10) (N := some 23) (v := ?_) (a' := ?_) #[true, true, true, true, false, true, true, true, true, true, true, false, false, false, false, false] rfl rfl (any_of HT_.out (by kernel_rfl)) (fun _ _ _ h => h) (Or.inl ⟨by rfl, ?_⟩) ?_ ?_
      rotate_left
      · intro w'
        go_simp
        with_reducible rfl
      rotate_left
      · simp only [Act.put, List.setIfInBounds_toArray, List.set_cons_zero, List.set_cons_succ, i64_w, i32_w]
        rfl
      refine inv_at [4, 11, 12, 13, 14, 15] (fun a0_ b a w' => ∃ (A2 : Option Addr) (n2 : Nat) (c2 : Nat) (m12_ : Value), a = putSel a0_ b [(4, 17, .slice A n c), (11, 24, .slice (some ⟨wr.heap.size, 0, none⟩) 1 1), (12, 25, m12_), (13, 26, .pointer (some ⟨g, 0, none⟩)), (14, 27, .pointer (some ⟨g, 0, none⟩))] ∧ (b 12 = false → w'.cell? ⟨g, 0, none⟩ = some (.slice A n c)) ∧ (b 11 = false → w' = wr.drew) ∧ (b 11 = true → b 12 = false → w' = wr.drew.alloc (.cells #[.int .u8 x] 5)) ∧ (b 12 = true → b 15 = false → n2 = (acc ++ [x]).length ∧ OwnAt w' (g + 1) 5 (.slice A2 n2 c2) (nums .u8 (acc ++ [x])) ∧ w'.heap[g]? = some (.cells #[.slice A n c, .bool bad] 51 (0, 0)) ∧ WK wr w' g) ∧ (b 15 = true → Wr w' g (acc ++ [x]) bad ∧ WK wr w' g) ∧ (b 12 = true → (m12_ : Value) = .slice A2 n2 c2)) HT_.out HW_.out (by kernel_rfl) (by kernel_rfl) ?_ ?_ ?_
      · exact ⟨none, 0, 0, .bool false, by simp only [putSel, Bool.false_eq_true, if_false], fun _ => C.out, fun _ => rfl, fun h_ => absurd h_ (by decide), fun h_ => absurd h_ (by decide), fun h_ => absurd h_ (by decide), fun h_ => absurd h_ (by decide)⟩
      · skip
        clear C P0
        refine steps_cons ?_ ?_
        · rintro b a w' ⟨A2, n2, c2, m12_, ha, Q_C, Q_P0, Q_P1, Q_P2, Q_P3, Q_X12_⟩ hb_ hon hoff
          refine ⟨_, rfl, fun K hK => ?_⟩
          have e16 : a.tmps[16]? = some (.pointer (some ⟨g, 0, none⟩)) := by rw [ha]; exact (putSel_off rfl).trans rfl
          replace ha := Aside0.mk ha
          have C := Aside0.mk (Q_C (hoff 12 (by kernel_rfl)))
          have m0 := C.out
          refine value_ (w1 := w') (v := .slice A n c) (by rfl) rfl ?_ ?_
          · go_simp
            (try simp only [i64_w])
            try rfl
          refine hK.out _ _ ⟨A2, n2, c2, m12_, (by rw [ha.out]; exact putSel_upk 0 hb_ rfl rfl rfl), fun _ => C.out, Q_P0, Q_P1, fun h0_ _ => absurd ((hoff 12 (by kernel_rfl)).symm.trans h0_) (by decide), fun h0_ => absurd ((hoff 15 (by kernel_rfl)).symm.trans h0_) (by decide), fun h0_ => absurd ((hoff 12 (by kernel_rfl)).symm.trans h0_) (by decide)⟩
        refine steps_cons ?_ ?_
        · rintro b a w' ⟨A2, n2, c2, m12_, ha, Q_C, Q_P0, Q_P1, Q_P2, Q_P3, Q_X12_⟩ hb_ hon hoff
          refine ⟨_, rfl, fun K hK => ?_⟩
          have e23 : a.tmps[23]? = some (.int .u8 x) := by rw [ha]; exact (putSel_off rfl).trans rfl
          replace ha := Aside0.mk ha
          have C := Aside0.mk (Q_C (hoff 12 (by kernel_rfl)))
          have P0 := Aside0.mk (Q_P0 hb_)
          have hw := P0.out
          subst hw
          refine value_ (w1 := wr.drew.alloc (.cells #[.int .u8 x] 5)) (v := .slice (some ⟨wr.heap.size, 0, none⟩) 1 1) (by rfl) rfl (by go_simp) ?_
          refine hK.out _ _ ⟨A2, n2, c2, m12_, (by rw [ha.out]; exact putSel_upk 1 hb_ rfl rfl rfl), fun _ => (blk_cell (show (wr.drew.alloc _).heap[g]? = _ from blk_alloc (show wr.drew.heap[g]? = _ from HB.out) _) 0), fun h0_ => absurd ((up_self b 11).symm.trans h0_) (by decide), fun _ _ => rfl, fun h0_ _ => absurd ((hoff 12 (by kernel_rfl)).symm.trans h0_) (by decide), fun h0_ => absurd ((hoff 15 (by kernel_rfl)).symm.trans h0_) (by decide), fun h0_ => absurd ((hoff 12 (by kernel_rfl)).symm.trans h0_) (by decide)⟩
        refine steps_cons ?_ ?_
        · rintro b a w' ⟨A2, n2, c2, m12_, ha, Q_C, Q_P0, Q_P1, Q_P2, Q_P3, Q_X12_⟩ hb_ hon hoff
          refine ⟨_, rfl, fun K hK => ?_⟩
          have e17 : a.tmps[17]? = some (.slice A n c) := by rw [ha]; exact putSel_on (e := (4, 17, .slice A n c)) 0 rfl rfl (hon 4 (by kernel_rfl)) rfl
          have e24 : a.tmps[24]? = some (.slice (some ⟨wr.heap.size, 0, none⟩) 1 1) := by rw [ha]; exact putSel_on (e := (11, 24, .slice (some ⟨wr.heap.size, 0, none⟩) 1 1)) 1 rfl rfl (hon 11 (by kernel_rfl)) rfl
          replace ha := Aside0.mk ha
          have C := Aside0.mk (Q_C hb_)
          have P1 := Aside0.mk (Q_P1 (hon 11 (by kernel_rfl)) hb_)
          have hw := P1.out
          subst hw
          refine QT.append_step (N := some 25) (by rfl) rfl _ _ 30 30 rfl 5 i0 (.int .u8 0) 1 Try.underlying30 hi0 hz0 rfl hz1 hz2 (eval_of e17) HOA.out _ (eval_of e24) (nums .u8 [x]) (QT.src_byte Try.underlying30 .u8 x wr.drew 5) (QT.nums_one _ _) HBD.out (by decide) HGS.out ?_
          intro v2 w2 hO2 hG2 hv2
          obtain ⟨A2_, c2_, e2_, hl2_, _⟩ := hO2.slice
          rw [← nums_append, nums_length] at e2_
          subst e2_
          rw [← nums_append] at hO2
          refine hK.out _ _ ⟨A2_, (acc ++ [x]).length, c2_, (.slice A2_ (acc ++ [x]).length c2_), (by rw [ha.out]; exact putSel_upk 2 hb_ rfl rfl rfl), fun h0_ => absurd ((up_self b 12).symm.trans h0_) (by decide), fun h0_ => absurd ((hon 11 (by kernel_rfl)).symm.trans h0_) (by decide), fun _ h1_ => absurd ((up_self b 12).symm.trans h1_) (by decide), fun _ _ => ⟨rfl, hO2, (hG2.block _ (blk_lt HBA.out) (by intro he; have := HO.out.base_le _ he.symm; omega)).trans HBA.out, ((WK.refl wr g).trans (.of_below (below_drew (Below.refl _ _)))).alloc _ |>.trans (WK.grown HOA.out (fun h => HZ.out (by simpa [nums] using h)) hG2)⟩, fun h0_ => absurd ((hoff 15 (by kernel_rfl)).symm.trans h0_) (by decide), fun _ => rfl⟩
        refine steps_cons ?_ ?_
        · rintro b a w' ⟨A2, n2, c2, m12_, ha, Q_C, Q_P0, Q_P1, Q_P2, Q_P3, Q_X12_⟩ hb_ hon hoff
          refine ⟨_, rfl, fun K hK => ?_⟩
          have e13 : a.tmps[13]? = some (.pointer (some ⟨g, 0, none⟩)) := by rw [ha]; exact (putSel_off rfl).trans rfl
          replace ha := Aside0.mk ha
          have P2 := Aside0.mk (Q_P2 (hon 12 (by kernel_rfl)) (hoff 15 (by kernel_rfl)))
          refine value_ (w1 := w') (v := .pointer (some ⟨g, 0, none⟩)) (by rfl) rfl ?_ ?_
          · go_simp
            (try simp only [i64_w])
            try rfl
          refine hK.out _ _ ⟨A2, n2, c2, m12_, (by rw [ha.out]; exact putSel_upk 3 hb_ rfl rfl rfl), fun h0_ => absurd ((hon 12 (by kernel_rfl)).symm.trans h0_) (by decide), fun h0_ => absurd ((hon 11 (by kernel_rfl)).symm.trans h0_) (by decide), fun _ h1_ => absurd ((hon 12 (by kernel_rfl)).symm.trans h1_) (by decide), Q_P2, fun h0_ => absurd ((hoff 15 (by kernel_rfl)).symm.trans h0_) (by decide), Q_X12_⟩
        refine steps_cons ?_ ?_
        · rintro b a w' ⟨A2, n2, c2, m12_, ha, Q_C, Q_P0, Q_P1, Q_P2, Q_P3, Q_X12_⟩ hb_ hon hoff
          refine ⟨_, rfl, fun K hK => ?_⟩
          have e26 : a.tmps[26]? = some (.pointer (some ⟨g, 0, none⟩)) := by rw [ha]; exact putSel_on (e := (13, 26, .pointer (some ⟨g, 0, none⟩))) 3 rfl rfl (hon 13 (by kernel_rfl)) rfl
          replace ha := Aside0.mk ha
          have P2 := Aside0.mk (Q_P2 (hon 12 (by kernel_rfl)) (hoff 15 (by kernel_rfl)))
          refine value_ (w1 := w') (v := .pointer (some ⟨g, 0, none⟩)) (by rfl) rfl ?_ ?_
          · go_simp
            (try simp only [i64_w])
            try rfl
          refine hK.out _ _ ⟨A2, n2, c2, m12_, (by rw [ha.out]; exact putSel_upk 4 hb_ rfl rfl rfl), fun h0_ => absurd ((hon 12 (by kernel_rfl)).symm.trans h0_) (by decide), fun h0_ => absurd ((hon 11 (by kernel_rfl)).symm.trans h0_) (by decide), fun _ h1_ => absurd ((hon 12 (by kernel_rfl)).symm.trans h1_) (by decide), Q_P2, fun h0_ => absurd ((hoff 15 (by kernel_rfl)).symm.trans h0_) (by decide), Q_X12_⟩
        refine steps_cons ?_ ?_
        · rintro b a w' ⟨A2, n2, c2, m12_, ha, Q_C, Q_P0, Q_P1, Q_P2, Q_P3, Q_X12_⟩ hb_ hon hoff
          refine ⟨_, rfl, fun K hK => ?_⟩
          have e27 : a.tmps[27]? = some (.pointer (some ⟨g, 0, none⟩)) := by rw [ha]; exact putSel_on (e := (14, 27, .pointer (some ⟨g, 0, none⟩))) 4 rfl rfl (hon 14 (by kernel_rfl)) rfl
          have e25 : a.tmps[25]? = some (m12_) := by rw [ha]; exact putSel_on (e := (12, 25, m12_)) 2 rfl rfl (hon 12 (by kernel_rfl)) rfl
          rw [Q_X12_ (hon 12 (by kernel_rfl))] at e25
          replace ha := Aside0.mk ha
          have P2 := Aside0.mk (Q_P2 (hon 12 (by kernel_rfl)) hb_)
          obtain ⟨p1, p2, p3, p4⟩ := P2.out
          have m0 : w'.cell? ⟨g, 0, none⟩ = some (.slice A n c) := blk_cell p3 0
          have f0 := blk_frozen p3 0
          refine skip_ (w1 := w'.setCell ⟨g, 0, none⟩ (.slice A2 n2 c2)) (by rfl) rfl (by go_simp) ?_
          refine hK.out _ _ ⟨A2, n2, c2, m12_, (by rw [ha.out]; exact putSel_none (v := undef) rfl), fun h0_ => absurd ((hon 12 (by kernel_rfl)).symm.trans h0_) (by decide), fun h0_ => absurd ((hon 11 (by kernel_rfl)).symm.trans h0_) (by decide), fun _ h1_ => absurd ((hon 12 (by kernel_rfl)).symm.trans h1_) (by decide), fun _ h1_ => absurd ((up_self b 15).symm.trans h1_) (by decide), fun _ => ⟨⟨A2, n2, c2, blk_set p3 0 _, p1, (fun h => absurd h (by simp)), p2.setCell (p := ⟨g, 0, none⟩) (by intro he; have := p2.base_le _ he; simp at this; omega) _⟩, p4.set 0 _⟩, Q_X12_⟩
        exact steps_nil
      · rintro b a w' hall ⟨A2, n2, c2, m12_, ha, Q_C, Q_P0, Q_P1, Q_P2, Q_P3, Q_X12_⟩
        clear C P0
        have hb4_ := hall 4 (by kernel_rfl)
        have hb11_ := hall 11 (by kernel_rfl)
        have hb12_ := hall 12 (by kernel_rfl)
        have hb13_ := hall 13 (by kernel_rfl)
        have hb14_ := hall 14 (by kernel_rfl)
        have hb15_ := hall 15 (by kernel_rfl)
        subst ha
        obtain rfl := Q_X12_ hb12_
        simp only [putSel, hb4_, hb11_, hb12_, hb13_, hb14_, hb15_, if_true, Act.put, List.setIfInBounds_toArray, List.set_cons_zero, List.set_cons_succ]
        clear Q_C
        clear Q_P0
        clear Q_P1
        clear Q_P2
        have P3 := Aside0.mk (Q_P3 hb15_)
        clear Q_P3
        clear hall hb4_ hb11_ hb12_ hb13_ hb14_ hb15_
        go_wp2
        have hacc : (acc ++ [x]) ++ wnum v j = l ++ wnum v size := by
          rw [← HA.out, HJ.out, wnum, HX.out, HJ.out, Nat.add_sub_cancel, List.append_assoc, List.singleton_append]
        have hw1 : WK w wr g := HW.out
        go_roundg j
        case measure => have := HGK.out; have := HJ.out; omega
        case rel =>
          have hj8 : (j : Int) ≤ 8 := by have := HJ.out; omega
          exact ⟨j, acc ++ [x], by rw [show wrap64 (i - 1) = (j : Int) - 1 by rw [HIJ.out]; unfold wrap64; omega], ⟨by omega⟩, ⟨Nat.le_refl _⟩, ⟨hacc⟩, ⟨P3.out.1⟩, ⟨hw1.trans P3.out.2⟩⟩
    · have l1 : decide ((0 : Int) ≤ (k : Int) - 1) = false := decide_eq_false (by omega)
      obtain rfl : k = 0 := by omega
      have ha : acc = l ++ wnum v size := by rw [← HA.out]; simp [wnum]
      have HAA := Aside0.mk ha
      clear ha
      go_wp2
      go_end0
      exact ⟨rfl, by rw [← HAA.out]; exact HR.out, HW.out⟩
end Go.Proofs.Ytbemfgpdfacdpaa.Ms
