/- The walk of ShaOwn. -/
import Derived.Test.YtlonhkechpgbiaaSha14
import Derived.Test.YtlonhkechpgbiaaQW
namespace Go.Proofs.Ytlonhkechpgbiaa.Sh
open Go.RowKit Go.Proofs.Ytlonhkechpgbiaa.Pr Go.Proofs.YtlonhkechpgbiaaW.PrintWords Go.Proofs.YtlonhkechpgbiaaW.PrintLast Go.Proofs.YtlonhkechpgbiaaW.PrintMore
open Go.Proofs.Ytlonhkechpgbiaa.QT (OwnAt)
set_option linter.unusedVariables false
set_option linter.unusedSimpArgs false
theorem bytes_l (l : List Int) (hl : l.length ≤ 4611686018427387904) : ∀ (m i : Nat), i + m = l.length → parapetalike_Bytes.l0 (m + 1) l l i = some true
  | 0, i, h => by rw [parapetalike_Bytes.l0, if_neg (by omega)]
  | m + 1, i, h => by
    rw [parapetalike_Bytes.l0, if_pos (by omega), if_pos (by omega), if_pos (by omega), if_pos rfl, show wrap64 ((i : Int) + 1) = ((i + 1 : Nat) : Int) by unfold wrap64; omega]
    exact bytes_l l hl m (i + 1) (by omega)
theorem bytes_f (l : List Int) (hl : l.length ≤ 4611686018427387904) : parapetalike_Bytes.f (l.length + 1) l l = some true := by
  rw [parapetalike_Bytes.f, if_pos rfl]
  exact bytes_l l hl l.length 0 (by omega)
theorem bytes_same (A B : Option Addr) (c d n m : Nat) (l : List Int) (w : World) (hn : n = l.length) (hm : m = l.length) (h1 : Kd.C (Kd.int .u8) w A l.length l) (h2 : Kd.C (Kd.int .u8) w B l.length l) (hc : l.length ≤ c) (hd : l.length ≤ d) (hl : l.length ≤ 4611686018427387904) :
    Calls Try.prog 15 #[.slice A n c, .slice B m d] w fun e w' => e = .returned (.bool true) ∧ Drawn0 w w' := by
  rw [hn, hm]
  exact parapetalike_Bytes.calls _ A c l B d l true w h1 hc h2 hd (bytes_f l hl)
/-- A row of bytes, at one place in its block. -/
def RowB (w : World) (A : Option Addr) (n lo hi : Nat) : Prop := 0 < n → ∃ b off cs, A = some ⟨b, off, none⟩ ∧ lo ≤ b ∧ b < hi ∧ w.heap[b]? = some (.cells cs 5 (0, 0)) ∧ ∀ j, j < n → ∃ x, cs[off + j]? = some (.int .u8 x)
theorem RowB.of_own {w : World} {lo : Nat} {A : Option Addr} {c : Nat} {l : List Int} (h : OwnAt w lo 5 (.slice A l.length c) (nums .u8 l)) : RowB w A l.length lo w.heap.size := fun hp => by
  obtain ⟨A', c', hv, h2, _, _, h5, h6⟩ := h
  rw [nums_length] at h2 hv
  cases hv
  obtain ⟨b, off, cs, rfl, hb, hg, hfit, hx⟩ := h5 (by omega)
  refine ⟨b, off, cs, rfl, hb, (h6 _ rfl).2, hg, fun j hj => ⟨l.getD j 0, hx j _ ?_⟩⟩
  simp [nums, hj]
theorem RowB.carry {w w' : World} {A : Option Addr} {n lo hi : Nat} (h : RowB w A n lo hi) (hk : ∀ i, i < hi → w'.heap[i]? = w.heap[i]?) : RowB w' A n lo hi := fun hp => by
  obtain ⟨b, off, cs, h1, h2, h3, h4, h5⟩ := h hp
  exact ⟨b, off, cs, h1, h2, h3, (hk b h3).trans h4, h5⟩
theorem C_own {w : World} {base : Nat} {A : Option Addr} {n c : Nat} {l : List Int} (h : OwnAt w base 5 (.slice A n c) (nums .u8 l)) : Kd.C (Kd.int .u8) w A l.length l := by
  have hm : l.length ≤ 9223372036854775807 := by
    obtain ⟨A', c', hv, h2, h3⟩ := h.slice
    rw [nums_length] at h2; omega
  refine Kd.C_of_reads (d := (0 : Int)) (h1 := fun _ => rfl) ⟨rfl, hm, fun h0 => ?_⟩
  obtain ⟨ad, hA, _, hc⟩ := h.cells (by rw [nums_length]; exact h0)
  exact ⟨ad, hA, fun j hj => hc j _ (by simp [nums, hj])⟩
theorem loadRow_ {P : Program} {ops : Array Oper} {Q : Exit → Act → World → Prop} {oi : Oper} {N : Option Tmp} {a : Act} {w : World} {K : Act → World → Prop} (hw : Region.wanted oi (yielded ops a.tmps) = true) (hN : oi.dst = N) (ty : TypeId) (x : Operand) (ho : oi.op = .load ty x)
    (g : Nat) (hx : a.eval x = .pointer (some ⟨g, 0, none⟩)) (t : TypeId) (cs : Array Value) (fr : Nat × Nat) (d : TypeDesc) (hg : w.heap[g]? = some (.cells cs t fr))
    (hu : P.underlying ty = some d) (hd : (match d with | .struct _ | .array _ _ => true | _ => false) = true) (hi : (P.info? ty).map (·.size) = some cs.size) (h : K (a.put N (.agg cs)) w) : if Region.wanted oi (yielded ops a.tmps) = true then Oper.wp P oi a w K Q else K (a.put N undef) w := by
  rw [if_pos hw]
  exact wp_load_row ty x ho g hx t cs fr d hg hu hd hi (by rw [hN]; exact h)
def own12.T12 : Bool × List (List Nat × List Nat) := (true, [([], []), ([0], [0]), ([1], [1]), ([2, 1, 1], [1, 2]), ([1], [1]), ([3, 4, 1], [1, 3, 4]), ([1, 5], [1, 5]), ([6, 3], [6]), ([7, 7], [7]), ([7, 8], [7, 8]), ([9, 8, 0, 1, 2, 3, 4, 5, 6, 7, 8, 9], [9])])
def own12.B12 : List Nat := [0, 1, 3, 7, 3, 31, 63, 127, 255, 511, 1023]
theorem own12.tab12 : rtab .any (opsOf Try.f6 12) = own12.T12 := by kernel_rfl
theorem own12.bits12 : waitsOk own12.T12.2 own12.B12 = true := by kernel_rfl

set_option maxHeartbeats 2000000 in
set_option maxRecDepth 100000 in
theorem own_calls (A : Option Addr) (n c : Nat) (l : List Int) (w : World) (hC : Kd.C (Kd.int .u8) w A l.length l) (hn : n = l.length) (hc : n ≤ c) (hb : ∀ x ∈ l, 0 ≤ x ∧ x ≤ 255) (hl : n ≤ 140737488351232) :
    Calls Try.prog 6 #[.slice A n c] w fun e w' => e = .returned (.bool true) ∧ Below w.heap.size w w' := by
  have hA := fun w => awake_calls w
  have HA := Aside0.mk hA
  have HC := Aside0.mk hC
  have HB := Aside0.mk hb
  have HN := Aside0.mk hn
  obtain ⟨i0, hi, hz0, hz1, hz2⟩ := info_parts infoB
  clear hA hC hb hn
  by_cases h1 : 700 < n
  · have e1 : decide (700 < (n : Int)) = true := decide_eq_true (by omega)
    go_enter Try.func6, Try.ntmps6
    go_wp2_with fail
    refine (HA.out _).mono ?_
    rintro e w2 ⟨rfl, hb⟩
    go_wp2
    go_ret
    exact ⟨rfl, hb⟩
  have e1 : decide (700 < (n : Int)) = false := decide_eq_false (by omega)
  go_enter Try.func6, Try.ntmps6
  have HE : Aside0 (RInv w w.heap.size (w.alloc (.cells #[] 5)) (.slice (some ⟨w.heap.size, 0, none⟩) 0 0) []) := ⟨⟨⟨_, 0, rfl, Nat.le_refl _, by decide, (fun _ h => by cases h), (fun h => absurd h (Nat.lt_irrefl 0)), fun ad hA => by cases hA; exact ⟨Nat.le_refl _, by simp⟩⟩, below_alloc (Below.refl _ _) _, Nat.le_refl _⟩⟩
  have HS : Aside0 (Src Try.prog 1 23 (.slice A n c) (nums .u8 l).length (nums .u8 l) (w.alloc (.cells #[] 5))) := ⟨by rw [HN.out]; exact QT.src_of Try.underlying23 (Kd.C_alloc HC.out _)⟩
  go_wp2_with (at_builtin; refine QT.wpList_append_at rfl _ _ 23 23 rfl 5 i0 (.int .u8 0) 1 Try.underlying23 hi hz0 rfl hz1 hz2 rfl HE.out.1 _ rfl (nums .u8 l) HS.out (QT.nums_one _ _) (by rw [nums_length, nums_length, ← HN.out]; show (0 + n) * 1 ≤ _; omega) (by decide) ?_ ?_)
  · simp
  · intro v4 w4 hO4 hG4 hv4
    have hI4 := HE.out.app hO4 hG4
    rw [List.nil_append] at hI4
    obtain ⟨A4, c4, e4, hl4, hl4'⟩ := hI4.1.slice
    rw [nums_length, ← HN.out] at e4 hl4
    subst e4
    obtain ⟨hO, hW, _⟩ := hI4
    have hW : Below w.heap.size w w4 := hW
    obtain ⟨B, hBd⟩ : ∃ B, B = w4.heap.size := ⟨_, rfl⟩
    have hBw : w.heap.size ≤ B := by rw [hBd]; exact hW.size
    have hlt4 : ∀ ad, A4 = some ad → ad.block < B := fun ad hA => by rw [hBd]; exact hO.lt _ (by rw [hA]; rfl)
    have HLT := Aside0.mk hlt4
    have HBW := Aside0.mk hBw
    have HO := Aside0.mk hO
    have HW := Aside0.mk hW
    have HBD := Aside0.mk hBd
    clear hO4 hG4 hv4 HE HS hO hW hlt4 hBd hBw
    go_wp2_with fail
    refine (new_at w4 B HBD.out.symm).mono ?_
    rintro e w5 ⟨rfl, hw5⟩
    have HD5 : Aside0 (DigS w5 B B DS.new) := ⟨⟨_, by rw [hw5]; exact blk_at _ HBD.out, OwnAt.nil _ _ _, by simp [Value.ownBlock]⟩⟩
    have HO5 : Aside0 (OwnAt w5 w.heap.size 5 (.slice A4 n c4) (nums .u8 l)) := ⟨by rw [hw5]; exact HO.out.alloc _⟩
    have HW5 : Aside0 (Below w.heap.size w w5) := ⟨by rw [hw5]; exact HW.out.alloc HW.out.size _⟩
    clear hw5 HO HW HBD
    go_wp2_with fail
    obtain ⟨d, hd⟩ : ∃ d, d = DS.new.write l := ⟨_, rfl⟩
    obtain ⟨R, hR⟩ : ∃ R, R = refS l := ⟨_, rfl⟩
    have HOK : Aside0 (d.Ok (0 + l.length)) := ⟨by rw [hd]; exact DS.Ok.write ⟨by decide, by decide, by decide, fun x hx => by cases hx⟩ l HB.out⟩
    have HDS : Aside0 (d.sum = R) := ⟨by rw [hd, hR]; exact took_sum (took_write took_new l)⟩
    have HR32 : Aside0 (R.length = 32) := ⟨by rw [hR]; exact refS_length _⟩
    have HD := Aside0.mk hd
    have HR := Aside0.mk hR
    clear hd hR
    refine (show Calls Try.prog 13 #[.pointer (some ⟨B, 0, none⟩), .slice A4 n c4] w5 fun e w' => e = .returned (.tuple #[]) ∧ DigS w' B B d ∧ Below B w5 w' from by
      have q := writeS_calls B B DS.new 0 ⟨by decide, by decide, by decide, fun x hx => by cases hx⟩ w5 HD5.out (Nat.le_refl _) A4 c4 l (C_own HO5.out) (fun ad hA hp => Nat.ne_of_lt (HLT.out ad hA)) (by rw [← HN.out]; exact hl4) HB.out (by rw [← HN.out]; omega)
      rw [← HN.out, ← HD.out] at q
      exact q.mono fun e w' h => ⟨h.1, h.2.1, h.2.2.1⟩).mono ?_
    rintro e w6 ⟨rfl, hd6, hb6⟩
    have HD6 := Aside0.mk hd6
    have HO6 : Aside0 (OwnAt w6 w.heap.size 5 (.slice A4 n c4) (nums .u8 l)) := ⟨HO5.out.carry hb6.size (fun k hk => by
      cases A4 with
      | none => cases hk
      | some ad => cases hk; exact hb6.block _ (HLT.out ad rfl))⟩
    have HW6 : Aside0 (Below w.heap.size w w6) := ⟨HW5.out.trans (hb6.mono HBW.out)⟩
    clear hd6 hb6 HD5 HO5 HW5 HD
    go_wp2_with fail
    refine (sumLr _ 1 [l] _ (parts1 _ (C_own HO6.out) HN.out hl4) (by simp) (fun l' hl => by rw [List.mem_singleton.1 hl]; exact HB.out) (by show _ ≤ _; simp [tot, ← HN.out]; omega) 1 rfl R (by rw [HR.out]; simp)).mono ?_
    rintro e w7 ⟨rfl, hb7⟩
    have hb7' : Below w6.heap.size w6 w7 := (below_alloc (Below.refl _ _) _).trans (hb7.mono (by simp))
    have HD7 : Aside0 (DigS w7 B B d) := ⟨HD6.out.below hb7'⟩
    have HO7 : Aside0 (OwnAt w7 w.heap.size 5 (.slice A4 n c4) (nums .u8 l)) := ⟨HO6.out.below hb7'⟩
    have HW7 : Aside0 (Below w.heap.size w w7) := ⟨HW6.out.trans (hb7'.mono HW6.out.size)⟩
    have HB7 : Aside0 (B ≤ w7.heap.size) := ⟨by obtain ⟨_, h1, _⟩ := HD7.out; exact Nat.le_of_lt (blk_lt h1)⟩
    have HI := Aside0.mk (info32 HR32.out)
    clear hb7 hb7' HD6 HO6 HW6
    go_upto_region 7 with (refine wpList_store_row rfl 27 _ _ rfl w7.heap.size (u8s R) rfl rfl 27 _ (blk_new w7 _) HI.out (by rw [u8s_size, HR32.out]; rfl) (u8s_one R) ?_)
    obtain ⟨g1, hg1⟩ : ∃ g, g = w7.heap.size := ⟨_, rfl⟩
    rw [← hg1]
    obtain ⟨w8, hw8⟩ : ∃ w8, w8 = (w7.alloc (.cells (u8s (List.replicate 32 0)) 27)).setRow g1 (u8s R) := ⟨_, rfl⟩
    change Code.wp _ _ _ _ ((w7.alloc (.cells (u8s (List.replicate 32 0)) 27)).setRow g1 (u8s R))
    rw [← hw8]
    have HA8 : Aside0 (ArrB w8 g1 27 R) := ⟨by rw [hw8, hg1]; exact setRow_heap _ _ _ _ _ _ (blk_new _ _)⟩
    have hb8 : Below w7.heap.size w7 w8 := by rw [hw8, hg1]; exact below_setRow (below_alloc (Below.refl _ _) _) (Nat.le_refl _) _
    have HG1 : Aside0 (B ≤ g1) := ⟨by rw [hg1]; exact HB7.out⟩
    have HD8 : Aside0 (DigS w8 B B d) := ⟨HD7.out.below hb8⟩
    have HO8 : Aside0 (OwnAt w8 w.heap.size 5 (.slice A4 n c4) (nums .u8 l)) := ⟨HO7.out.below hb8⟩
    have HW8 : Aside0 (Below w.heap.size w w8) := ⟨HW7.out.trans (hb8.mono HW7.out.size)⟩
    clear hg1 hw8 hb8 HD7 HO7 HW7 HB7
    go_wp2_with fail
    refine (bytes_same _ _ _ _ _ _ l w8 HN.out HN.out (C_own HO8.out) (Kd.C_below HC.out HW8.out) (by rw [← HN.out]; exact hl4) (by rw [← HN.out]; exact hc) (by rw [← HN.out]; omega)).mono ?_
    rintro e w9 ⟨rfl, m, hw9⟩
    have HA9 : Aside0 (ArrB w9 g1 27 R) := ⟨by rw [hw9]; exact HA8.out⟩
    have HD9 : Aside0 (DigS w9 B B d) := ⟨by rw [hw9]; exact HD8.out.below (pw_below_drewN (Below.refl _ _) m)⟩
    have HO9 : Aside0 (RowB w9 A4 n w.heap.size B) := ⟨by
      have q := RowB.of_own (l := l) (by rw [← HN.out]; exact HO8.out)
      rw [← HN.out] at q
      rw [hw9]
      intro hp
      obtain ⟨b, off, cs, h1, h2, h3, h4, h5⟩ := q hp
      exact ⟨b, off, cs, h1, h2, HLT.out _ h1, h4, h5⟩⟩
    have HW9 : Aside0 (Below w.heap.size w w9) := ⟨by rw [hw9]; exact pw_below_drewN HW8.out m⟩
    clear hw9 HA8 HD8 HO8 HW8 HLT
    go_wp2
    go_loopg [7] n (fun gk v7 wr => ∃ (i : Nat), v7 = .int .i64 i ∧ Aside0 (i ≤ n) ∧ Aside0 (n - i ≤ gk) ∧ Aside0 (ArrB wr g1 27 R) ∧ Aside0 (DigS wr B B d) ∧ Aside0 (RowB wr A4 n w.heap.size B) ∧ Aside0 (Below w.heap.size w wr))
    case atStart => exact ⟨0, rfl, ⟨by omega⟩, ⟨by omega⟩, HA9, HD9, HO9, HW9⟩
    case round =>
      clear HA9 HD9 HO9 HW9
      obtain ⟨i, rfl, Hi, HG, HA9, HD9, HO9, HW9⟩ := hrel
      have hi := Hi.out
      by_cases hlt : i < n
      · have l1 : decide (i < n) = true := decide_eq_true hlt
        have z1 : (i : Int) < (n : Int) := by omega
        obtain ⟨b, off, cs, rfl, k1, k2, k3, k4⟩ := HO9.out (by omega)
        obtain ⟨x, hx⟩ := k4 i hlt
        have m0 : wr.cell? ⟨b, off + i, none⟩ = some (.int .u8 x) := (blk_cell k3 _).trans hx
        have m1 := blk_frozen k3 (off + i)
        have a1 : (⟨b, off, none⟩ : Addr).add i = ⟨b, off + i, none⟩ := by unfold Addr.add; split <;> simp_all
        have K1 := Aside0.mk k1
        have K2 := Aside0.mk k2
        have K3 := Aside0.mk k3
        have K4 := Aside0.mk k4
        clear k1 k2 k3 k4 hx
        go_wp2
        go_roundg (n - (i + 1))
        case measure => have := HG.out; omega
        case rel =>
          refine ⟨i + 1, by go_num, ⟨by omega⟩, ⟨Nat.le_refl _⟩, ⟨blk_far HA9.out (Nat.ne_of_gt (Nat.lt_of_lt_of_le K2.out HG1.out)) _⟩, ⟨HD9.out.carry (by simp [World.setCell]) (fun k _ hk => heap_setCell_other _ _ _ _ (by have := K2.out; rcases hk with hk | hk <;> (show k ≠ b; omega)))⟩, ⟨fun hp => ⟨b, off, _, rfl, K1.out, K2.out, blk_set K3.out _ _, fun j hj => ?_⟩⟩, ⟨HW9.out.setCell K1.out _⟩⟩
          by_cases hji : j = i
          · subst hji
            obtain ⟨x, hx⟩ := K4.out j hj
            have := (Array.getElem?_eq_some_iff.1 hx).1
            exact ⟨_, by rw [Array.getElem?_setIfInBounds_self_of_lt this]⟩
          · obtain ⟨y, hy⟩ := K4.out j hj
            exact ⟨y, by rw [Array.getElem?_setIfInBounds_ne (by omega)]; exact hy⟩
      · have l1 : decide (i < n) = false := decide_eq_false hlt
        have E1 := eqA R R HR32.out HR32.out 27 (by kernel_rfl)
        rw [decide_eq_true rfl] at E1
        go_wp2_with fail
        refine start_ (n := 11) (S := fun w' => True) (ds := []) #[false, false, false, false, false, false, false, false, false, false, false] (by kernel_rfl) rfl rfl trivial (fun hHeld => ?_)
        refine with_tabW own12.tab12 own12.bits12 (fun HT_ HW_ => ?_)
        have F : Aside0 (Below wr.heap.size wr wr.drew) := ⟨below_drew (Below.refl _ _)⟩
        refine inv_at [0, 1, 2, 3, 4, 5, 6, 7, 8, 9, 10] (fun a0_ b a w' => a = putSel a0_ b [(0, 39, .bool true), (1, 40, .bool true), (2, 41, .pointer (some ⟨B, 0, none⟩)), (3, 42, .agg (u8s R)), (4, 43, .agg (u8s R)), (5, 44, .bool true), (6, 45, .bool true), (7, 46, .bool true), (8, 47, .bool true), (9, 48, .bool true), (10, 2, .bool true)] ∧ (Below wr.heap.size wr w')) HT_.out HW_.out (by kernel_rfl) (by kernel_rfl) ?_ ?_ ?_
        · exact ⟨by simp only [putSel, Bool.false_eq_true, if_false], F.out⟩
        · skip
          clear F
          refine steps_cons ?_ ?_
          · rintro b a w' ⟨ha, Q_F⟩ hb_ hon hoff
            refine ⟨_, rfl, fun K hK => ?_⟩
            have e6 : a.tmps[6]? = some (.bool true) := by rw [ha]; exact (putSel_off rfl).trans rfl
            replace ha := Aside0.mk ha
            have F := Aside0.mk Q_F
            refine value_ (w1 := w') (v := .bool true) (by rfl) rfl ?_ ?_
            · go_simp
              (try simp only [i64_w])
              try rfl
            refine hK.out _ _ ⟨(by rw [ha.out]; exact putSel_upk 0 hb_ rfl rfl rfl), Q_F⟩
          refine steps_cons ?_ ?_
          · rintro b a w' ⟨ha, Q_F⟩ hb_ hon hoff
            refine ⟨_, rfl, fun K hK => ?_⟩
            have e39 : a.tmps[39]? = some (.bool true) := by rw [ha]; exact putSel_on (e := (0, 39, .bool true)) 0 rfl rfl (hon 0 (by kernel_rfl)) rfl
            replace ha := Aside0.mk ha
            have F := Aside0.mk Q_F
            refine value_ (w1 := w') (v := .bool true) (by rfl) rfl ?_ ?_
            · go_simp
              (try simp only [i64_w])
              try rfl
            refine hK.out _ _ ⟨(by rw [ha.out]; exact putSel_upk 1 hb_ rfl rfl rfl), Q_F⟩
          refine steps_cons ?_ ?_
          · rintro b a w' ⟨ha, Q_F⟩ hb_ hon hoff
            refine ⟨_, rfl, fun K hK => ?_⟩
            have e4 : a.tmps[4]? = some (.pointer (some ⟨B, 0, none⟩)) := by rw [ha]; exact (putSel_off rfl).trans rfl
            have e40 : a.tmps[40]? = some (.bool true) := by rw [ha]; exact putSel_on (e := (1, 40, .bool true)) 1 rfl rfl (hon 1 (by kernel_rfl)) rfl
            replace ha := Aside0.mk ha
            have F := Aside0.mk Q_F
            refine value_ (w1 := w') (v := .pointer (some ⟨B, 0, none⟩)) (wanted_on rfl rfl rfl (e40.trans (by first | rfl | (simp [*]; done)))) rfl ?_ ?_
            · go_simp
              (try simp only [i64_w])
              try rfl
            refine hK.out _ _ ⟨(by rw [ha.out]; exact putSel_upk 2 hb_ rfl rfl rfl), Q_F⟩
          refine steps_cons ?_ ?_
          · rintro b a w' ⟨ha, Q_F⟩ hb_ hon hoff
            refine ⟨_, rfl, fun K hK => ?_⟩
            have e41 : a.tmps[41]? = some (.pointer (some ⟨B, 0, none⟩)) := by rw [ha]; exact putSel_on (e := (2, 41, .pointer (some ⟨B, 0, none⟩))) 2 rfl rfl (hon 2 (by kernel_rfl)) rfl
            have e40 : a.tmps[40]? = some (.bool true) := by rw [ha]; exact putSel_on (e := (1, 40, .bool true)) 1 rfl rfl (hon 1 (by kernel_rfl)) rfl
            replace ha := Aside0.mk ha
            have F := Aside0.mk Q_F
            refine goes_ (N := some 42) Try.func14 (by kernel_rfl) rfl #[.pointer (some ⟨B, 0, none⟩)] (wanted_on rfl rfl rfl (e40.trans (by first | rfl | (simp [*]; done)))) rfl rfl (by first | (simp only [List.map_toArray, List.map_cons, List.map_nil, Act.eval, Array.getD_eq_getD_getElem?, Option.getD_some, e41, e40]; done) | (simp only [List.map_toArray, List.map_cons, List.map_nil, Act.eval, Array.getD_eq_getD_getElem?, Option.getD_some, e41, e40]; rfl)) ?_
            refine (dsumS_calls B B d _ HOK.out w' (HD9.out.below F.out) (by rw [← HN.out]; omega)).mono ?_
            rintro e w1 ⟨rfl, hb⟩
            rw [HDS.out]
            refine ⟨_, rfl, ?_⟩
            refine hK.out _ _ ⟨(by rw [ha.out]; exact putSel_upk 3 hb_ rfl rfl rfl), F.out.trans (hb.mono F.out.size)⟩
          refine steps_cons ?_ ?_
          · rintro b a w' ⟨ha, Q_F⟩ hb_ hon hoff
            refine ⟨_, rfl, fun K hK => ?_⟩
            have e5 : a.tmps[5]? = some (.pointer (some ⟨g1, 0, none⟩)) := by rw [ha]; exact (putSel_off rfl).trans rfl
            have e40 : a.tmps[40]? = some (.bool true) := by rw [ha]; exact putSel_on (e := (1, 40, .bool true)) 1 rfl rfl (hon 1 (by kernel_rfl)) rfl
            replace ha := Aside0.mk ha
            have F := Aside0.mk Q_F
            refine loadRow_ (N := some 43) (wanted_on rfl rfl rfl (e40.trans (by first | rfl | (simp [*]; done)))) rfl 27 _ rfl g1 (eval_of e5) 27 (u8s R) (0, 0) _ (blk_below HA9.out F.out) Try.underlying27 rfl HI.out ?_
            refine hK.out _ _ ⟨(by rw [ha.out]; exact putSel_upk 4 hb_ rfl rfl rfl), F.out⟩
          refine steps_cons ?_ ?_
          · rintro b a w' ⟨ha, Q_F⟩ hb_ hon hoff
            refine ⟨_, rfl, fun K hK => ?_⟩
            have e42 : a.tmps[42]? = some (.agg (u8s R)) := by rw [ha]; exact putSel_on (e := (3, 42, .agg (u8s R))) 3 rfl rfl (hon 3 (by kernel_rfl)) rfl
            have e43 : a.tmps[43]? = some (.agg (u8s R)) := by rw [ha]; exact putSel_on (e := (4, 43, .agg (u8s R))) 4 rfl rfl (hon 4 (by kernel_rfl)) rfl
            have e40 : a.tmps[40]? = some (.bool true) := by rw [ha]; exact putSel_on (e := (1, 40, .bool true)) 1 rfl rfl (hon 1 (by kernel_rfl)) rfl
            replace ha := Aside0.mk ha
            have F := Aside0.mk Q_F
            refine value_ (w1 := w') (v := .bool true) (wanted_on rfl rfl rfl (e40.trans (by first | rfl | (simp [*]; done)))) rfl ?_ ?_
            · go_simp
              (try simp only [i64_w])
              try rfl
            refine hK.out _ _ ⟨(by rw [ha.out]; exact putSel_upk 5 hb_ rfl rfl rfl), Q_F⟩
          refine steps_cons ?_ ?_
          · rintro b a w' ⟨ha, Q_F⟩ hb_ hon hoff
            refine ⟨_, rfl, fun K hK => ?_⟩
            have e40 : a.tmps[40]? = some (.bool true) := by rw [ha]; exact putSel_on (e := (1, 40, .bool true)) 1 rfl rfl (hon 1 (by kernel_rfl)) rfl
            have e44 : a.tmps[44]? = some (.bool true) := by rw [ha]; exact putSel_on (e := (5, 44, .bool true)) 5 rfl rfl (hon 5 (by kernel_rfl)) rfl
            replace ha := Aside0.mk ha
            have F := Aside0.mk Q_F
            refine value_ (w1 := w') (v := .bool true) (by rfl) rfl ?_ ?_
            · go_simp
              (try simp only [i64_w])
              try rfl
            refine hK.out _ _ ⟨(by rw [ha.out]; exact putSel_upk 6 hb_ rfl rfl rfl), Q_F⟩
          refine steps_cons ?_ ?_
          · rintro b a w' ⟨ha, Q_F⟩ hb_ hon hoff
            refine ⟨_, rfl, fun K hK => ?_⟩
            have e45 : a.tmps[45]? = some (.bool true) := by rw [ha]; exact putSel_on (e := (6, 45, .bool true)) 6 rfl rfl (hon 6 (by kernel_rfl)) rfl
            replace ha := Aside0.mk ha
            have F := Aside0.mk Q_F
            refine value_ (w1 := w') (v := .bool true) (by rfl) rfl ?_ ?_
            · go_simp
              (try simp only [i64_w])
              try rfl
            refine hK.out _ _ ⟨(by rw [ha.out]; exact putSel_upk 7 hb_ rfl rfl rfl), Q_F⟩
          refine steps_cons ?_ ?_
          · rintro b a w' ⟨ha, Q_F⟩ hb_ hon hoff
            refine ⟨_, rfl, fun K hK => ?_⟩
            have e46 : a.tmps[46]? = some (.bool true) := by rw [ha]; exact putSel_on (e := (7, 46, .bool true)) 7 rfl rfl (hon 7 (by kernel_rfl)) rfl
            replace ha := Aside0.mk ha
            have F := Aside0.mk Q_F
            refine goes_ (N := some 47) Try.func9 (by kernel_rfl) rfl #[] (wanted_on rfl rfl rfl (e46.trans (by first | rfl | (simp [*]; done)))) rfl rfl (by first | (simp only [List.map_toArray, List.map_cons, List.map_nil, Act.eval, Array.getD_eq_getD_getElem?, Option.getD_some, e46]; done) | (simp only [List.map_toArray, List.map_cons, List.map_nil, Act.eval, Array.getD_eq_getD_getElem?, Option.getD_some, e46]; rfl)) ?_
            refine (awake_calls w').mono ?_
            rintro e w1 ⟨rfl, hb⟩
            refine ⟨_, rfl, ?_⟩
            refine hK.out _ _ ⟨(by rw [ha.out]; exact putSel_upk 8 hb_ rfl rfl rfl), F.out.trans (hb.mono F.out.size)⟩
          refine steps_cons ?_ ?_
          · rintro b a w' ⟨ha, Q_F⟩ hb_ hon hoff
            refine ⟨_, rfl, fun K hK => ?_⟩
            have e46 : a.tmps[46]? = some (.bool true) := by rw [ha]; exact putSel_on (e := (7, 46, .bool true)) 7 rfl rfl (hon 7 (by kernel_rfl)) rfl
            have e47 : a.tmps[47]? = some (.bool true) := by rw [ha]; exact putSel_on (e := (8, 47, .bool true)) 8 rfl rfl (hon 8 (by kernel_rfl)) rfl
            replace ha := Aside0.mk ha
            have F := Aside0.mk Q_F
            refine value_ (w1 := w') (v := .bool true) (by rfl) rfl ?_ ?_
            · go_simp
              (try simp only [i64_w])
              try rfl
            refine hK.out _ _ ⟨(by rw [ha.out]; exact putSel_upk 9 hb_ rfl rfl rfl), Q_F⟩
          refine steps_cons ?_ ?_
          · rintro b a w' ⟨ha, Q_F⟩ hb_ hon hoff
            refine ⟨_, rfl, fun K hK => ?_⟩
            have e48 : a.tmps[48]? = some (.bool true) := by rw [ha]; exact putSel_on (e := (9, 48, .bool true)) 9 rfl rfl (hon 9 (by kernel_rfl)) rfl
            replace ha := Aside0.mk ha
            have F := Aside0.mk Q_F
            refine value_ (w1 := w') (v := .bool true) (by rfl) rfl ?_ ?_
            · go_simp
              (try simp only [i64_w])
              try rfl
            refine hK.out _ _ ⟨(by rw [ha.out]; exact putSel_upk 10 hb_ rfl rfl rfl), Q_F⟩
          exact steps_nil
        · rintro b a w' hall ⟨ha, Q_F⟩
          clear F
          have hb0_ := hall 0 (by kernel_rfl)
          have hb1_ := hall 1 (by kernel_rfl)
          have hb2_ := hall 2 (by kernel_rfl)
          have hb3_ := hall 3 (by kernel_rfl)
          have hb4_ := hall 4 (by kernel_rfl)
          have hb5_ := hall 5 (by kernel_rfl)
          have hb6_ := hall 6 (by kernel_rfl)
          have hb7_ := hall 7 (by kernel_rfl)
          have hb8_ := hall 8 (by kernel_rfl)
          have hb9_ := hall 9 (by kernel_rfl)
          have hb10_ := hall 10 (by kernel_rfl)
          subst ha
          simp only [putSel, hb0_, hb1_, hb2_, hb3_, hb4_, hb5_, hb6_, hb7_, hb8_, hb9_, hb10_, if_true, Act.put, List.setIfInBounds_toArray, List.set_cons_zero, List.set_cons_succ]
          have F := Aside0.mk Q_F
          clear Q_F
          clear hall hb0_ hb1_ hb2_ hb3_ hb4_ hb5_ hb6_ hb7_ hb8_ hb9_ hb10_
          go_wp2
          go_ret
          exact ⟨rfl, HW9.out.trans (F.out.mono HW9.out.size)⟩
end Go.Proofs.Ytlonhkechpgbiaa.Sh
