/- The walk of quoted. -/
import Derived.Test.YtlhllcbglfffdaaDoorLexW2
namespace Go.Proofs.YtlhllcbglfffdaaDoor.Lx
open Go.RowKit Go.Proofs.YtlhllcbglfffdaaDoor.Pr Go.Proofs.YtlhllcbglfffdaaDoorW.PrintWords Go.Proofs.YtlhllcbglfffdaaDoorW.PrintLast Go.Proofs.YtlhllcbglfffdaaDoorW.PrintMore
set_option linter.unusedVariables false
set_option linter.unusedSimpArgs false
theorem infoB : (Tryd.prog.info? 5).map (fun i => (i.zero, i.size, i.bytes)) = some (some (.int .u8 0), 1, 1) := by kernel_rfl

section
variable {ops : Array Oper} {rest : List Oper} {o : Oper} {a : Act} {Q : Exit → Act → World → Prop}
/-- append of one byte to a row of the call's own, beside a block g. -/
theorem app_u8 {W : World} (base g : Nat) (hgd : o.guard = none) (s x : Operand)
    (ho : o.op = .call { callee := .builtin .append, args := #[s, x], argTypes := #[33, 33] })
    (v : Value) (xs : List Int) (p : Int) (hs : a.eval s = v) (hx : a.eval x = .slice (some ⟨W.heap.size, 0, none⟩) 1 1) (hg : g < W.heap.size)
    (HO : Kd.R (Kd.int .u8) 5 W base (fun k => k ≠ g) v xs) (hbase : base ≤ W.heap.size) (hl : xs.length + 1 ≤ 140737488355328)
    (h : ∀ v1 w1, Kd.R (Kd.int .u8) 5 w1 base (fun k => k ≠ g) v1 (xs ++ [p]) → Below base W w1 → W.grownBy w1 v.ownBlock → wpList Tryd.prog ops Q rest (a.put o.dst v1) w1) :
    wpList Tryd.prog ops Q (o :: rest) a (W.alloc (.cells #[.int .u8 p] 5)) := by
  have := Kd.R_append (P := Tryd.prog) (ops := ops) (rest := rest) (o := o) (a := a) (Q := Q) (Kd.int .u8) (w0 := W) (W := W) base hgd s x 33 5 (.int .u8 0) 1 ho Tryd.underlying33 infoB rfl (by decide) (by omega) v xs p [.int .u8 p] (fun k => k ≠ g) (fun _ => False) hs hx rfl (fun _ hk => hk.elim) (fun k hk => by omega) HO (Below.refl _ _) hbase (by omega) (fun v1 w1 h1 h2 h3 _ => h v1 w1 h1 h2 h3)
  exact this
end

set_option maxHeartbeats 4000000 in
set_option maxRecDepth 100000 in
theorem quoted_calls (s : ByteArray) (i0 : Nat) (L : Value) (g : Nat) (w : World) (hs : s.size ≤ 140737488351232) (hi0 : i0 < s.size) (hb : Blk w g s i0 L) (ro : List Int) (rj : Nat) (rb : Bool) (hR : quoE s (i0 + 1) [] = (ro, rj, rb)) :
    Calls Tryd.prog 25 #[.pointer (some ⟨g, 0, none⟩)] w fun e w' =>
      e = .returned (.tuple #[.string (strOfNums ro), .bool rb]) ∧ Blk w' g s (rj : Nat) L ∧ Keep w w' g := by
  have hg := blk_lt hb
  have c1 := hb.c1
  have f1 := hb.fr 1
  have HR := Aside0.mk hR
  have HB := Aside0.mk hb
  have HS := Aside0.mk hs
  have HI := Aside0.mk hi0
  have HG0 := Aside0.mk hg
  clear hR hb hg
  go_enter Tryd.func25, Tryd.ntmps25
  go_wp2
  go_loopg [4] (s.size) (fun gk v4 w' => ∃ (i : Nat) (out : List Int), Aside0 (i ≤ s.size) ∧ Aside0 (quoE s i out = (ro, rj, rb)) ∧ Aside0 (Blk w' g s i L) ∧ Aside0 (Keep w w' g) ∧ Aside0 (Kd.R (Kd.int .u8) 5 w' w.heap.size (fun k => k ≠ g) v4 out) ∧ Aside0 (out.length ≤ i) ∧ Aside0 (s.size - i ≤ gk))
  case atStart =>
    refine ⟨i0 + 1, [], ⟨by have := HI.out; omega⟩, HR, ⟨?_⟩, ⟨?_⟩, ⟨Kd.R_nil _ _ _ _ _⟩, ⟨by simp⟩, ⟨by omega⟩⟩
    · exact Blk.at1 HB.out _
    · exact Keep.set (Keep.refl _ _) _ _
  case round =>
    clear HR HB c1 f1
    obtain ⟨i, out, Hi, HR, HB, HK, HO, HL, HG⟩ := hrel
    have c0 := HB.out.c0
    have c1 := HB.out.c1
    have f1 := HB.out.fr 1
    have hi := Hi.out
    by_cases hlt : i < s.size
    · have e1 : decide (s.size ≤ i) = false := decide_eq_false (by omega)
      have hlt2 : (i : Int) < (s.size : Int) := by omega
      have hx : ∀ h : i < s.size, ((s[i]'h).toNat : Int) = bt s (i : Int) := fun h => bt_at s (i : Int) h
      have hst := quoE_step s i out hlt
      rw [HR.out] at hst
      by_cases q34 : bt s (i : Int) = 34
      · rw [if_pos q34] at hst
        have b34 : (bt s (i : Int) == 34) = true := beq_iff_eq.mpr q34
        simp only [Prod.mk.injEq] at hst
        obtain ⟨rfl, rfl, rfl⟩ := hst
        clear q34
        have hcv := fun (n m : Nat) => own_string (P := Tryd.prog) Tryd.underlying33 Tryd.underlying5 Tryd.underlying9 (Kd.own_of_R (Kd.R_far (Kd.R_drewN HO.out (n + m)) (p := ⟨g, 1, none⟩) (fun k hk => hk) (.int .i64 ((i : Int) + 1))))
        go_wp2_with (go_at_call 16; refine (end_calls s i L g _ HB.out).mono ?_; rintro e w' ⟨rfl, ⟨n, rfl⟩⟩)
        go_quiet (fail)
        have hcv2 := hcv n nq
        clear hcv
        go_wp2
        go_ret2
        exact ⟨rfl, Blk.at1 HB.out _, Keep.set (HK.out.drewN _) _ _⟩
      have b34 : (bt s (i : Int) == 34) = false := beq_eq_false_iff_ne.mpr q34
      rw [if_neg q34] at hst
      clear q34
      by_cases q10 : bt s (i : Int) = 10
      · rw [if_pos q10] at hst
        have b10 : (bt s (i : Int) == 10) = true := beq_iff_eq.mpr q10
        simp only [Prod.mk.injEq] at hst
        obtain ⟨rfl, h2, rfl⟩ := hst
        obtain rfl : i = rj := h2.symm
        clear q10
        go_wp2_with (go_at_call 16; refine (end_calls s i L g _ HB.out).mono ?_; rintro e w' ⟨rfl, ⟨n, rfl⟩⟩)
        go_quiet (fail)
        go_wp2
        go_ret2
        exact ⟨rfl, HB.out, HK.out.drewN _⟩
      have b10 : (bt s (i : Int) == 10) = false := beq_eq_false_iff_ne.mpr q10
      rw [if_neg q10] at hst
      clear q10
      by_cases q92 : bt s (i : Int) = 92
      · rw [if_pos q92] at hst
        have b92 : (bt s (i : Int) == 92) = true := beq_iff_eq.mpr q92
        clear q92
        by_cases qe : i + 1 = s.size
        · rw [if_pos qe] at hst
          have be : ((i : Int) + 1 == (s.size : Int)) = true := beq_iff_eq.mpr (by omega)
          clear qe
          simp only [Prod.mk.injEq] at hst
          obtain ⟨rfl, rfl, rfl⟩ := hst
          go_wp2_with (go_at_call 16; refine (end_calls s i L g _ HB.out).mono ?_; rintro e w' ⟨rfl, ⟨n, rfl⟩⟩)
          go_quiet (fail)
          go_wp2
          go_quiet (fail)
          go_wp2
          go_ret2
          exact ⟨rfl, Blk.at1 HB.out _, Keep.set (HK.out.drewN _) _ _⟩
        rw [if_neg qe] at hst
        have be : ((i : Int) + 1 == (s.size : Int)) = false := beq_eq_false_iff_ne.mpr (by omega)
        have hlt3 : (i : Int) + 1 < (s.size : Int) := by omega
        have hlt4 : i + 1 < s.size := by omega
        have hx1 : ∀ h : i + 1 < s.size, ((s[i + 1]'h).toNat : Int) = bt s ((i + 1 : Nat) : Int) := fun h => bt_at s ((i + 1 : Nat) : Int) h
        clear qe
        obtain ⟨c, hc⟩ : ∃ c, bt s ((i + 1 : Nat) : Int) = c := ⟨_, rfl⟩
        rw [hc] at hst hx1
        have hcr := bt_range s ((i + 1 : Nat) : Int)
        rw [hc] at hcr
        have HC := Aside0.mk hc
        clear hc
        by_cases q2 : c = 34 ∨ c = 92
        · rw [if_pos q2] at hst
          have HST := Aside0.mk hst
          clear hst
          have HQ : (c != 34) = false ∨ ((c != 34) = true ∧ (c != 92) = false) := by
            by_cases h : c = 34
            · exact .inl (bne_eq_false_iff_eq.mpr h)
            · exact .inr ⟨bne_iff_ne.mpr h, bne_eq_false_iff_eq.mpr (q2.resolve_left h)⟩
          clear q2
          rcases HQ with hq | ⟨hq, hq2⟩
          all_goals
            go_wp2_with (go_at_call 16; refine (end_calls s i L g _ HB.out).mono ?_; rintro e w' ⟨rfl, ⟨n, rfl⟩⟩)
            go_quiet (fail)
            go_wp2
            go_quiet (fail)
            go_wp2
            go_quiet (fail)
            go_wp2_with (at_builtin; refine app_u8 w.heap.size g rfl (.tmp 111) (.tmp 113) rfl u4 out (c) rfl ?aX ?aG ?aO ?aS ?aL ?_; (case aX => first | rfl | (simp [Act.eval])); (case aG => have := HG0.out; have := HK.out.k.1; simp; omega); (case aO => exact Kd.R_far (Kd.R_drewN HO.out _) (fun k hk => hk) _); (case aS => have := HK.out.k.1; simp; omega); (case aL => have := HL.out; have := HS.out; omega); intro v1 w1 ho hb1 hg1; have hB1 : Blk w1 g s ((i : Int) + 1) L := (by refine blk_grown ?_ hg1 (Kd.R_away HO.out (fun k hk => hk)); exact Blk.at1 HB.out _); have hK1 : Keep w w1 g := (by refine Keep.below ?_ hb1 HG0.out; exact Keep.set (HK.out.drewN _) _ _); have c1' := hB1.c1; have f1' := hB1.fr 1; have HO1 := Aside0.mk ho; have HB1 := Aside0.mk hB1; have HK1 := Aside0.mk hK1; clear ho hb1 hg1 hB1 hK1)
            go_roundg (s.size - (i + 2))
            case measure => have := HG.out; omega
            case rel =>
              refine ⟨i + 2, out ++ [c], ⟨by omega⟩, ⟨HST.out.symm⟩, ⟨?_⟩, ⟨Keep.set HK1.out _ _⟩, ⟨Kd.R_far HO1.out (fun k hk => hk) _⟩, ⟨by have := HL.out; simp; omega⟩, ⟨Nat.le_refl _⟩⟩
              have := Blk.at1 HB1.out ((i : Int) + 1 + 1)
              rw [show ((i + 2 : Nat) : Int) = (i : Int) + 1 + 1 by omega]
              exact this
        · rw [if_neg q2] at hst
          have hq : (c != 34) = true := bne_iff_ne.mpr (fun h => q2 (.inl h))
          have hq2 : (c != 92) = true := bne_iff_ne.mpr (fun h => q2 (.inr h))
          clear q2
          simp only [Prod.mk.injEq] at hst
          obtain ⟨rfl, h2, rfl⟩ := hst
          obtain rfl : i = rj := h2.symm
          go_wp2_with (go_at_call 16; refine (end_calls s i L g _ HB.out).mono ?_; rintro e w' ⟨rfl, ⟨n, rfl⟩⟩)
          go_quiet (fail)
          go_wp2
          go_quiet (fail)
          go_wp2
          go_quiet (fail)
          go_wp2
          go_ret2
          exact ⟨rfl, HB.out, HK.out.drewN _⟩
      have b92 : (bt s (i : Int) == 92) = false := beq_eq_false_iff_ne.mpr q92
      rw [if_neg q92] at hst
      clear q92
      have HST := Aside0.mk hst
      clear hst
      go_wp2_with (go_at_call 16; refine (end_calls s i L g _ HB.out).mono ?_; rintro e w' ⟨rfl, ⟨n, rfl⟩⟩)
      go_quiet (fail)
      go_wp2_with (at_builtin; refine app_u8 w.heap.size g rfl (.tmp 41) (.tmp 43) rfl u4 out (bt s (i : Int)) rfl ?aX ?aG ?aO ?aS ?aL ?_; (case aX => first | rfl | (simp [Act.eval])); (case aG => have := HG0.out; have := HK.out.k.1; simp; omega); (case aO => exact Kd.R_drewN HO.out _); (case aS => have := HK.out.k.1; simp; omega); (case aL => have := HL.out; have := HS.out; omega); intro v1 w1 ho hb1 hg1; have hB1 : Blk w1 g s (i : Int) L := (by refine blk_grown ?_ hg1 (Kd.R_away HO.out (fun k hk => hk)); exact HB.out); have hK1 : Keep w w1 g := (by refine Keep.below ?_ hb1 HG0.out; exact HK.out.drewN _); have c1' := hB1.c1; have f1' := hB1.fr 1; have HO1 := Aside0.mk ho; have HB1 := Aside0.mk hB1; have HK1 := Aside0.mk hK1; clear ho hb1 hg1 hB1 hK1)
      go_roundg (s.size - (i + 1))
      case measure => have := HG.out; omega
      case rel =>
        refine ⟨i + 1, out ++ [bt s (i : Int)], ⟨by omega⟩, ⟨HST.out.symm⟩, ⟨?_⟩, ⟨Keep.set HK1.out _ _⟩, ⟨Kd.R_far HO1.out (fun k hk => hk) _⟩, ⟨by have := HL.out; simp; omega⟩, ⟨Nat.le_refl _⟩⟩
        exact Blk.at1 HB1.out _
    · have e1 : decide (s.size ≤ i) = true := decide_eq_true (by omega)
      have hst := quoE_end s i out hlt
      rw [HR.out] at hst
      simp only [Prod.mk.injEq] at hst
      obtain ⟨rfl, h2, rfl⟩ := hst
      obtain rfl : i = rj := h2.symm
      go_wp2_with (go_at_call 16; refine (end_calls s i L g _ HB.out).mono ?_; rintro e w' ⟨rfl, ⟨n, rfl⟩⟩)
      go_ret2
      exact ⟨rfl, HB.out, HK.out.drewN _⟩
end Go.Proofs.YtlhllcbglfffdaaDoor.Lx
