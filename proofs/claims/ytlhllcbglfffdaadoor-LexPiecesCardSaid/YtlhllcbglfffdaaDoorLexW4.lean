/- The walk of token. -/
import Derived.Test.YtlhllcbglfffdaaDoorLexW3
import Derived.Deep.DeepMust
import Derived.StillTailTactics
import Derived.Deep.RegionLaw
import Derived.Outline
namespace Go.Proofs.YtlhllcbglfffdaaDoor.Lx
open Go.RowKit Go.Proofs.YtlhllcbglfffdaaDoor.Pr Go.Proofs.YtlhllcbglfffdaaDoorW.PrintWords Go.Proofs.YtlhllcbglfffdaaDoorW.PrintLast Go.Proofs.YtlhllcbglfffdaaDoorW.PrintMore
set_option linter.unusedVariables false
set_option linter.unusedSimpArgs false
abbrev Tk := S31
theorem infoT : (Tryd.prog.info? 31).map (fun i => (i.zero, i.size, i.bytes)) = some (some (.agg #[(.int .i64 0), (.int .i64 0), (.string ⟨#[]⟩)]), 3, 32) := by kernel_rfl
def opIdx (c : Int) : Int := if c = 40 then 3 else if c = 41 then 4 else 5
/-- A token at a place; none: there is none. -/
def tokE (s : ByteArray) (i : Nat) : Option (Tk × Nat × Bool) :=
  if pLetter (bt s i) = true then some (⟨1, i, s.extract i (wEnd s i)⟩, wEnd s i, true)
  else if bt s i = 34 then some (⟨2, i, strOfNums (quoE s (i + 1) []).1⟩, (quoE s (i + 1) []).2.1, (quoE s (i + 1) []).2.2)
  else if bt s i = 40 ∨ bt s i = 41 ∨ bt s i = 59 then some (⟨opIdx (bt s i), i, s.extract i (i + 1)⟩, i + 1, true)
  else none

section
variable {ops : Array Oper} {o : Oper} {a : Act} {Q : Exit → Act → World → Prop} {Kc : Act → World → Prop}
theorem app_tok {W : World} (base g : Nat) (hw : Region.wanted o (yielded ops a.tmps) = true) (s x : Operand)
    (ho : o.op = .call { callee := .builtin .append, args := #[s, x], argTypes := #[23, 23] })
    (v : Value) (xs : List Tk) (p : Tk) (hs : a.eval s = v) (hx : a.eval x = .slice (some ⟨W.heap.size, 0, none⟩) 1 1) (hg : g < W.heap.size)
    (HO : Kd.R k31 31 W base (fun k => k ≠ g) v xs) (hbase : base ≤ W.heap.size) (hl : xs.length + 1 ≤ 1000000000000)
    (h : ∀ v1 w1, Kd.R k31 31 w1 base (fun k => k ≠ g) v1 (xs ++ [p]) → Below base W w1 → W.drew.grownBy w1 v.ownBlock → Kc (a.put o.dst v1) w1) :
    if Region.wanted o (yielded ops a.tmps) = true then Oper.wp Tryd.prog o a (W.alloc (.cells #[.int .i64 p.f0, .int .i64 p.f1, .string p.f2] 31)).drew Kc Q else Kc (a.put o.dst undef) (W.alloc (.cells #[.int .i64 p.f0, .int .i64 p.f1, .string p.f2] 31)).drew := by
  exact Kd.R_append_step (P := Tryd.prog) (ops := ops) (o := o) (a := a) (Q := Q) k31 (w0 := W) (W := W.drew) base hw s x 23 31 _ 32 ho Tryd.underlying23 infoT rfl (by decide) (by omega) v xs p [.int .i64 p.f0, .int .i64 p.f1, .string p.f2] (fun k => k ≠ g) (fun _ => False) hs hx (k31_mkM _ _ _ p) (fun _ hk => hk.elim) (fun k hk => by simp at hk; omega) (Kd.R_drew HO) (below_drew (Below.refl _ _)) hbase (by omega) (fun v1 w1 h1 h2 h3 _ => h v1 w1 h1 h2 h3)
end

set_option maxHeartbeats 4000000 in
set_option maxRecDepth 100000 in
theorem token_letter (s : ByteArray) (i : Nat) (L : Value) (ts : List Tk) (g base : Nat) (w : World) (hs : s.size ≤ 140737488351232) (hi : i < s.size) (hb : Blk w g s i L)
    (hO : Kd.R k31 31 w base (fun k => k ≠ g) L ts) (hbase : base ≤ g) (hts : ts.length ≤ 1000000000) (hl : pLetter (bt s i) = true) :
    Calls Tryd.prog 17 #[.pointer (some ⟨g, 0, none⟩)] w fun e w' =>
      e = .returned (.bool true) ∧ ∃ L', Blk w' g s (wEnd s i : Nat) L' ∧ Kd.R k31 31 w' base (fun k => k ≠ g) L' (ts ++ [⟨1, i, s.extract i (wEnd s i)⟩]) ∧ Below base w w' := by
  have hg := blk_lt hb
  have c0 := hb.c0
  have c1 := hb.c1
  have hr := bt_range s (i : Int)
  have HLT := Aside0.mk (show ∀ W : World, Calls Tryd.prog 23 #[.int .u8 (bt s (i : Int))] W fun e w' => e = .returned (.bool true) ∧ Drawn0 W w' from fun W => lex_letter.calls _ _ W ((pLetter_some _ hr.1 hr.2).trans (by rw [hl])))
  have hlt2 : (i : Int) < (s.size : Int) := by omega
  have hx : ∀ h : i < s.size, ((s[i]'h).toNat : Int) = bt s (i : Int) := fun h => bt_at s (i : Int) h
  have HB := Aside0.mk hb
  have HS := Aside0.mk hs
  have HO := Aside0.mk hO
  have HG0 := Aside0.mk hg
  have hu := Tryd.underlying31
  clear hb hO hl
  go_enter Tryd.func17, Tryd.ntmps17
  go_wp2
  go_quiet (fail)
  go_wp2_with fail
  refine (HLT.out _).mono ?_
  rintro e w' ⟨rfl, ⟨n, rfl⟩⟩
  go_wp2_with fail
  refine (row_word s i L g pWord _ HS.out (by omega) (by exact blk_drewN (blk_alloc HB.out _) _) hWord).mono ?_
  rintro e w1 ⟨rfl, hb1, hk1⟩
  have hT1 : w1.heap[w.heap.size]? = some (.cells #[.int .i64 0, .int .i64 i, .string ⟨#[]⟩] 31 (0, 0)) := hk1.k.blk (blk_drewN (blk_new w _) _) (by omega) (by simp)
  have t0 := (blk_cell hT1 0).trans rfl
  have t1 := (blk_cell hT1 1).trans rfl
  have t2 := (blk_cell hT1 2).trans rfl
  have tf0 := blk_frozen hT1 0
  have tf1 := blk_frozen hT1 1
  have tf2 := blk_frozen hT1 2
  have d0 := hb1.c0
  have d1 := hb1.c1
  have d2 := hb1.c2
  have df := hb1.fr 2
  have hne : g ≠ w.heap.size := by omega
  have HT1 := Aside0.mk hT1
  have HB1 := Aside0.mk hb1
  have HK1 := Aside0.mk hk1
  clear hT1 hb1 hk1 c0 c1
  go_wp2
  have hT3 : ((w1.setCell ⟨w.heap.size, 0, none⟩ (.int .i64 1)).setCell ⟨w.heap.size, 2, none⟩ (.string (s.extract i (rowEnd s pWord (s.size - i) i)))).heap[w.heap.size]? = some (.cells #[.int .i64 1, .int .i64 i, .string (s.extract i (rowEnd s pWord (s.size - i) i))] 31 (0, 0)) := by
    have := blk_set (blk_set HT1.out 0 (.int .i64 1)) 2 (.string (s.extract i (rowEnd s pWord (s.size - i) i))); simpa using this
  have hB3 : Blk ((w1.setCell ⟨w.heap.size, 0, none⟩ (.int .i64 1)).setCell ⟨w.heap.size, 2, none⟩ (.string (s.extract i (rowEnd s pWord (s.size - i) i)))) g s (wEnd s i : Nat) L := blk_far (blk_far HB1.out hne _) hne _
  have hO3 : Kd.R k31 31 ((w1.setCell ⟨w.heap.size, 0, none⟩ (.int .i64 1)).setCell ⟨w.heap.size, 2, none⟩ (.string (s.extract i (rowEnd s pWord (s.size - i) i)))) base (fun k => k ≠ g) L ts :=
    Kd.R_mono (Kd.R_far (Kd.R_far (Kd.R_keep (Kd.R_drewN (Kd.R_alloc (Kd.R_bound HO.out) _) _) HK1.out.k (fun k hk => hk.1)) (p := ⟨w.heap.size, 0, none⟩) (fun k hk => Nat.ne_of_lt hk.2.2.1) _) (p := ⟨w.heap.size, 2, none⟩) (fun k hk => Nat.ne_of_lt hk.2.2.1) _) (fun k hk => hk.1)
  have hW3 : Below base w ((w1.setCell ⟨w.heap.size, 0, none⟩ (.int .i64 1)).setCell ⟨w.heap.size, 2, none⟩ (.string (s.extract i (rowEnd s pWord (s.size - i) i)))) :=
    (((pw_below_drewN (below_alloc (Below.refl w.heap.size w) _) _).mono (by omega : base ≤ w.heap.size)).trans (HK1.out.b.mono hbase) |>.setCell (by simp; omega) _).setCell (by simp; omega) _
  generalize ((w1.setCell ⟨w.heap.size, 0, none⟩ (.int .i64 1)).setCell ⟨w.heap.size, 2, none⟩ (.string (s.extract i (rowEnd s pWord (s.size - i) i)))) = W3 at hT3 hB3 hO3 hW3 ⊢
  clear t0 t1 t2 tf0 tf1 tf2 d0 d1 d2 df
  have HT3 := Aside0.mk hT3
  have HB3 := Aside0.mk hB3
  have HO3 := Aside0.mk hO3
  have HW3 := Aside0.mk hW3
  have t0 := (blk_cell hT3 0).trans rfl
  have t1 := (blk_cell hT3 1).trans rfl
  have t2 := (blk_cell hT3 2).trans rfl
  have d2 := hB3.c2
  have df := hB3.fr 2
  have hg3 := blk_lt hB3
  have hb3 := blk_lt hT3
  have hne : g ≠ w.heap.size := by omega
  clear hT3 hB3 hO3 hW3
  have hbase3 : base ≤ W3.heap.size := by omega
  go_region_law ((refine app_tok base g (by rfl) (.tmp 84) (.tmp 86) rfl L ts (⟨1, i, s.extract i (rowEnd s pWord (s.size - i) i)⟩ : Tk) ?aV ?aX ?aG ?aO ?aS ?aL ?_; (case aV => first | rfl | (simp [Act.eval])); (case aX => first | rfl | (simp [Act.eval])); (case aG => exact hg3); (case aO => exact HO3.out); (case aS => exact hbase3); (case aL => omega); intro v1 w1 ho hb1 hg1; obtain ⟨A1, k1, e1⟩ := Kd.R_slice ho; subst e1; have hB4 : Blk w1 g s (wEnd s i : Nat) L := blk_grown (blk_drew HB3.out) hg1 (Kd.R_away HO3.out (fun k hk => hk)); have f1' := hB4.fr 2; have c2' := hB4.c2; have HO4 := Aside0.mk ho; have HB4 := Aside0.mk hB4; have HW4 := Aside0.mk (HW3.out.trans hb1); clear ho hb1 hg1 hB4))
  all_goals
    go_wp2
    go_ret
    refine ⟨rfl, _, ?_, Kd.R_far HO4.out (fun k hk => hk) _, HW4.out.setCell (by simp; omega) _⟩
    have := blk_set HB4.out 2 (.slice A1 (ts ++ [(⟨1, i, s.extract i (rowEnd s pWord (s.size - i) i)⟩ : Tk)]).length k1)
    simpa [Blk] using this
end Go.Proofs.YtlhllcbglfffdaaDoor.Lx
