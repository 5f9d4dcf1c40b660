/- The walk of the reference's times. -/
import Derived.Test.YtlonhkechpgbiaaPr0
import Derived.Test.YtlonhkechpgbiaaQW
import Derived.Outline
import Derived.IntWalk
namespace Go.Proofs.Ytlonhkechpgbiaa.Tm
open Go.RowKit Go.Proofs.Ytlonhkechpgbiaa.Pr Go.Proofs.YtlonhkechpgbiaaW.PrintWords Go.Proofs.YtlonhkechpgbiaaW.PrintLast Go.Proofs.YtlonhkechpgbiaaW.PrintMore
set_option linter.unusedVariables false
set_option linter.unusedSimpArgs false
def tX (l : List Int) (lo : Int) (i : Nat) (o : List Int) : Int := IntKind.u64.wrap (IntKind.u64.wrap (rd l i * lo) + rd o i)
def t1 (l : List Int) (lo : Int) (i : Nat) (o : List Int) : List Int := o.set i (bits BinOp.and .u64 (tX l lo i o) 4294967295)
def tY (l : List Int) (lo hi : Int) (i : Nat) (o : List Int) : Int := IntKind.u64.wrap (IntKind.u64.wrap (rd (t1 l lo i o) ((i + 1 : Nat) : Int) + tX l lo i o / 4294967296) + IntKind.u64.wrap (rd l i * hi))
def t2 (l : List Int) (lo hi : Int) (i : Nat) (o : List Int) : List Int := (t1 l lo i o).set (i + 1) (bits BinOp.and .u64 (tY l lo hi i o) 4294967295)
def t3 (l : List Int) (lo hi : Int) (i : Nat) (o : List Int) : List Int := (t2 l lo hi i o).set (i + 2) (IntKind.u64.wrap (rd (t2 l lo hi i o) ((i + 2 : Nat) : Int) + tY l lo hi i o / 4294967296))
def tms (l : List Int) (lo hi : Int) : Nat → List Int
  | 0 => List.replicate (l.length + 2) 0
  | i + 1 => t3 l lo hi i (tms l lo hi i)
theorem tms_length (l : List Int) (lo hi : Int) : ∀ i, (tms l lo hi i).length = l.length + 2
  | 0 => by simp [tms]
  | i + 1 => by simp [tms, t3, t2, t1, tms_length l lo hi i]
theorem info64 : (Try.prog.info? 55).map (fun i => (i.zero, i.size, i.bytes)) = some (some (.int .u64 0), 1, 8) := by kernel_rfl
set_option maxHeartbeats 4000000 in
set_option maxRecDepth 100000 in
theorem times_calls (A : Option Addr) (c : Nat) (l : List Int) (a1 : Int) (w : World) (hr : Kd.C (Kd.int .u64) w A l.length l) (hc : l.length ≤ c) (hl : l.length ≤ 1000) :
    Calls Try.prog 33 #[.slice A l.length c, .int .u64 a1] w fun e w' => ∃ v : Value, e = .returned v ∧ Kd.R (Kd.int .u64) 55 w' w.heap.size (fun _ => True) v (tms l (bits BinOp.and .u64 a1 4294967295) (a1 / 4294967296) l.length) ∧ Below w.heap.size w w' := by
  have HR := Aside0.mk hr
  have h2 : IntKind.i64.wrap ((l.length : Int) + 2) = (l.length : Int) + 2 := IntWalk.i64_in _ (by omega)
  have hm1 : 0 ≤ (l.length : Int) + 2 := by omega
  have hm2 : ((l.length : Int) + 2).toNat = l.length + 2 := by omega
  have HB := Aside0.mk (Below.refl w.heap.size w)
  obtain ⟨hi, hhi⟩ : ∃ x, x = a1 / 4294967296 := ⟨_, rfl⟩
  obtain ⟨lo, hlo⟩ : ∃ x, x = bits BinOp.and .u64 a1 4294967295 := ⟨_, rfl⟩
  rw [← hhi, ← hlo]
  have HHI := Aside0.mk hhi
  have HLO := Aside0.mk hlo
  clear hhi hlo hr
  go_enter Try.func33, Try.ntmps33
  go_wp2_with (first | ((with_reducible refine gate_dst (N := 14) rfl ?_); refine Kd.R_make (Kd.int .u64) _ 55 rfl (N := 14) rfl 71 _ _ rfl ((l.length : Int) + 2) rfl rfl Try.underlying71 (.int .u64 0) 8 info64 rfl (by decide) (by omega) 0 (ok := fun _ => True) (okp := fun _ => True) rfl (fun _ hk => hk) trivial (by omega) (by omega) HB.out (Nat.le_refl _) ?_; intro v1 w1 ho hb hg_ hnew_; clear hg_ hnew_; have HO := Aside0.mk ho; have HB1 := Aside0.mk hb; clear ho hb))
  rw [← HLO.out, ← HHI.out]
  have hRl := Kd.R_reads' (c := 0) (n := 0) (A := none) (d := Kd.int .u64) (xs := ([] : List Int)) (e := 55) (w := w1) (base := 0) (ok := fun _ => True) (Kd.R_nil _ _ _ _ _)
  clear hRl
  obtain ⟨g, cap, ev, hgb, hgl, hcells⟩ := Kd.R_form HO.out (by simp; omega)
  rw [hm2, List.length_replicate] at ev
  rw [hm2] at HO
  subst ev
  clear hcells
  have HGB := Aside0.mk hgb
  clear hgb hgl h2 hm1 hm2
  go_loopg [8] (l.length) (fun gk v8 wr => ∃ (i : Nat), v8 = .int .i64 i ∧ Aside0 (i ≤ l.length) ∧ Aside0 (l.length - i ≤ gk) ∧ Aside0 (Kd.R (Kd.int .u64) 55 wr w.heap.size (fun _ => True) (.slice (some ⟨g, 0, none⟩) (l.length + 2) cap) (tms l lo hi i)) ∧ Aside0 (Below w.heap.size w wr))
  case atStart => exact ⟨0, rfl, ⟨by omega⟩, ⟨by omega⟩, HO, HB1⟩
  case round =>
    clear HO HB1
    obtain ⟨i, rfl, Hi, HG, HO, HB⟩ := hrel
    have hi' := Hi.out
    by_cases hlt : i < l.length
    · have e1 : decide (i < l.length) = true := decide_eq_true hlt
      have z0 : 0 ≤ (i : Int) := by omega
      have z1 : (i : Int) < (l.length : Int) := by omega
      have z2 : (i : Int) < (l.length : Int) + 2 := by omega
      obtain ⟨ad, eA, hx⟩ := Kd.at_int HR.out (i : Int) z0 z1
      subst eA
      rw [Int.toNat_natCast] at hx
      replace hx := (HB.out.cell (World.block_lt_of_cell? w _ hx)).trans hx
      obtain ⟨hy, hf⟩ := Kd.R_celln 0 HO.out (i : Int) z0 (by omega)
      rw [Int.toNat_natCast] at hy hf
      obtain ⟨y, hyy⟩ : ∃ y, y = rd (tms l lo hi i) (i : Int) := ⟨_, rfl⟩
      rw [show rdOf 0 (tms l lo hi i) (i : Int) = rd (tms l lo hi i) (i : Int) from rfl, ← hyy] at hy
      obtain ⟨x, hxx⟩ : ∃ x, x = rd l (i : Int) := ⟨_, rfl⟩
      rw [← hxx] at hx
      have HYY := Aside0.mk hyy
      have HXX := Aside0.mk hxx
      clear hyy hxx
      go_wp2
      go_quiet (fail)
      go_upto_region 9 with (fail)
      obtain ⟨X, hX⟩ : ∃ X, X = IntKind.u64.wrap (IntKind.u64.wrap (x * lo) + y) := ⟨_, rfl⟩
      rw [← hX]
      have HX : Aside0 (X = tX l lo i (tms l lo hi i)) := ⟨by rw [hX, HXX.out, HYY.out]; rfl⟩
      clear hX hy hf
      obtain ⟨w2, hw2⟩ : ∃ w2, w2 = (wr.drewN nq).setCell ⟨g, i, none⟩ (.int .u64 (bits BinOp.and .u64 X 4294967295)) := ⟨_, rfl⟩
      rw [← hw2]
      have HO2 : Aside0 (Kd.R (Kd.int .u64) 55 w2 w.heap.size (fun _ => True) (.slice (some ⟨g, 0, none⟩) (l.length + 2) cap) (t1 l lo i (tms l lo hi i))) := ⟨by
        have := (Kd.R_putg (Kd.R_drewN HO.out nq) (i : Int) (bits BinOp.and .u64 X 4294967295)).1
        rw [Int.toNat_natCast] at this
        rw [hw2, t1, ← HX.out]; exact this⟩
      have HB2 : Aside0 (Below w.heap.size w w2) := ⟨by rw [hw2]; exact (pw_below_drewN HB.out _).setCell HGB.out _⟩
      clear hw2 HO HB hx
      have a1' : IntKind.i64.wrap ((i : Int) + 1) = ((i + 1 : Nat) : Int) := by rw [show (i : Int) + 1 = ((i + 1 : Nat) : Int) by omega]; exact IntWalk.i64_in _ (by omega)
      have z3 : (i : Int) + 1 < (l.length : Int) + 2 := by omega
      have z4 : 0 ≤ (i : Int) + 1 := by omega
      obtain ⟨ad', eA, hx⟩ := Kd.at_int HR.out (i : Int) z0 z1
      have : ad' = ad := by cases eA; rfl
      subst this
      clear eA
      rw [Int.toNat_natCast] at hx
      replace hx := (HB2.out.cell (World.block_lt_of_cell? w _ hx)).trans hx
      rw [← HXX.out] at hx
      obtain ⟨hy, hf⟩ := Kd.R_celln 0 HO2.out ((i + 1 : Nat) : Int) (by omega) (by omega)
      rw [Int.toNat_natCast] at hy hf
      obtain ⟨y2, hyy⟩ : ∃ y, y = rd (t1 l lo i (tms l lo hi i)) ((i + 1 : Nat) : Int) := ⟨_, rfl⟩
      rw [show rdOf 0 (t1 l lo i (tms l lo hi i)) ((i + 1 : Nat) : Int) = rd (t1 l lo i (tms l lo hi i)) ((i + 1 : Nat) : Int) from rfl, ← hyy] at hy
      have HY2 := Aside0.mk hyy
      clear hyy
      go_quiet (fail)
      go_upto_region 11 with (fail)
      obtain ⟨Y, hY⟩ : ∃ Y, Y = IntKind.u64.wrap (IntKind.u64.wrap (y2 + X / 4294967296) + IntKind.u64.wrap (x * hi)) := ⟨_, rfl⟩
      rw [← hY]
      have HY : Aside0 (Y = tY l lo hi i (tms l lo hi i)) := ⟨by rw [hY, HY2.out, HX.out, HXX.out]; rfl⟩
      clear hY hy hf hx
      obtain ⟨w4, hw4⟩ : ∃ w4, w4 = (w2.drewN nq).setCell ⟨g, i + 1, none⟩ (.int .u64 (bits BinOp.and .u64 Y 4294967295)) := ⟨_, rfl⟩
      rw [← hw4]
      have HO4 : Aside0 (Kd.R (Kd.int .u64) 55 w4 w.heap.size (fun _ => True) (.slice (some ⟨g, 0, none⟩) (l.length + 2) cap) (t2 l lo hi i (tms l lo hi i))) := ⟨by
        have := (Kd.R_putg (Kd.R_drewN HO2.out nq) ((i + 1 : Nat) : Int) (bits BinOp.and .u64 Y 4294967295)).1
        rw [Int.toNat_natCast] at this
        rw [hw4, t2, ← HY.out]; exact this⟩
      have HB4 : Aside0 (Below w.heap.size w w4) := ⟨by rw [hw4]; exact (pw_below_drewN HB2.out _).setCell HGB.out _⟩
      clear hw4 HO2 HB2 a1'
      have a2' : IntKind.i64.wrap ((i : Int) + 2) = ((i + 2 : Nat) : Int) := by rw [show (i : Int) + 2 = ((i + 2 : Nat) : Int) by omega]; exact IntWalk.i64_in _ (by omega)
      have z5 : (i : Int) + 2 < (l.length : Int) + 2 := by omega
      obtain ⟨hy, hf⟩ := Kd.R_celln 0 HO4.out ((i + 2 : Nat) : Int) (by omega) (by omega)
      rw [Int.toNat_natCast] at hy hf
      obtain ⟨y3, hyy⟩ : ∃ y, y = rd (t2 l lo hi i (tms l lo hi i)) ((i + 2 : Nat) : Int) := ⟨_, rfl⟩
      rw [show rdOf 0 (t2 l lo hi i (tms l lo hi i)) ((i + 2 : Nat) : Int) = rd (t2 l lo hi i (tms l lo hi i)) ((i + 2 : Nat) : Int) from rfl, ← hyy] at hy
      have HY3 := Aside0.mk hyy
      clear hyy
      go_wp2
      go_roundg (l.length - (i + 1))
      case measure => have := HG.out; omega
      case rel =>
        refine ⟨i + 1, by go_num, ⟨by omega⟩, ⟨Nat.le_refl _⟩, ⟨?_⟩, ⟨HB4.out.setCell HGB.out _⟩⟩
        have := (Kd.R_putg HO4.out ((i + 2 : Nat) : Int) (IntKind.u64.wrap (y3 + Y / 4294967296))).1
        rw [Int.toNat_natCast] at this
        rw [tms, t3, ← HY3.out, ← HY.out]; exact this
    · have e1 : decide (i < l.length) = false := decide_eq_false hlt
      have hiE : i = l.length := by omega
      subst hiE
      go_wp2
      go_ret
      exact ⟨_, rfl, HO.out, HB.out⟩
end Go.Proofs.Ytlonhkechpgbiaa.Tm
