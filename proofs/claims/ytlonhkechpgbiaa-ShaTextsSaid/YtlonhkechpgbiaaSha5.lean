/- The walk of Write. -/
import Derived.Test.YtlonhkechpgbiaaSha4
import Derived.Test.YtlonhkechpgbiaaQOwn
namespace Go.Proofs.Ytlonhkechpgbiaa.Sh
open Go.RowKit Go.Proofs.Ytlonhkechpgbiaa.Pr Go.Proofs.YtlonhkechpgbiaaW.PrintWords Go.Proofs.YtlonhkechpgbiaaW.PrintLast Go.Proofs.YtlonhkechpgbiaaW.PrintMore
open Go.Proofs.Ytlonhkechpgbiaa.QT (OwnAt)
set_option linter.unusedVariables false
set_option linter.unusedSimpArgs false
theorem DigL.rest {w g L b R n} (h : DigL w g L b R n) (hl : L.length = 8) : w.cell? ⟨g, 9, none⟩ = some R := by
  rw [blk_cell h, Array.getElem?_append_right (by rw [u32s_size]; omega)]; simp [u32s_size, hl]
theorem DigL.num {w g L b R n} (h : DigL w g L b R n) (hl : L.length = 8) : w.cell? ⟨g, 10, none⟩ = some (.int .i64 n) := by
  rw [blk_cell h, Array.getElem?_append_right (by rw [u32s_size]; omega)]; simp [u32s_size, hl]
theorem DigL.set_rest {w g L b R n} (h : DigL w g L b R n) (hl : L.length = 8) (R' : Value) : DigL (w.setCell ⟨g, 9, none⟩ R') g L b R' n := by
  have := blk_set h 9 R'
  rw [Array.setIfInBounds_append_right (by rw [u32s_size]; omega)] at this
  simpa [u32s_size, hl, DigL] using this
theorem DigL.set_num {w g L b R n} (h : DigL w g L b R n) (hl : L.length = 8) (n' : Int) : DigL (w.setCell ⟨g, 10, none⟩ (.int .i64 n')) g L b R n' := by
  have := blk_set h 10 (.int .i64 n')
  rw [Array.setIfInBounds_append_right (by rw [u32s_size]; omega)] at this
  simpa [u32s_size, hl, DigL] using this
/-- Blocks of 64 bytes are taken in as long as there are any. -/
def eat : Nat → S8 → Bool → List Int → S8 × Bool × List Int
  | 0, s, b, r => (s, b, r)
  | f + 1, s, b, r => if 64 ≤ r.length then eat f (blockS (begun b s) r) true (r.drop 64) else (s, b, r)
/-- All is as it was but the digest's block and that of its rest, and what is new. -/
def Kp (w w' : World) (g : Nat) (o : Option Nat) : Prop := w.heap.size ≤ w'.heap.size ∧ ∀ i, i < w.heap.size → i ≠ g → o ≠ some i → w'.heap[i]? = w.heap[i]?

theorem infoB : (Try.prog.info? 5).map (fun i => (i.zero, i.size, i.bytes)) = some (some (.int .u8 0), 1, 1) := by kernel_rfl
set_option maxHeartbeats 4000000 in
set_option maxRecDepth 100000 in
theorem write_calls (base g : Nat) (s : S8) (b : Bool) (R : Value) (r : List Int) (n : Int) (w : World) (h : DigL w g s.list b R n) (hR : OwnAt w base 5 R (nums .u8 r)) (hne : R.ownBlock ≠ some g) (hbg : base ≤ g)
    (A : Option Addr) (c : Nat) (p : List Int) (hp : Kd.C (Kd.int .u8) w A p.length p) (hpg : ∀ ad, A = some ad → 0 < p.length → ad.block ≠ g) (hc : p.length ≤ c) (hr : ∀ x ∈ r ++ p, 0 ≤ x ∧ x ≤ 255) (hn0 : 0 ≤ n) (hn1 : n ≤ 70368744177664) (hsz : r.length + p.length ≤ 70368744177664)
    (s' : S8) (b' : Bool) (r' : List Int) (hE : eat (r.length + p.length) s b (r ++ p) = (s', b', r')) :
    Calls Try.prog 13 #[.pointer (some ⟨g, 0, none⟩), .slice A p.length c] w fun e w' => e = .returned (.tuple #[]) ∧ ∃ R', DigL w' g s'.list b' R' (n + p.length) ∧ OwnAt w' base 5 R' (nums .u8 r') ∧ R'.ownBlock ≠ some g ∧
      Kp w w' g R.ownBlock ∧ Below base w w' ∧ (R'.ownBlock = R.ownBlock ∨ ∃ k, R'.ownBlock = some k ∧ w.heap.size ≤ k) := by
  have c9 := h.rest rfl
  have c10 := h.num rfl
  have f9 := blk_frozen h 9
  have f10 := blk_frozen h 10
  obtain ⟨AR, cR, eR, hcR, hcR2⟩ := hR.slice
  have HBG := Aside0.mk hbg
  rw [nums_length] at eR
  subst eR
  obtain ⟨i0, hi, hz0, hz1, hz2⟩ := info_parts infoB
  have HR' : ∀ x, Aside0 (OwnAt (w.setCell ⟨g, 10, none⟩ x) base 5 (.slice AR r.length cR) (nums .u8 r)) := fun x => ⟨hR.setCell hne x⟩
  have HP' : ∀ x, Aside0 (Kd.C (Kd.int .u8) (w.setCell ⟨g, 10, none⟩ (.int .i64 x)) A p.length p) := fun x => ⟨Kd.C_foot_ne (fun h => h) hp hpg _ (KeepBut.set_ (KeepBut.refl _ _ _) 10 _)⟩
  have HD := Aside0.mk h
  have HR := Aside0.mk hR
  have HNE := Aside0.mk hne
  have HP := Aside0.mk hp
  have HE := Aside0.mk hE
  have HB := Aside0.mk hr
  clear h hR hne hp hE hr
  go_enter Try.func13, Try.ntmps13
  go_wp2_with (at_builtin; refine QT.wpList_append_at rfl _ _ 23 23 rfl 5 i0 (.int .u8 0) 1 Try.underlying23 hi hz0 rfl hz1 hz2 rfl (HR' _).out _ rfl (nums .u8 p) (QT.src_of Try.underlying23 (HP' _).out) (QT.nums_one _ _) (by rw [nums_length, nums_length]; omega) (by decide) ?_ ?_)
  · have := blk_lt HD.out; simp; omega
  · intro v1 w1 hO1 hG1 hv1
    rw [show nums .u8 r ++ nums .u8 p = nums .u8 (r ++ p) from (nums_append _ _ _).symm] at hO1
    obtain ⟨A1, cA1, e1, hl1, hl1'⟩ := hO1.slice
    rw [nums_length] at e1
    obtain ⟨N1, hN1⟩ : ∃ N1, N1 = (r ++ p).length := ⟨_, rfl⟩
    rw [← hN1] at e1
    have HN1 := Aside0.mk hN1
    clear hN1 hl1 hl1'
    subst e1
    have hv1' : (Value.slice A1 N1 cA1).ownBlock = (Value.slice AR r.length cR).ownBlock ∨ ∃ b, (Value.slice A1 N1 cA1).ownBlock = some b ∧ w.heap.size ≤ b := hv1
    have hd1 : DigL w1 g s.list b (.slice AR r.length cR) (n + p.length) := (hG1.block g (by have := blk_lt HD.out; simpa using this) (fun he => HNE.out he.symm)).trans (HD.out.set_num rfl _)
    have hne1 : (Value.slice A1 N1 cA1).ownBlock ≠ some g := by
      rcases hv1' with he | ⟨k, he, hk⟩
      · rw [he]; exact HNE.out
      · rw [he]; have := blk_lt HD.out; intro hh; cases hh; omega
    have hk1 : Kp w w1 g (Value.slice AR r.length cR).ownBlock := ⟨Nat.le_trans (by simp) hG1.size, fun i hi h1 h2 => (hG1.block i (by simpa using hi) (Ne.symm h2)).trans (heap_setCell_other w ⟨g, 10, none⟩ i _ h1)⟩
    have hb1 : Below base w w1 := ⟨hG1.os, hG1.tape, hG1.output, hk1.1, fun i hi => hk1.2 i (by have := blk_lt HD.out; omega) (by omega) (fun he => by have := HR.out.base_le i he; omega)⟩
    have c9 := hd1.rest rfl
    have f9 := blk_frozen hd1 9
    have hd2 := hd1.set_rest rfl (.slice A1 N1 cA1)
    have hO2 : OwnAt (w1.setCell ⟨g, 9, none⟩ (.slice A1 N1 cA1)) base 5 (.slice A1 N1 cA1) (nums .u8 (r ++ p)) := hO1.setCell hne1 _
    have hk2 : Kp w (w1.setCell ⟨g, 9, none⟩ (.slice A1 N1 cA1)) g (Value.slice AR r.length cR).ownBlock := ⟨by simpa [World.setCell] using hk1.1, fun i hi h1 h2 => (heap_setCell_other w1 ⟨g, 9, none⟩ i _ h1).trans (hk1.2 i hi h1 h2)⟩
    have hb2 : Below base w (w1.setCell ⟨g, 9, none⟩ (.slice A1 N1 cA1)) := hb1.setCell hbg _
    have HD2 := Aside0.mk hd2
    have HO2 := Aside0.mk hO2
    have HK2 := Aside0.mk hk2
    have HB2 := Aside0.mk hb2
    have HNE1 := Aside0.mk hne1
    have HV1 := Aside0.mk hv1'
    clear hO1 hG1 hv1 hv1' hd1 hne1 hk1 hb1 hd2 hO2 hk2 hb2
    go_wp2
    go_loopg [] (r.length + p.length) (fun gk wr => ∃ (sc : S8) (bc : Bool) (rc : List Int) (Rc : Value), Aside0 (rc.length ≤ gk) ∧ Aside0 (∃ f, rc.length ≤ f ∧ eat f sc bc rc = (s', b', r')) ∧ Aside0 (DigL wr g sc.list bc Rc (n + p.length)) ∧ Aside0 (OwnAt wr base 5 Rc (nums .u8 rc)) ∧ Aside0 (Rc.ownBlock = (Value.slice A1 N1 cA1).ownBlock) ∧ Aside0 (Kp w wr g (Value.slice AR r.length cR).ownBlock) ∧ Aside0 (Below base w wr) ∧ Aside0 (∀ x ∈ rc, 0 ≤ x ∧ x ≤ 255))
    case atStart => exact ⟨s, b, r ++ p, .slice A1 N1 cA1, ⟨by rw [List.length_append]; exact Nat.le_refl _⟩, ⟨_, by rw [List.length_append]; exact Nat.le_refl _, HE.out⟩, HD2, HO2, ⟨rfl⟩, HK2, HB2, HB⟩
    case round =>
      clear HD2 HO2 HK2 HB2 HE HB c9 f9 HD HR HNE HP HR' HP' c10 f10
      obtain ⟨sc, bc, rc, Rc, HG, HE, HD, HO, HRV, HK, HB, HX⟩ := hrel
      obtain ⟨Ac, cc, eR, hcc, hcc2⟩ := HO.out.slice
      rw [nums_length] at eR hcc
      subst eR
      have c9 := HD.out.rest rfl
      have f9 := blk_frozen HD.out 9
      by_cases hlt : 64 ≤ rc.length
      · have e1 : decide (64 ≤ rc.length) = true := decide_eq_true hlt
        obtain ⟨ad, rfl, hbad, hcells⟩ := HO.out.cells (by rw [nums_length]; omega)
        have HC := Aside0.mk hcells
        clear hcells
        have z1 : 64 ≤ cc := by omega
        go_wp2
        refine QT.region 8 (by kernel_rfl) (by kernel_rfl) ?_
        simp only [List.take_succ_cons, List.take_zero, List.drop_succ_cons, List.drop_zero]
        repeat (go_big_quiet_step ((fail)))
        refine wpQuiet_nil ?_
        intro nq
        go_wp2_with fail
        have hadg : ad.block ≠ g := fun he => HNE1.out (by rw [← HRV.out]; simp [Value.ownBlock, he])
        refine (take_calls g sc bc _ _ _ (show DigL (wr.drewN nq) g _ _ _ _ from HD.out) ad cc rc hadg (fun i => by
            by_cases hi : i < rc.length
            · rw [List.getD_eq_getElem?_getD, List.getElem?_eq_getElem hi]; exact HX.out _ (List.getElem_mem hi)
            · rw [List.getD_eq_getElem?_getD, List.getElem?_eq_none (by omega)]; exact ⟨by decide, by decide⟩) (fun j hj => HC.out j _ (by
            unfold nums
            rw [List.getElem?_map, List.getElem?_eq_getElem (by omega), List.getD_eq_getElem?_getD, List.getElem?_eq_getElem (by omega)]; rfl))).mono ?_
        rintro e w5 ⟨rfl, hd5, hk5⟩
        have c9 := hd5.rest rfl
        have f9 := blk_frozen hd5 9
        have HD5 := Aside0.mk hd5
        have HK5 := Aside0.mk hk5
        have HADG := Aside0.mk hadg
        have HLT := Aside0.mk hlt
        clear hd5 hk5 hadg hlt
        have hKn : ∀ R', Kp w (w5.setCell ⟨g, 9, none⟩ R') g (Value.slice AR r.length cR).ownBlock := fun R' => ⟨Nat.le_trans HK.out.1 (Nat.le_trans HK5.out.k.1 (by simp [World.setCell])), fun i hi h1 h2 => (heap_setCell_other w5 ⟨g, 9, none⟩ i _ h1).trans ((HK5.out.k.2 i (Nat.lt_of_lt_of_le hi HK.out.1) h1 (by simp)).trans (HK.out.2 i hi h1 h2))⟩
        have hBn : ∀ R', Below base w (w5.setCell ⟨g, 9, none⟩ R') := fun R' => ((pw_below_drewN HB.out nq).trans (HK5.out.b.mono HBG.out)).setCell HBG.out _
        have hOn : ∀ R' : Value, OwnAt (w5.setCell ⟨g, 9, none⟩ R') base 5 (.slice (if cc = 64 then some ad else (some ad).map (·.add 64)) (rc.length - 64) (cc - 64)) (nums .u8 (rc.drop 64)) := fun R' => by
          have h1 : OwnAt w5 base 5 (.slice (some ad) rc.length cc) (nums .u8 rc) := (HO.out.drewN nq).keep HK5.out.k (by simp only [Value.ownBlock]; intro he; cases he; exact HADG.out rfl)
          have h2 := (h1.setCell (p := ⟨g, 9, none⟩) (by simp only [Value.ownBlock]; intro he; cases he; exact HADG.out rfl) R').drop 64 (by rw [nums_length]; exact HLT.out)
          rw [show (nums .u8 rc).drop 64 = nums .u8 (rc.drop 64) from List.map_drop.symm] at h2
          exact h2
        have HKn := Aside0.mk hKn
        have HBn := Aside0.mk hBn
        have HOn := Aside0.mk hOn
        clear hKn hBn hOn
        by_cases h64 : cc = 64
        · have z2 : (cc : Int) = 64 := by omega
          go_wp2
          have hKn := HKn.out
          have hBn := HBn.out
          have hOn := HOn.out
          simp only [if_pos h64, show cc - 64 = 0 by omega] at hOn
          go_roundg (rc.length - 64)
          case measure => have := HG.out; have := HLT.out; omega
          case rel =>
            refine ⟨blockS (begun bc sc) rc, true, rc.drop 64, _, ⟨by rw [List.length_drop]; exact Nat.le_refl _⟩, ⟨?_⟩, ⟨HD5.out.set_rest rfl _⟩, ⟨hOn _⟩, ⟨HRV.out⟩, ⟨hKn _⟩, ⟨hBn _⟩, ⟨fun x hx => HX.out x (List.mem_of_mem_drop hx)⟩⟩
            obtain ⟨f, hf, he⟩ := HE.out
            have hlt := HLT.out
            cases f with
            | zero => omega
            | succ f => exact ⟨f, by rw [List.length_drop]; omega, by rw [eat, if_pos hlt] at he; exact he⟩
        · go_wp2
          have hKn := HKn.out
          have hBn := HBn.out
          have hOn := HOn.out
          rw [if_neg h64] at hOn
          simp only [Option.map_some, Addr.add, if_neg (show ¬ (64 : Nat) = 0 by decide)] at hOn
          go_roundg (rc.length - 64)
          case measure => have := HG.out; have := HLT.out; omega
          case rel =>
            refine ⟨blockS (begun bc sc) rc, true, rc.drop 64, _, ⟨by rw [List.length_drop]; exact Nat.le_refl _⟩, ⟨?_⟩, ⟨HD5.out.set_rest rfl _⟩, ⟨hOn _⟩, ⟨HRV.out⟩, ⟨hKn _⟩, ⟨hBn _⟩, ⟨fun x hx => HX.out x (List.mem_of_mem_drop hx)⟩⟩
            obtain ⟨f, hf, he⟩ := HE.out
            have hlt := HLT.out
            cases f with
            | zero => omega
            | succ f => exact ⟨f, by rw [List.length_drop]; omega, by rw [eat, if_pos hlt] at he; exact he⟩
      · have e1 : decide (64 ≤ rc.length) = false := decide_eq_false hlt
        go_wp2
        go_end0
        obtain ⟨f, hf, he⟩ := HE.out
        have hfin : (sc, bc, rc) = (s', b', r') := by
          cases f with
          | zero => exact he
          | succ f => rw [eat, if_neg hlt] at he; exact he
        cases hfin
        exact ⟨rfl, _, HD.out, HO.out, by rw [HRV.out]; exact HNE1.out, HK.out, HB.out, by rw [HRV.out]; exact HV1.out⟩
end Go.Proofs.Ytlonhkechpgbiaa.Sh
