/- The walks of the reference: tables, block. -/
import Derived.Test.YtlonhkechpgbiaaSha7
import Derived.Test.YtlonhkechpgbiaaShaR
namespace Go.Proofs.Ytlonhkechpgbiaa.Sh
open Go.RowKit Go.Proofs.Ytlonhkechpgbiaa.Pr Go.Proofs.YtlonhkechpgbiaaW.PrintWords Go.Proofs.YtlonhkechpgbiaaW.PrintLast Go.Proofs.YtlonhkechpgbiaaW.PrintMore
set_option linter.unusedVariables false
set_option linter.unusedSimpArgs false
theorem info72 {L : List Int} (h : L.length = 72) : (Try.prog.info? 53).map (·.size) = some (u32s L).size := by
  rw [u32s_size, h]; kernel_rfl
def tabL : List Int := H0 ++ KT
def tabK (k : Nat) : List Int := (tabL.take k) ++ List.replicate (72 - k) 0
theorem tabK_length (k : Nat) (h : k ≤ 72) : (tabK k).length = 72 := by
  have : tabL.length = 72 := rfl
  simp [tabK, this]; omega
theorem tabK_set (k : Nat) (h : k < 72) : (tabK k).set k (tabL.getD k 0) = tabK (k + 1) := by
  have hl : tabL.length = 72 := rfl
  apply List.ext_getElem?
  intro j
  by_cases hj : j = k
  · subst hj
    rw [List.getElem?_set_self (by rw [tabK_length _ (by omega)]; exact h)]
    unfold tabK
    rw [List.getElem?_append_left (by simp [hl]; omega), List.getElem?_take_of_lt (by omega), List.getD_eq_getElem?_getD, List.getElem?_eq_getElem (by omega)]
    rfl
  · rw [List.getElem?_set_ne (Ne.symm hj)]
    unfold tabK
    by_cases hlt : j < k
    · rw [List.getElem?_append_left (by simp [hl]; omega), List.getElem?_append_left (by simp [hl]; omega), List.getElem?_take_of_lt hlt, List.getElem?_take_of_lt (by omega)]
    · rw [List.getElem?_append_right (by simp [hl]; omega), List.getElem?_append_right (by simp [hl]; omega)]
      simp only [List.length_take, hl, List.getElem?_replicate]
      by_cases h72 : j < 72
      · rw [if_pos (by omega), if_pos (by omega)]
      · rw [if_neg (by omega), if_neg (by omega)]

def Z72 : Array Value := u32s (tabK 0)
theorem zero72 : ∀ w : World, (zeroValue 53).run Try.prog w = .ok (.agg Z72) w := fun w => by kernel_rfl
theorem tabL_H (i : Nat) (h : i < 8) : H0.getD i 0 = tabL.getD (0 + i) 0 := by
  rw [Nat.zero_add, List.getD_eq_getElem?_getD, List.getD_eq_getElem?_getD, tabL, List.getElem?_append_left (by exact h)]
theorem tabL_K (i : Nat) (h : i < 64) : KT.getD i 0 = tabL.getD (8 + i) 0 := by
  rw [List.getD_eq_getElem?_getD, List.getD_eq_getElem?_getD, tabL, List.getElem?_append_right (by show 8 ≤ 8 + i; omega)]
  congr 2
  show i = 8 + i - 8; omega
set_option maxHeartbeats 4000000 in
set_option maxRecDepth 100000 in
theorem tables_calls (w : World) : Calls Try.prog 20 #[] w fun e w' => e = .returned (.agg (u32s tabL)) ∧ Below w.heap.size w w' := by
  obtain ⟨M, hM⟩ : ∃ M, M = tabL := ⟨_, rfl⟩
  rw [← hM]
  have HMM := Aside0.mk hM
  clear hM
  have hz72 := zero72
  go_enter Try.func20, Try.ntmps20
  go_wp2_with fail
  refine (parapetref1_primes.calls 20000 primesL _ primes_f).mono ?_
  rintro e w1 ⟨v0, rfl, hv, hb⟩
  have HT : Aside0 (Arr w1 (w.heap.size + 1) 53 (tabK 0)) := ⟨by refine blk_below ?_ hb; exact (blk_at _ (by simp)).trans rfl⟩
  have HO : Aside0 (Arr w1 w.heap.size 53 (tabK 0)) := ⟨by refine blk_below ?_ hb; exact (blk_alloc (blk_new _ _) _).trans rfl⟩
  have HB : Aside0 (Below w.heap.size w w1) := ⟨(below_alloc (below_alloc (Below.refl _ _) _) _).trans (hb.mono (by simp; omega))⟩
  obtain ⟨A, c, ev⟩ := Kd.R_slice hv
  subst ev
  have hC := (Kd.R_reads' hv).2.2
  have hbase : ∀ k, (Value.slice A primesL.length c).ownBlock = some k → w.heap.size + 2 ≤ k := fun k hk => by have := Kd.R_base hv k hk; simpa using this
  have HC := Aside0.mk hC
  have HBA := Aside0.mk hbase
  clear hv hb hC hbase
  obtain ⟨g1, hg1⟩ : ∃ g, g = w.heap.size + 1 := ⟨_, rfl⟩
  rw [← hg1] at HT ⊢
  have HG1 : Aside0 (g1 = w.heap.size + 1) := ⟨hg1⟩
  have HG2 : Aside0 (w.heap.size ≤ g1) := ⟨by omega⟩
  clear hg1
  go_wp2
  go_loopg [3] 8 (fun gk v wr => ∃ (i : Nat), v = .int .i64 i ∧ Aside0 (i ≤ 8) ∧ Aside0 (8 - i ≤ gk) ∧ Aside0 (Arr wr g1 53 (tabK i)) ∧ Aside0 (Arr wr w.heap.size 53 (tabK 0)) ∧ Aside0 (Kd.C (Kd.int .i64) wr A primesL.length primesL) ∧ Aside0 (Below w.heap.size w wr))
  case atStart => exact ⟨0, rfl, ⟨by omega⟩, ⟨by omega⟩, HT, HO, HC, HB⟩
  case round =>
    clear HT HO HC HB
    obtain ⟨i, rfl, Hi, HG, HT, HO, HC, HB⟩ := hrel
    have hi := Hi.out
    by_cases hlt : i < 8
    · have e1 : decide (i < 8) = true := decide_eq_true hlt
      have z0 : 0 ≤ (i : Int) := by omega
      have z1 : (i : Int) < 8 := by omega
      have z2 : (i : Int) < 64 := by omega
      have z3 : (i : Int) < (primesL.length : Int) := z2
      obtain ⟨ad, eA, hx⟩ := Kd.at_int HC.out (i : Int) z0 (by show (i : Int) < 64; omega)
      subst eA
      rw [Int.toNat_natCast] at hx
      obtain ⟨x, hxx⟩ : ∃ x, x = rd primesL (i : Int) := ⟨_, rfl⟩
      rw [← hxx] at hx
      have hroot : parapetref1_root.f 300 x 2 = some (H0.getD i 0) := by rw [hxx]; exact roots2 i hlt
      have HROOT := Aside0.mk hroot
      have HLT := Aside0.mk hlt
      clear hxx hroot
      go_wp2_with fail
      refine (parapetref1_root.calls 300 x 2 _ _ HROOT.out).mono ?_
      rintro e w5 ⟨rfl, hb5⟩
      have hT5 : Arr w5 g1 53 (tabK i) := blk_below HT.out hb5
      have m0 := hT5.cell i (by rw [tabK_length _ (by omega)]; omega)
      have f0 := hT5.fr i
      have HT5 := Aside0.mk hT5
      have HO5 := Aside0.mk (show Arr w5 w.heap.size 53 (tabK 0) from blk_below HO.out hb5)
      have HC5 := Aside0.mk (Kd.C_below HC.out hb5)
      have HB5 := Aside0.mk (HB.out.trans (hb5.mono HB.out.size))
      clear hT5 hb5 hx HT HO HC HB
      go_wp2
      go_roundg (8 - (i + 1))
      case measure => have := HG.out; omega
      case rel =>
        refine ⟨i + 1, by go_num, ⟨by omega⟩, ⟨Nat.le_refl _⟩, ⟨?_⟩, ⟨?_⟩, ⟨?_⟩, ⟨?_⟩⟩
        · have := Arr.set HT5.out i (H0.getD i 0)
          rw [show (tabK i).set i (H0.getD i 0) = tabK (i + 1) by rw [show H0.getD i 0 = tabL.getD i 0 by rw [tabL_H i HLT.out, Nat.zero_add]]; exact tabK_set i (by omega)] at this
          exact this
        · exact blk_far HO5.out (by have := HG1.out; show w.heap.size ≠ g1; omega) _
        · exact Kd.C_foot_ne (fun h => h) HC5.out (fun ad hA _ => by cases hA; have := HBA.out _ rfl; have := HG1.out; omega) _ (KeepBut.set_ (KeepBut.refl _ _ _) _ _)
        · exact HB5.out.setCell HG2.out _
    · have e1 : decide (i < 8) = false := decide_eq_false hlt
      have hiE : i = 8 := by omega
      subst hiE
      go_wp2
      go_loopg [4] 64 (fun gk v wr => ∃ (i : Nat), v = .int .i64 i ∧ Aside0 (i ≤ 64) ∧ Aside0 (64 - i ≤ gk) ∧ Aside0 (Arr wr g1 53 (tabK (8 + i))) ∧ Aside0 (Arr wr w.heap.size 53 (tabK 0)) ∧ Aside0 (Kd.C (Kd.int .i64) wr A primesL.length primesL) ∧ Aside0 (Below w.heap.size w wr))
      case atStart => exact ⟨0, rfl, ⟨by omega⟩, ⟨by omega⟩, HT, HO, HC, HB⟩
      case round =>
        clear HT HO HC HB
        obtain ⟨i, rfl, Hi, HG, HT, HO, HC, HB⟩ := hrel
        have hi := Hi.out
        by_cases hlt : i < 64
        · have e1 : decide (i < 64) = true := decide_eq_true hlt
          have z0 : 0 ≤ (i : Int) := by omega
          have z1 : (i : Int) < 64 := by omega
          have z2 : (i : Int) < 64 := by omega
          have z3 : (i : Int) < (primesL.length : Int) := z2
          obtain ⟨ad, eA, hx⟩ := Kd.at_int HC.out (i : Int) z0 (by show (i : Int) < 64; omega)
          subst eA
          rw [Int.toNat_natCast] at hx
          obtain ⟨x, hxx⟩ : ∃ x, x = rd primesL (i : Int) := ⟨_, rfl⟩
          rw [← hxx] at hx
          have hroot : parapetref1_root.f 300 x 3 = some (KT.getD i 0) := by rw [hxx]; exact roots3 i hlt
          have HROOT := Aside0.mk hroot
          have HLT := Aside0.mk hlt
          clear hxx hroot
          go_wp2_with fail
          refine (parapetref1_root.calls 300 x 3 _ _ HROOT.out).mono ?_
          rintro e w5 ⟨rfl, hb5⟩
          have hT5 : Arr w5 g1 53 (tabK (8 + i)) := blk_below HT.out hb5
          have m0 := hT5.cell (8 + i) (by rw [tabK_length _ (by omega)]; omega)
          have f0 := hT5.fr (8 + i)
          have HT5 := Aside0.mk hT5
          have HO5 := Aside0.mk (show Arr w5 w.heap.size 53 (tabK 0) from blk_below HO.out hb5)
          have HC5 := Aside0.mk (Kd.C_below HC.out hb5)
          have HB5 := Aside0.mk (HB.out.trans (hb5.mono HB.out.size))
          clear hT5 hb5 hx HT HO HC HB
          go_wp2
          go_roundg (64 - (i + 1))
          case measure => have := HG.out; omega
          case rel =>
            refine ⟨i + 1, by go_num, ⟨by omega⟩, ⟨Nat.le_refl _⟩, ⟨?_⟩, ⟨?_⟩, ⟨?_⟩, ⟨?_⟩⟩
            · have := Arr.set HT5.out (8 + i) (KT.getD i 0)
              rw [show (tabK (8 + i)).set (8 + i) (KT.getD i 0) = tabK (8 + (i + 1)) by rw [tabL_K i HLT.out]; exact tabK_set (8 + i) (by have := HLT.out; omega)] at this
              exact this
            · exact blk_far HO5.out (by have := HG1.out; show w.heap.size ≠ g1; omega) _
            · exact Kd.C_foot_ne (fun h => h) HC5.out (fun ad hA _ => by cases hA; have := HBA.out _ rfl; have := HG1.out; omega) _ (KeepBut.set_ (KeepBut.refl _ _ _) _ _)
            · exact HB5.out.setCell HG2.out _
        · have e1 : decide (i < 64) = false := decide_eq_false hlt
          have hiE : i = 64 := by omega
          subst hiE
          have HM1 : Aside0 (Arr wr g1 53 M) := ⟨by rw [HMM.out]; exact HT.out⟩
          have HI := Aside0.mk (info72 (show M.length = 72 by rw [HMM.out]; rfl))
          have HLM : Aside0 (M.length = 72) := ⟨by rw [HMM.out]; rfl⟩
          clear hlt HT HC
          go_wp2_with (first | (refine wpList_load_row rfl 53 _ rfl g1 rfl 53 (u32s M) (0, 0) _ HM1.out Try.underlying53 rfl HI.out ?_) | (refine wpList_store_row rfl 53 _ _ rfl w.heap.size (u32s M) rfl rfl 53 _ HO.out HI.out (by rw [u32s_size, u32s_size, HLM.out]; rfl) (u32s_one M) ?_))
          exact bodyPost_ret (v := .agg (u32s M)) (results_cell_row rfl _ _ w.heap.size 53 (u32s M) (0, 0) _ rfl (setRow_heap _ _ _ _ _ _ HO.out) Try.underlying53 rfl HI.out) rfl ⟨rfl, below_setRow HB.out (Nat.le_refl _) _⟩

end Go.Proofs.Ytlonhkechpgbiaa.Sh
