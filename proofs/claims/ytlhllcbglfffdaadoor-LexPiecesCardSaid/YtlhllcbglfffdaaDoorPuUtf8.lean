/- What the reference's reader of runes comes to, and that it is the library's own word on valid texts. -/
import Derived.Test.YtlhllcbglfffdaaDoorPuBase
import Derived.Test.YtlhllcbglfffdaaDoorPr8
import Derived.Test.YtlhllcbglfffdaaDoorPr8
import Derived.Lib.ValidLaws
import Derived.Lib.TrimUEq
import Derived.Lib.MapLaws
namespace Go.Proofs.YtlhllcbglfffdaaDoor.Pu
open Go.RowKit Go.Proofs.YtlhllcbglfffdaaDoor.Pr Go.Proofs.YtlhllcbglfffdaaDoorW.PrintWords
set_option linter.unusedVariables false
set_option linter.unusedSimpArgs false

/-- How many bytes the rune has that begins b0 b1 b2 b3, of n bytes; 0: it is none. -/
def runeLen (n b0 b1 b2 b3 : Int) : Int :=
  if b0 < 128 then 1
  else if b0 < 194 then 0
  else if b0 < 224 then (if 2 ≤ n ∧ 128 ≤ b1 ∧ b1 < 192 then 2 else 0)
  else if b0 < 240 then (if 3 ≤ n ∧ 128 ≤ b1 ∧ b1 < 192 ∧ 128 ≤ b2 ∧ b2 < 192 ∧ 2048 ≤ (b0 % 16 * 64 + b1 % 64) * 64 + b2 % 64 ∧ ¬ (55296 ≤ (b0 % 16 * 64 + b1 % 64) * 64 + b2 % 64 ∧ (b0 % 16 * 64 + b1 % 64) * 64 + b2 % 64 ≤ 57343) then 3 else 0)
  else if b0 < 245 then (if 4 ≤ n ∧ 128 ≤ b1 ∧ b1 < 192 ∧ 128 ≤ b2 ∧ b2 < 192 ∧ 128 ≤ b3 ∧ b3 < 192 ∧ 65536 ≤ ((b0 % 8 * 64 + b1 % 64) * 64 + b2 % 64) * 64 + b3 % 64 ∧ ((b0 % 8 * 64 + b1 % 64) * 64 + b2 % 64) * 64 + b3 % 64 ≤ 1114111 then 4 else 0)
  else 0

theorem byte_facts : ∀ c : Fin 256, (Go.bits .and .u8 (c.val : Int) 192 = 128 ↔ (128 ≤ (c.val : Int) ∧ (c.val : Int) < 192)) ∧ wrap64 (Go.bits .and .u8 (c.val : Int) 63) = (c.val : Int) % 64 ∧ Go.bits .and .i64 (wrap64 (c.val : Int)) 31 = (c.val : Int) % 32 ∧ Go.bits .and .i64 (wrap64 (c.val : Int)) 15 = (c.val : Int) % 16 ∧ Go.bits .and .i64 (wrap64 (c.val : Int)) 7 = (c.val : Int) % 8 := by decide +kernel
theorem byte_fact {c : Int} (h0 : 0 ≤ c) (h1 : c ≤ 255) : (Go.bits .and .u8 c 192 = 128 ↔ (128 ≤ c ∧ c < 192)) ∧ wrap64 (Go.bits .and .u8 c 63) = c % 64 ∧ Go.bits .and .i64 (wrap64 c) 31 = c % 32 ∧ Go.bits .and .i64 (wrap64 c) 15 = c % 16 ∧ Go.bits .and .i64 (wrap64 c) 7 = c % 8 := by
  obtain ⟨q, rfl⟩ : ∃ q : Fin 256, (q.val : Int) = c := ⟨⟨c.toNat, by omega⟩, by simp; omega⟩
  exact byte_facts q

theorem l0_yes (x : ByteArray) (n u least j : Int) (hj : j < n) (h0 : 0 ≤ j) (hs : j < x.size) (hb : j ≤ 10) (hu : 0 ≤ u) (hu2 : u < 1048576) (hc : 128 ≤ bt x j ∧ bt x j < 192) {r : Int}
    (h : Ev (fun k => parapetref9_runeAt.l0 k x n (u * 64 + bt x j % 64) least (j + 1)) r) : Ev (fun k => parapetref9_runeAt.l0 k x n u least j) r := by
  have hr := bt_range x j
  have hf := byte_fact hr.1 hr.2
  refine Ev.step (fun k => ?_) h
  simp only [parapetref9_runeAt.l0]
  rw [if_pos hj, if_pos h0, if_pos hs, if_pos (hf.1.2 hc), hf.2.1, w64 (by omega) (by omega), w64 (by omega) (by omega), i64_join 6 (u * 64) (bt x j % 64) (by omega) (by omega) (by omega) (by omega) (by omega) (by omega)]
theorem l0_no (x : ByteArray) (n u least j : Int) (hj : j < n) (h0 : 0 ≤ j) (hs : j < x.size) (hc : ¬ (128 ≤ bt x j ∧ bt x j < 192)) : Ev (fun k => parapetref9_runeAt.l0 k x n u least j) 0 := by
  have hr := bt_range x j
  have hf := byte_fact hr.1 hr.2
  refine Ev.step (fun k => ?_) (Ev.now 0)
  simp only [parapetref9_runeAt.l0]
  rw [if_pos hj, if_pos h0, if_pos hs, if_neg (fun h => hc (hf.1.1 h))]
theorem l0_end (x : ByteArray) (n u least : Int) : Ev (fun k => parapetref9_runeAt.l0 k x n u least n) (if least ≤ u ∧ u ≤ 1114111 ∧ ¬ (55296 ≤ u ∧ u ≤ 57343) then n else 0) := by
  refine Ev.step (fun k => ?_) (Ev.now _)
  simp only [parapetref9_runeAt.l0]
  rw [if_neg (by omega)]
  by_cases h1 : u < least
  · rw [if_pos h1, if_neg (by omega)]
  · rw [if_neg h1]
    by_cases h2 : u > 1114111
    · rw [if_pos h2, if_neg (by omega)]
    · rw [if_neg h2]
      by_cases h3 : u ≥ 55296
      · rw [if_pos h3]
        by_cases h4 : u ≤ 57343
        · rw [if_pos h4, if_neg (by omega)]
        · rw [if_neg h4, if_pos (by omega)]
      · rw [if_neg h3, if_pos (by omega)]
theorem j2_short (x : ByteArray) (n u least : Int) (h : (x.size : Int) < n) : Ev (fun k => parapetref9_runeAt.j2 k x n u least) 0 := by
  refine Ev.step (fun k => ?_) (Ev.now 0)
  simp only [parapetref9_runeAt.j2]
  rw [if_pos h]
theorem j2_long (x : ByteArray) (n u least : Int) (h : ¬ (x.size : Int) < n) {r : Int} (e : Ev (fun k => parapetref9_runeAt.l0 k x n u least 1) r) : Ev (fun k => parapetref9_runeAt.j2 k x n u least) r := by
  refine Ev.step (fun k => ?_) e
  simp only [parapetref9_runeAt.j2]
  rw [if_neg h]

theorem rune_two (x : ByteArray) (u : Int) (hu : 0 ≤ u) (hu2 : u < 32) : Ev (fun k => parapetref9_runeAt.j2 k x 2 u 128) (if 2 ≤ (x.size : Int) ∧ 128 ≤ bt x 1 ∧ bt x 1 < 192 ∧ 128 ≤ u * 64 + bt x 1 % 64 then 2 else 0) := by
  by_cases hs : (x.size : Int) < 2
  · exact (j2_short x 2 u 128 hs).eq (by rw [if_neg (by omega)])
  · refine j2_long x 2 u 128 hs ?_
    by_cases c1 : 128 ≤ bt x 1 ∧ bt x 1 < 192
    · exact l0_yes x 2 u 128 1 (by omega) (by omega) (by omega) (by omega) hu (by omega) c1 ((l0_end x 2 _ 128).eq (by
        by_cases q : 128 ≤ u * 64 + bt x 1 % 64
        · rw [if_pos (by omega), if_pos (by omega)]
        · rw [if_neg (by omega), if_neg (by omega)]))
    · exact (l0_no x 2 u 128 1 (by omega) (by omega) (by omega) c1).eq (by rw [if_neg (by omega)])

theorem rune_three (x : ByteArray) (u : Int) (hu : 0 ≤ u) (hu2 : u < 16) : Ev (fun k => parapetref9_runeAt.j2 k x 3 u 2048) (if 3 ≤ (x.size : Int) ∧ 128 ≤ bt x 1 ∧ bt x 1 < 192 ∧ 128 ≤ bt x 2 ∧ bt x 2 < 192 ∧ 2048 ≤ (u * 64 + bt x 1 % 64) * 64 + bt x 2 % 64 ∧ ¬ (55296 ≤ (u * 64 + bt x 1 % 64) * 64 + bt x 2 % 64 ∧ (u * 64 + bt x 1 % 64) * 64 + bt x 2 % 64 ≤ 57343) then 3 else 0) := by
  by_cases hs : (x.size : Int) < 3
  · exact (j2_short x 3 u 2048 hs).eq (by rw [if_neg (by omega)])
  · refine j2_long x 3 u 2048 hs ?_
    by_cases c1 : 128 ≤ bt x 1 ∧ bt x 1 < 192
    · refine l0_yes x 3 u 2048 1 (by omega) (by omega) (by omega) (by omega) hu (by omega) c1 ?_
      by_cases c2 : 128 ≤ bt x 2 ∧ bt x 2 < 192
      · refine l0_yes x 3 _ 2048 2 (by omega) (by omega) (by omega) (by omega) (by omega) (by omega) c2 ((l0_end x 3 _ 2048).eq ?_)
        have hv : (u * 64 + bt x 1 % 64) * 64 + bt x 2 % 64 ≤ 65535 := by omega
        generalize (u * 64 + bt x 1 % 64) * 64 + bt x 2 % 64 = v at *
        by_cases q : 2048 ≤ v ∧ ¬ (55296 ≤ v ∧ v ≤ 57343)
        · rw [if_pos ⟨q.1, by omega, q.2⟩, if_pos ⟨by omega, c1.1, c1.2, c2.1, c2.2, q.1, q.2⟩]
        · rw [if_neg (fun h => q ⟨h.1, h.2.2⟩), if_neg (fun h => q ⟨h.2.2.2.2.2.1, h.2.2.2.2.2.2⟩)]
      · exact (l0_no x 3 _ 2048 2 (by omega) (by omega) (by omega) c2).eq (by rw [if_neg (by omega)])
    · exact (l0_no x 3 u 2048 1 (by omega) (by omega) (by omega) c1).eq (by rw [if_neg (by omega)])

theorem rune_four (x : ByteArray) (u : Int) (hu : 0 ≤ u) (hu2 : u < 8) : Ev (fun k => parapetref9_runeAt.j2 k x 4 u 65536) (if 4 ≤ (x.size : Int) ∧ 128 ≤ bt x 1 ∧ bt x 1 < 192 ∧ 128 ≤ bt x 2 ∧ bt x 2 < 192 ∧ 128 ≤ bt x 3 ∧ bt x 3 < 192 ∧ 65536 ≤ ((u * 64 + bt x 1 % 64) * 64 + bt x 2 % 64) * 64 + bt x 3 % 64 ∧ ((u * 64 + bt x 1 % 64) * 64 + bt x 2 % 64) * 64 + bt x 3 % 64 ≤ 1114111 then 4 else 0) := by
  by_cases hs : (x.size : Int) < 4
  · exact (j2_short x 4 u 65536 hs).eq (by rw [if_neg (by omega)])
  · refine j2_long x 4 u 65536 hs ?_
    by_cases c1 : 128 ≤ bt x 1 ∧ bt x 1 < 192
    · refine l0_yes x 4 u 65536 1 (by omega) (by omega) (by omega) (by omega) hu (by omega) c1 ?_
      by_cases c2 : 128 ≤ bt x 2 ∧ bt x 2 < 192
      · refine l0_yes x 4 _ 65536 2 (by omega) (by omega) (by omega) (by omega) (by omega) (by omega) c2 ?_
        by_cases c3 : 128 ≤ bt x 3 ∧ bt x 3 < 192
        · refine l0_yes x 4 _ 65536 3 (by omega) (by omega) (by omega) (by omega) (by omega) (by omega) c3 ((l0_end x 4 _ 65536).eq ?_)
          generalize ((u * 64 + bt x 1 % 64) * 64 + bt x 2 % 64) * 64 + bt x 3 % 64 = v at *
          by_cases q : 65536 ≤ v ∧ v ≤ 1114111
          · rw [if_pos ⟨q.1, q.2, by omega⟩, if_pos ⟨by omega, c1.1, c1.2, c2.1, c2.2, c3.1, c3.2, q.1, q.2⟩]
          · rw [if_neg (fun h => q ⟨h.1, h.2.1⟩), if_neg (fun h => q ⟨h.2.2.2.2.2.2.2.1, h.2.2.2.2.2.2.2.2⟩)]
        · exact (l0_no x 4 _ 65536 3 (by omega) (by omega) (by omega) c3).eq (by rw [if_neg (by omega)])
      · exact (l0_no x 4 _ 65536 2 (by omega) (by omega) (by omega) c2).eq (by rw [if_neg (by omega)])
    · exact (l0_no x 4 u 65536 1 (by omega) (by omega) (by omega) c1).eq (by rw [if_neg (by omega)])

theorem rune_ev (x : ByteArray) (h : 0 < x.size) : Ev (fun k => parapetref9_runeAt.f k x) (runeLen x.size (bt x 0) (bt x 1) (bt x 2) (bt x 3)) := by
  have hr := bt_range x 0
  have hf := byte_fact hr.1 hr.2
  unfold parapetref9_runeAt.f runeLen
  simp only [show (0 : Int) < (x.size : Int) from by omega, if_true]
  by_cases a1 : bt x 0 < 128
  · simp only [a1, if_true]; exact Ev.now 1
  · simp only [a1, if_false]
    have j0F : ∀ r : Int, Ev (fun k => if bt x 0 ≥ 224 then parapetref9_runeAt.j1 k x (bt x 0) (wrap64 (bt x 0)) (decide (bt x 0 < 240)) else parapetref9_runeAt.j1 k x (bt x 0) (wrap64 (bt x 0)) false) r → Ev (fun k => parapetref9_runeAt.j0 k x (bt x 0) (wrap64 (bt x 0)) false) r := by
      intro r h
      refine Ev.step (fun k => ?_) h
      simp only [parapetref9_runeAt.j0, Bool.false_eq_true, if_false]
    have j1F : ∀ r : Int, Ev (fun k => if bt x 0 ≥ 240 then (if bt x 0 < 245 then parapetref9_runeAt.j2 k x 4 (Go.bits .and .i64 (wrap64 (bt x 0)) 7) 65536 else some 0) else some 0) r → Ev (fun k => parapetref9_runeAt.j1 k x (bt x 0) (wrap64 (bt x 0)) false) r := by
      intro r h
      refine Ev.step (fun k => ?_) h
      simp only [parapetref9_runeAt.j1, Bool.false_eq_true, if_false]
    by_cases a2 : bt x 0 < 194
    · simp only [a2, if_true, show ¬ bt x 0 ≥ 194 from by omega, if_false]
      apply j0F
      simp only [show ¬ bt x 0 ≥ 224 from by omega, if_false]
      apply j1F
      simp only [show ¬ bt x 0 ≥ 240 from by omega, if_false]
      exact Ev.now 0
    · simp only [a2, if_false, show bt x 0 ≥ 194 from by omega, if_true]
      by_cases a3 : bt x 0 < 224
      · simp only [a3, if_true, decide_true]
        refine Ev.step (f := fun k => parapetref9_runeAt.j2 k x 2 (bt x 0 % 32) 128) (fun k => ?_) ((rune_two x (bt x 0 % 32) (by omega) (by omega)).eq ?_)
        · simp only [parapetref9_runeAt.j0, if_true]
          rw [hf.2.2.1]
        · by_cases q : 2 ≤ (x.size : Int) ∧ 128 ≤ bt x 1 ∧ bt x 1 < 192
          · rw [if_pos q, if_pos ⟨q.1, q.2.1, q.2.2, by omega⟩]
          · rw [if_neg q, if_neg (fun h => q ⟨h.1, h.2.1, h.2.2.1⟩)]
      · simp only [a3, if_false, decide_false]
        apply j0F
        simp only [show bt x 0 ≥ 224 from by omega, if_true]
        by_cases a4 : bt x 0 < 240
        · simp only [a4, if_true, decide_true]
          refine Ev.step (f := fun k => parapetref9_runeAt.j2 k x 3 (bt x 0 % 16) 2048) (fun k => ?_) (rune_three x (bt x 0 % 16) (by omega) (by omega))
          simp only [parapetref9_runeAt.j1, if_true]
          rw [hf.2.2.2.1]
        · simp only [a4, if_false, decide_false]
          apply j1F
          simp only [show bt x 0 ≥ 240 from by omega, if_true]
          by_cases a5 : bt x 0 < 245
          · simp only [a5, if_true]
            rw [hf.2.2.2.2]
            exact rune_four x (bt x 0 % 8) (by omega) (by omega)
          · simp only [a5, if_false]; exact Ev.now 0

/-! ### The library's decoder -/
/-- How many bytes the rune has by the library's decoder; 0: it is none. -/
def runeD (l : List UInt8) : Nat := if (Go.Lib.decodeL l).1 = 65533 ∧ (Go.Lib.decodeL l).2 = 1 then 0 else (Go.Lib.decodeL l).2
theorem runeN (n b0 b1 b2 b3 : Nat) (h1 : b1 < 256) (h2 : b2 < 256) (h3 : b3 < 256) (h0 : b0 < 256) (hn : 0 < n) :
    ((if (Go.Lib.decodeN n b0 b1 b2 b3).1 = 65533 ∧ (Go.Lib.decodeN n b0 b1 b2 b3).2 = 1 then 0 else (Go.Lib.decodeN n b0 b1 b2 b3).2 : Nat) : Int) = runeLen n b0 b1 b2 b3 := by
  unfold runeLen
  by_cases a1 : b0 < 128
  · have e : Go.Lib.decodeN n b0 b1 b2 b3 = (b0, 1) := by unfold Go.Lib.decodeN; rw [if_pos a1]
    rw [e, if_neg (by simp only; omega), if_pos (by omega)]; rfl
  rw [if_neg (show ¬ (b0 : Int) < 128 by omega)]
  by_cases a2 : b0 < 194
  · have e : Go.Lib.decodeN n b0 b1 b2 b3 = (65533, 1) := by
      unfold Go.Lib.decodeN
      rw [if_neg a1]
      by_cases q : b0 / 32 = 6 ∧ (1 < n ∧ b1 / 64 = 2)
      · rw [if_pos q, if_neg (by omega)]
      · rw [if_neg q, if_neg (by omega), if_neg (by omega)]
    rw [e, if_pos ⟨rfl, rfl⟩, if_pos (by omega)]; rfl
  rw [if_neg (show ¬ (b0 : Int) < 194 by omega)]
  by_cases a3 : b0 < 224
  · rw [if_pos (show (b0 : Int) < 224 by omega)]
    by_cases q : 2 ≤ n ∧ 128 ≤ b1 ∧ b1 < 192
    · have e : Go.Lib.decodeN n b0 b1 b2 b3 = (b0 % 32 * 64 + b1 % 64, 2) := by
        unfold Go.Lib.decodeN; rw [if_neg a1, if_pos (by omega), if_pos (by omega)]
      rw [e, if_neg (by simp), if_pos (by omega)]; rfl
    · have e : Go.Lib.decodeN n b0 b1 b2 b3 = (65533, 1) := by
        unfold Go.Lib.decodeN; rw [if_neg a1, if_neg (by omega), if_neg (by omega), if_neg (by omega)]
      rw [e, if_pos ⟨rfl, rfl⟩, if_neg (by omega)]; rfl
  rw [if_neg (show ¬ (b0 : Int) < 224 by omega)]
  by_cases a4 : b0 < 240
  · rw [if_pos (show (b0 : Int) < 240 by omega)]
    by_cases q : 3 ≤ n ∧ 128 ≤ b1 ∧ b1 < 192 ∧ 128 ≤ b2 ∧ b2 < 192
    · by_cases q2 : 2048 ≤ b0 % 16 * 4096 + b1 % 64 * 64 + b2 % 64 ∧ ¬ (55296 ≤ b0 % 16 * 4096 + b1 % 64 * 64 + b2 % 64 ∧ b0 % 16 * 4096 + b1 % 64 * 64 + b2 % 64 ≤ 57343)
      · have e : Go.Lib.decodeN n b0 b1 b2 b3 = (b0 % 16 * 4096 + b1 % 64 * 64 + b2 % 64, 3) := by
          unfold Go.Lib.decodeN; rw [if_neg a1, if_neg (by omega), if_pos (by omega), if_pos (by omega)]
        rw [e, if_neg (by simp), if_pos (by omega)]; rfl
      · have e : Go.Lib.decodeN n b0 b1 b2 b3 = (65533, 1) := by
          unfold Go.Lib.decodeN; rw [if_neg a1, if_neg (by omega), if_pos (by omega), if_neg (by omega)]
        rw [e, if_pos ⟨rfl, rfl⟩, if_neg (by omega)]; rfl
    · have e : Go.Lib.decodeN n b0 b1 b2 b3 = (65533, 1) := by
        unfold Go.Lib.decodeN; rw [if_neg a1, if_neg (by omega), if_neg (by omega), if_neg (by omega)]
      rw [e, if_pos ⟨rfl, rfl⟩, if_neg (by omega)]; rfl
  rw [if_neg (show ¬ (b0 : Int) < 240 by omega)]
  by_cases a5 : b0 < 245
  · rw [if_pos (show (b0 : Int) < 245 by omega)]
    by_cases q : 4 ≤ n ∧ 128 ≤ b1 ∧ b1 < 192 ∧ 128 ≤ b2 ∧ b2 < 192 ∧ 128 ≤ b3 ∧ b3 < 192
    · by_cases q2 : 65536 ≤ b0 % 8 * 262144 + b1 % 64 * 4096 + b2 % 64 * 64 + b3 % 64 ∧ b0 % 8 * 262144 + b1 % 64 * 4096 + b2 % 64 * 64 + b3 % 64 ≤ 1114111
      · have e : Go.Lib.decodeN n b0 b1 b2 b3 = (b0 % 8 * 262144 + b1 % 64 * 4096 + b2 % 64 * 64 + b3 % 64, 4) := by
          unfold Go.Lib.decodeN; rw [if_neg a1, if_neg (by omega), if_neg (by omega), if_pos (by omega), if_pos (by omega)]
        rw [e, if_neg (by simp), if_pos (by omega)]; rfl
      · have e : Go.Lib.decodeN n b0 b1 b2 b3 = (65533, 1) := by
          unfold Go.Lib.decodeN; rw [if_neg a1, if_neg (by omega), if_neg (by omega), if_pos (by omega), if_neg (by omega)]
        rw [e, if_pos ⟨rfl, rfl⟩, if_neg (by omega)]; rfl
    · have e : Go.Lib.decodeN n b0 b1 b2 b3 = (65533, 1) := by
        unfold Go.Lib.decodeN; rw [if_neg a1, if_neg (by omega), if_neg (by omega), if_neg (by omega)]
      rw [e, if_pos ⟨rfl, rfl⟩, if_neg (by omega)]; rfl
  · rw [if_neg (show ¬ (b0 : Int) < 245 by omega)]
    have e : Go.Lib.decodeN n b0 b1 b2 b3 = (65533, 1) := by
      unfold Go.Lib.decodeN
      rw [if_neg a1, if_neg (by omega), if_neg (by omega)]
      by_cases q : b0 / 8 = 30 ∧ (1 < n ∧ b1 / 64 = 2) ∧ (2 < n ∧ b2 / 64 = 2) ∧ (3 < n ∧ b3 / 64 = 2)
      · rw [if_pos q, if_neg (by omega)]
      · rw [if_neg q]
    rw [e, if_pos ⟨rfl, rfl⟩]; rfl

theorem bt_getD (x : ByteArray) (j : Nat) : bt x (j : Int) = ((x.data.toList.getD j 0).toNat : Int) := by
  unfold bt
  rw [Int.toNat_natCast]
  by_cases h : j < x.size
  · have h2 : j < x.data.toList.length := by rw [data_length]; exact h
    rw [dif_pos h, List.getD_eq_getElem?_getD, List.getElem?_eq_getElem h2]; rfl
  · have h2 : ¬ j < x.data.toList.length := by rw [data_length]; exact h
    rw [dif_neg h, List.getD_eq_getElem?_getD, List.getElem?_eq_none (by omega)]; rfl
theorem runeD_eq (x : ByteArray) (h : 0 < x.size) : (runeD x.data.toList : Int) = runeLen x.size (bt x 0) (bt x 1) (bt x 2) (bt x 3) := by
  unfold runeD
  rw [Go.Lib.decodeL_N]
  have := runeN x.data.toList.length (x.data.toList.getD 0 0).toNat (x.data.toList.getD 1 0).toNat (x.data.toList.getD 2 0).toNat (x.data.toList.getD 3 0).toNat (UInt8.toNat_lt _) (UInt8.toNat_lt _) (UInt8.toNat_lt _) (UInt8.toNat_lt _) (by rw [data_length]; exact h)
  rw [this, data_length, ← bt_getD x 0, ← bt_getD x 1, ← bt_getD x 2, ← bt_getD x 3]; rfl

/-- How many bytes stand ahead of the first that is no UTF-8. -/
def brk : Nat → List UInt8 → Nat
  | 0, _ => 0
  | n + 1, l => if l = [] then 0 else if runeD l = 0 then 0 else runeD l + brk n (l.drop (runeD l))
def brkL (l : List UInt8) : Nat := brk l.length l
theorem runeD_le (l : List UInt8) (hne : l ≠ []) : runeD l ≤ l.length := by
  unfold runeD; split
  · omega
  · exact Go.Lib.decodeL_le l hne
theorem brk_le : ∀ (n : Nat) (l : List UInt8), brk n l ≤ l.length := by
  intro n
  induction n with
  | zero => intro l; simp [brk]
  | succ n ih =>
    intro l
    rw [brk]
    split
    · omega
    · rename_i hne
      split
      · omega
      · have h1 := runeD_le l hne
        have h2 := ih (l.drop (runeD l))
        rw [List.length_drop] at h2
        omega
theorem brk_more : ∀ (n m : Nat) (l : List UInt8), l.length ≤ n → l.length ≤ m → brk n l = brk m l := by
  intro n
  induction n with
  | zero => intro m l h _; have : l = [] := List.length_eq_zero_iff.1 (by omega); subst this; cases m <;> simp [brk]
  | succ n ih =>
    intro m l h hm
    cases m with
    | zero => have : l = [] := List.length_eq_zero_iff.1 (by omega); subst this; simp [brk]
    | succ m =>
      rw [brk, brk]
      by_cases hne : l = []
      · rw [if_pos hne, if_pos hne]
      · rw [if_neg hne, if_neg hne]
        by_cases h0 : runeD l = 0
        · rw [if_pos h0, if_pos h0]
        · rw [if_neg h0, if_neg h0, ih m _ (by rw [List.length_drop]; omega) (by rw [List.length_drop]; omega)]
theorem brkL_step (l : List UInt8) (hne : l ≠ []) : brkL l = if runeD l = 0 then 0 else runeD l + brkL (l.drop (runeD l)) := by
  unfold brkL
  cases hl : l.length with
  | zero => exact absurd (List.length_eq_zero_iff.1 hl) hne
  | succ n =>
    rw [brk, if_neg hne]
    by_cases h0 : runeD l = 0
    · rw [if_pos h0, if_pos h0]
    · rw [if_neg h0, if_neg h0, brk_more n _ _ (by rw [List.length_drop]; omega) (Nat.le_refl _)]
theorem valid_brk : ∀ (n : Nat) (l : List UInt8), l.length ≤ n → (Go.Lib.validD l = true ↔ brkL l = l.length) := by
  intro n
  induction n with
  | zero => intro l h; have : l = [] := List.length_eq_zero_iff.1 (by omega); subst this; exact ⟨fun _ => rfl, fun _ => rfl⟩
  | succ n ih =>
    intro l h
    by_cases hne : l = []
    · subst hne; exact ⟨fun _ => rfl, fun _ => rfl⟩
    · have hp : 0 < l.length := List.length_pos_iff.2 hne
      rw [Go.Lib.validD_step l hne, brkL_step l hne]
      by_cases hb : (Go.Lib.decodeL l).1 = 65533 ∧ (Go.Lib.decodeL l).2 = 1
      · have h0 : runeD l = 0 := by unfold runeD; rw [if_pos hb]
        rw [if_pos hb, if_pos h0]; simp; omega
      · have h0 : runeD l = (Go.Lib.decodeL l).2 := by unfold runeD; rw [if_neg hb]
        have h1 := Go.Lib.decodeL_width l
        have h2 := Go.Lib.decodeL_le l hne
        rw [if_neg hb, if_neg (by omega), h0, ih (l.drop (Go.Lib.decodeL l).2) (by rw [List.length_drop]; omega), List.length_drop]
        omega

theorem data_extract (x : ByteArray) (i : Nat) : (x.extract i x.size).data.toList = x.data.toList.drop i := by
  rw [ByteArray.data_extract, Array.toList_extract, List.extract_eq_take_drop]
  exact List.take_of_length_le (by rw [List.length_drop, data_length]; omega)

theorem broken_loop (x : ByteArray) (hx : x.size ≤ 1000000) (d : Nat) : ∀ i : Nat, i ≤ x.size → x.size - i ≤ d → Ev (fun k => parapetref9_Broken.l0 k x (i : Int)) ((i + brkL (x.data.toList.drop i) : Nat) : Int) := by
  induction d with
  | zero =>
    intro i hi hd
    have : x.data.toList.drop i = [] := List.drop_eq_nil_of_le (by rw [data_length]; omega)
    rw [this]
    refine Ev.step (f := fun _ => some (x.size : Int)) (fun k => ?_) ((Ev.now _).eq (by simp only [brkL, List.length_nil, brk]; omega))
    simp only [parapetref9_Broken.l0]
    rw [if_neg (by omega)]
  | succ d ih =>
    intro i hi hd
    by_cases hlt : i < x.size
    · have hsz : (x.extract i x.size).size = x.size - i := by rw [← data_length, data_extract, List.length_drop, data_length]
      have hne : x.data.toList.drop i ≠ [] := by
        intro e; have := congrArg List.length e; rw [List.length_drop, data_length] at this; simp at this; omega
      have hr := rune_ev (x.extract i x.size) (by omega)
      rw [← runeD_eq _ (by omega), data_extract] at hr
      have hle := runeD_le _ hne
      rw [List.length_drop, data_length] at hle
      rw [brkL_step _ hne]
      refine Ev.step (fun k => ?_) (Ev.bind hr (f := fun k t => if t = 0 then some (i : Int) else parapetref9_Broken.l0 k x (wrap64 ((i : Int) + t))) ?_)
      · simp only [parapetref9_Broken.l0]
        rw [if_pos (by omega), if_pos (by omega), if_pos (by omega), Int.toNat_natCast]
      · by_cases h0 : runeD (x.data.toList.drop i) = 0
        · simp only [h0, if_true]
          simp only [Int.natCast_zero, if_true]
          exact (Ev.now _).eq (by omega)
        · have h1 : ¬ ((runeD (x.data.toList.drop i) : Nat) : Int) = 0 := by omega
          simp only [h1, h0, if_false]
          rw [w64 (by omega) (by omega), show (i : Int) + ((runeD (x.data.toList.drop i) : Nat) : Int) = ((i + runeD (x.data.toList.drop i) : Nat) : Int) from by omega]
          refine (ih _ (by omega) (by omega)).eq ?_
          rw [List.drop_drop]
          omega
    · have : x.data.toList.drop i = [] := List.drop_eq_nil_of_le (by rw [data_length]; omega)
      rw [this]
      refine Ev.step (f := fun _ => some (x.size : Int)) (fun k => ?_) ((Ev.now _).eq (by simp only [brkL, List.length_nil, brk]; omega))
      simp only [parapetref9_Broken.l0]
      rw [if_neg (by omega)]
theorem broken_ev (x : ByteArray) (hx : x.size ≤ 1000000) : Ev (fun k => parapetref9_Broken.f k x) ((brkL x.data.toList : Nat) : Int) := by
  have := broken_loop x hx x.size 0 (by omega) (by omega)
  simpa [parapetref9_Broken.f] using this
theorem utf8_ev (x : ByteArray) (hx : x.size ≤ 1000000) : Ev (fun k => parapetref9_UTF8.f k x) (Go.Lib.validD x.data.toList) := by
  unfold parapetref9_UTF8.f
  refine Ev.bind (broken_ev x hx) ((Ev.now _).eq ?_)
  have h := valid_brk _ x.data.toList (Nat.le_refl _)
  rw [data_length] at h
  by_cases q : brkL x.data.toList = x.size
  · rw [h.2 q, q]; simp
  · have : Go.Lib.validD x.data.toList = false := by
      cases hv : Go.Lib.validD x.data.toList with
      | true => exact absurd (h.1 hv) q
      | false => rfl
    rw [this, beq_eq_false_iff_ne]; omega
end Go.Proofs.YtlhllcbglfffdaaDoor.Pu
