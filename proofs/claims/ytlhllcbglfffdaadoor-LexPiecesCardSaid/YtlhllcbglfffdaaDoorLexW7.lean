/- The walk of Tokens. -/
import Derived.Test.YtlhllcbglfffdaaDoorLexW5
import Derived.Test.YtlhllcbglfffdaaDoorLexW6
namespace Go.Proofs.YtlhllcbglfffdaaDoor.Lx
open Go.RowKit Go.Proofs.YtlhllcbglfffdaaDoor.Pr Go.Proofs.YtlhllcbglfffdaaDoorW.PrintWords Go.Proofs.YtlhllcbglfffdaaDoorW.PrintLast Go.Proofs.YtlhllcbglfffdaaDoorW.PrintMore
set_option linter.unusedVariables false
set_option linter.unusedSimpArgs false

theorem quo_ge (s : ByteArray) : ∀ d i out, i ≤ s.size → i ≤ (quo s d i out).2.1 ∧ (quo s d i out).2.1 ≤ s.size := by
  intro d
  induction d with
  | zero => intro i out h; exact ⟨Nat.le_refl _, h⟩
  | succ d ih =>
    intro i out h
    rw [quo]
    repeat' split
    all_goals try (simp only; omega)
    · have := ih (i + 2) (out ++ [bt s ((i + 1 : Nat) : Int)]) (by omega); omega
    · have := ih (i + 1) (out ++ [bt s (i : Int)]) (by omega); omega
theorem letter_word : ∀ c : Fin 256, pLetter (c.val : Int) = true → pWord (c.val : Int) = true := by decide +kernel
theorem wEnd_lt (s : ByteArray) (i : Nat) (h : i < s.size) (hl : pLetter (bt s i) = true) : i < wEnd s i := by
  have hr := bt_range s (i : Int)
  obtain ⟨q, hq⟩ : ∃ q : Fin 256, (q.val : Int) = bt s (i : Int) := ⟨⟨(bt s (i : Int)).toNat, by omega⟩, by simp; omega⟩
  have hw : pWord (bt s (i : Int)) = true := by rw [← hq]; exact letter_word q (by rw [hq]; exact hl)
  have e : wEnd s i = rowEnd s pWord (s.size - (i + 1)) (i + 1) := rowEnd_go s pWord i h hw
  have := rowEnd_le s pWord (s.size - (i + 1)) (i + 1) (by omega)
  omega
theorem tokE_ge (s : ByteArray) (i : Nat) (h : i < s.size) {t : Tk} {j : Nat} {ok : Bool} (e : tokE s i = some (t, j, ok)) : i < j ∧ j ≤ s.size := by
  unfold tokE at e
  split at e
  · rename_i hl
    simp only [Option.some.injEq, Prod.mk.injEq] at e
    obtain ⟨_, rfl, _⟩ := e
    exact ⟨wEnd_lt s i h hl, (wEnd_le s i (by omega)).2⟩
  · split at e
    · simp only [Option.some.injEq, Prod.mk.injEq] at e
      obtain ⟨_, rfl, _⟩ := e
      have := quo_ge s (s.size - (i + 1)) (i + 1) [] (by omega)
      unfold quoE; omega
    · split at e
      · simp only [Option.some.injEq, Prod.mk.injEq] at e
        obtain ⟨_, rfl, _⟩ := e
        omega
      · cases e

/-- The tokens from a place on; the place that offends, if one does. -/
def runF (s : ByteArray) : Nat → Nat → List Tk → List Tk × Option Nat
  | 0, _, ts => (ts, none)
  | d + 1, i, ts =>
    if i < s.size then
      match tokE s i with
      | some (t, j, true) => runF s d (btw s j) (ts ++ [t])
      | some (t, j, false) => (ts ++ [t], some j)
      | none => (ts, some i)
    else (ts, none)
def run (s : ByteArray) (i : Nat) (ts : List Tk) : List Tk × Option Nat := runF s (s.size - i) i ts
theorem runF_more (s : ByteArray) : ∀ d d' i ts, s.size - i ≤ d → s.size - i ≤ d' → runF s d i ts = runF s d' i ts := by
  intro d
  induction d with
  | zero => intro d' i ts h h'; cases d' with
    | zero => rfl
    | succ d' => rw [runF, runF, if_neg (by omega)]
  | succ d ih =>
    intro d' i ts h h'
    cases d' with
    | zero => rw [runF, runF, if_neg (by omega)]
    | succ d' =>
      rw [runF, runF]
      by_cases q : i < s.size
      · rw [if_pos q, if_pos q]
        match e : tokE s i with
        | some (t, j, true) =>
          have hj := tokE_ge s i q e
          have hb := btw_le s j hj.2
          exact ih d' _ _ (by omega) (by omega)
        | some (t, j, false) => rfl
        | none => rfl
      · rw [if_neg q, if_neg q]
theorem run_stop (s : ByteArray) (i : Nat) (ts : List Tk) (h : ¬ i < s.size) : run s i ts = (ts, none) := by
  unfold run; rw [show s.size - i = 0 by omega, runF]
theorem run_go (s : ByteArray) (i : Nat) (ts : List Tk) (h : i < s.size) {t : Tk} {j : Nat} (e : tokE s i = some (t, j, true)) : run s i ts = run s (btw s j) (ts ++ [t]) := by
  have hj := tokE_ge s i h e
  have hb := btw_le s j hj.2
  unfold run
  rw [show s.size - i = (s.size - i - 1) + 1 by omega, runF, if_pos h, e]
  exact runF_more s _ _ _ _ (by omega) (by omega)
theorem run_bad (s : ByteArray) (i : Nat) (ts : List Tk) (h : i < s.size) {t : Tk} {j : Nat} (e : tokE s i = some (t, j, false)) : run s i ts = (ts ++ [t], some j) := by
  unfold run
  rw [show s.size - i = (s.size - i - 1) + 1 by omega, runF, if_pos h, e]
theorem run_none (s : ByteArray) (i : Nat) (ts : List Tk) (h : i < s.size) (e : tokE s i = none) : run s i ts = (ts, some i) := by
  unfold run
  rw [show s.size - i = (s.size - i - 1) + 1 by omega, runF, if_pos h, e]

/-- One call of token, whatever stands there. -/
theorem token_calls (s : ByteArray) (i : Nat) (L : Value) (ts : List Tk) (g base : Nat) (w : World) (hs : s.size ≤ 140737488351232) (hi : i < s.size) (hb : Blk w g s i L)
    (hO : Kd.R k31 31 w base (fun k => k ≠ g) L ts) (hbase : base ≤ g) (hts : ts.length ≤ 1000000000) {t : Tk} {j : Nat} {ok : Bool} (ht : tokE s i = some (t, j, ok)) :
    Calls Tryd.prog 17 #[.pointer (some ⟨g, 0, none⟩)] w fun e w' =>
      e = .returned (.bool ok) ∧ ∃ L', Blk w' g s (j : Nat) L' ∧ Kd.R k31 31 w' base (fun k => k ≠ g) L' (ts ++ [t]) ∧ Below base w w' := by
  unfold tokE at ht
  split at ht
  · rename_i hl
    simp only [Option.some.injEq, Prod.mk.injEq] at ht
    obtain ⟨rfl, rfl, rfl⟩ := ht
    exact token_letter s i L ts g base w hs hi hb hO hbase hts hl
  · rename_i hl
    have hl' : pLetter (bt s (i : Int)) = false := by cases h : pLetter (bt s (i : Int)) with
      | true => exact absurd h hl
      | false => rfl
    split at ht
    · rename_i q
      simp only [Option.some.injEq, Prod.mk.injEq] at ht
      obtain ⟨rfl, rfl, rfl⟩ := ht
      exact token_quote s i L ts g base w hs hi hb hO hbase hts hl' q _ _ _ rfl
    · split at ht
      · rename_i q
        simp only [Option.some.injEq, Prod.mk.injEq] at ht
        obtain ⟨rfl, rfl, rfl⟩ := ht
        have hc : (((i + 1 : Nat)) : Int) = (i : Int) + 1 := by omega
        rw [hc]
        rcases q with q | q | q
        · have := token_p40 s i L ts g base w hs hi hb hO hbase hts hl' q; rw [q]; exact this
        · have := token_p41 s i L ts g base w hs hi hb hO hbase hts hl' q; rw [q]; exact this
        · have := token_p59 s i L ts g base w hs hi hb hO hbase hts hl' q; rw [q]; exact this
      · cases ht
theorem token_nothing (s : ByteArray) (i : Nat) (L : Value) (ts : List Tk) (g base : Nat) (w : World) (hs : s.size ≤ 140737488351232) (hi : i < s.size) (hb : Blk w g s i L)
    (hO : Kd.R k31 31 w base (fun k => k ≠ g) L ts) (hbase : base ≤ g) (hts : ts.length ≤ 1000000000) (ht : tokE s i = none) :
    Calls Tryd.prog 17 #[.pointer (some ⟨g, 0, none⟩)] w fun e w' => e = .returned (.bool false) ∧ Blk w' g s (i : Nat) L ∧ Below base w w' := by
  unfold tokE at ht
  split at ht
  · cases ht
  · rename_i hl
    split at ht
    · cases ht
    · rename_i q34
      split at ht
      · cases ht
      · rename_i q
        exact token_none s i L ts g base w hs hi hb hO hbase hts (by cases h : pLetter (bt s (i : Int)) with
          | true => exact absurd h hl
          | false => rfl) q34 (fun h => q (.inl h)) (fun h => q (.inr (.inl h))) (fun h => q (.inr (.inr h)))
end Go.Proofs.YtlhllcbglfffdaaDoor.Lx
