/- Quote; rows of ends; bytes below 128. -/
import Derived.Test.YtlhllcbglfffdaaDoorLexP3
import Derived.Test.YtlhllcbglfffdaaDoorPr7
namespace Go.Proofs.YtlhllcbglfffdaaDoor.Pu
open Go.RowKit Go.Proofs.YtlhllcbglfffdaaDoor.Pr Go.Proofs.YtlhllcbglfffdaaDoorW.PrintWords Go.Proofs.YtlhllcbglfffdaaDoor.Lx
set_option linter.unusedVariables false
set_option linter.unusedSimpArgs false

theorem escL_le (l : List Int) : (escL l).length ≤ 2 * l.length := by
  induction l with
  | nil => simp [escL]
  | cons c l ih =>
    rw [escL_cons, List.length_append, List.length_cons]
    split
    all_goals simp
    all_goals omega
theorem escL_rng {l : List Int} (h : Rng l) : Rng (escL l) := by
  intro x hx
  unfold escL at hx
  obtain ⟨c, hc, hx⟩ := List.mem_flatMap.1 hx
  split at hx
  · simp at hx
    rcases hx with rfl | rfl
    · omega
    · exact h _ hc
  · simp at hx
    subst hx
    exact h _ hc
def quoteL (l : List Int) : List Int := 34 :: (escL l ++ [34])
theorem quoteL_rng {l : List Int} (h : Rng l) : Rng (quoteL l) := by
  intro x hx
  unfold quoteL at hx
  rcases List.mem_cons.1 hx with rfl | hx
  · omega
  · rcases List.mem_append.1 hx with hx | hx
    · exact escL_rng h x hx
    · simp at hx; omega
theorem quote_loop (x : ByteArray) (hx : x.size ≤ 1000000) (d : Nat) : ∀ (i : Nat) (acc : List Int), i ≤ x.size → x.size - i ≤ d → acc.length ≤ 2 * i + 1 →
    Ev (fun k => lex_Quote.l0 k x acc (x.size : Int) (i : Int)) (strOfNums (acc ++ (escL (dr x i) ++ [34]))) := by
  induction d with
  | zero =>
    intro i acc hi hd ha
    refine Ev.step (f := fun _ => some (strOfNums (acc ++ [34]))) (fun k => ?_) ((Ev.now _).eq (by rw [dr_nil x i (by omega)]; rfl))
    simp only [lex_Quote.l0]
    rw [if_neg (by omega), if_pos (by omega)]
  | succ d ih =>
    intro i acc hi hd ha
    by_cases hlt : i < x.size
    · rw [dr_cons x i hlt, escL_cons]
      by_cases q : bt x (i : Int) = 34 ∨ bt x (i : Int) = 92
      · rw [if_pos q]
        have := ih (i + 1) (acc ++ [92] ++ [bt x (i : Int)]) (by omega) (by omega) (by simp; omega)
        refine Ev.step (f := fun k => lex_Quote.l0 k x (acc ++ [92] ++ [bt x (i : Int)]) (x.size : Int) ((i + 1 : Nat) : Int)) (fun k => ?_) (this.eq (by simp))
        simp only [lex_Quote.l0]
        rw [if_pos (by omega), if_pos (by omega), if_pos (by omega), w64 (by omega) (by omega)]
        rcases q with q | q
        · rw [if_pos q, if_pos (by omega)]
          simp only [Option.bind_some]
          rw [if_pos (by simp; omega)]
          rfl
        · rw [if_neg (by omega), if_pos q, if_pos (by omega)]
          simp only [Option.bind_some]
          rw [if_pos (by simp; omega)]
          rfl
      · rw [if_neg q]
        have := ih (i + 1) (acc ++ [bt x (i : Int)]) (by omega) (by omega) (by simp; omega)
        refine Ev.step (f := fun k => lex_Quote.l0 k x (acc ++ [bt x (i : Int)]) (x.size : Int) ((i + 1 : Nat) : Int)) (fun k => ?_) (this.eq (by simp))
        simp only [lex_Quote.l0]
        rw [if_pos (by omega), if_pos (by omega), if_pos (by omega), w64 (by omega) (by omega), if_neg (fun h => q (.inl h)), if_neg (fun h => q (.inr h)), if_pos (by omega)]
        rfl
    · refine Ev.step (f := fun _ => some (strOfNums (acc ++ [34]))) (fun k => ?_) ((Ev.now _).eq (by rw [dr_nil x i (by omega)]; rfl))
      simp only [lex_Quote.l0]
      rw [if_neg (by omega), if_pos (by omega)]
theorem quote_ev (x : ByteArray) (hx : x.size ≤ 1000000) : Ev (fun k => lex_Quote.f k x) (strOfNums (quoteL (bytesOf x))) := by
  unfold lex_Quote.f
  exact quote_loop x hx x.size 0 [34] (Nat.zero_le _) (by omega) (by simp)

/-- A row of ends. -/
theorem rs_semis : ∀ n i ts, ∃ ts', rs i .sk ts (List.replicate n 59) = .go .sk ts' ∧ ts'.length = ts.length + n := by
  intro n
  induction n with
  | zero => intro i ts; exact ⟨ts, rfl, rfl⟩
  | succ n ih =>
    intro i ts
    rw [List.replicate_succ, rs]
    have : step i 59 .sk ts = .go .sk (ts ++ [⟨5, i, strOfNums [59]⟩]) := by
      simp only [step, st1, marks.2.2.1, marks.2.2.2]; rfl
    rw [this]
    obtain ⟨ts', h1, h2⟩ := ih (i + 1) (ts ++ [⟨5, i, strOfNums [59]⟩])
    refine ⟨ts', h1, ?_⟩
    rw [h2, List.length_append, List.length_singleton]; omega
theorem runeD_ascii (c : UInt8) (l : List UInt8) (h : c.toNat < 128) : runeD (c :: l) = 1 := by
  have := runeD_eq ⟨(c :: l).toArray⟩ (by simp [ByteArray.size])
  have e : bt ⟨(c :: l).toArray⟩ 0 = (c.toNat : Int) := by rw [show (0 : Int) = ((0 : Nat) : Int) from rfl, bt_getD]; rfl
  rw [e] at this
  unfold runeLen at this
  rw [if_pos (by omega)] at this
  have e2 : runeD (c :: l) = runeD (⟨(c :: l).toArray⟩ : ByteArray).data.toList := rfl
  rw [e2]; omega
theorem brkL_ascii (c : UInt8) (l : List UInt8) (h : c.toNat < 128) : brkL (c :: l) = 1 + brkL l := by
  rw [brkL_step _ (by simp), runeD_ascii c l h, if_neg (by omega)]
  rfl
theorem brkL_all_ascii : ∀ l : List UInt8, (∀ c ∈ l, c.toNat < 128) → brkL l = l.length := by
  intro l
  induction l with
  | nil => intro _; rfl
  | cons c l ih =>
    intro h
    rw [brkL_ascii c l (h c List.mem_cons_self), ih (fun x hx => h x (List.mem_cons_of_mem _ hx)), List.length_cons]; omega
theorem data_str (xs : List Int) : (strOfNums xs).data.toList = xs.map fun n => n.toNat.toUInt8 := by rw [strOfNums_data]
theorem tokM_good (x : ByteArray) (h : x.size ≤ 3000) (hv : brkL x.data.toList = x.size) {ts : List Tk} (hs : sm 0 .sk [] (bytesOf x) = .good ts) : tokM x = (ts, 0, 0) := by
  unfold tokM
  rw [if_neg (by omega), hs]
  simp only
  unfold wrongN
  rw [data_length, if_pos hv, if_neg (by omega)]
theorem semis_good (n : Nat) (h : n ≤ 3000) : ∃ ts, tokM (strOfNums (List.replicate n 59)) = (ts, 0, 0) ∧ ts.length = n := by
  have hb : bytesOf (strOfNums (List.replicate n 59)) = List.replicate n 59 := bytesOf_str _ (by intro x hx; have := List.eq_of_mem_replicate hx; omega)
  have hsz : (strOfNums (List.replicate n 59)).size = n := by rw [← bytesOf_length, hb, List.length_replicate]
  obtain ⟨ts, h1, h2⟩ := rs_semis n 0 []
  refine ⟨ts, tokM_good _ (by omega) ?_ ?_, by simpa using h2⟩
  · rw [brkL_all_ascii, data_length]
    intro c hc
    rw [data_str, List.map_replicate] at hc
    have := List.eq_of_mem_replicate hc
    rw [this]; decide
  · rw [hb, sm_rs, h1]; rfl
end Go.Proofs.YtlhllcbglfffdaaDoor.Pu
