/- The law on strings. -/
import Derived.Test.YtlhllcbglfffdaaDoorLexP6
namespace Go.Proofs.YtlhllcbglfffdaaDoor.Pu
open Go.RowKit Go.Proofs.YtlhllcbglfffdaaDoor.Pr Go.Proofs.YtlhllcbglfffdaaDoorW.PrintWords Go.Proofs.YtlhllcbglfffdaaDoor.Lx
set_option linter.unusedVariables false
set_option linter.unusedSimpArgs false

theorem refquote_loop (x : ByteArray) (hx : x.size ≤ 1000000) (d : Nat) : ∀ (i : Nat) (acc : List Int), i ≤ x.size → x.size - i ≤ d → acc.length ≤ 2 * i + 1 →
    Ev (fun k => parapetref19_Quote.l0 k x acc (i : Int)) (strOfNums (acc ++ (escL (dr x i) ++ [34]))) := by
  have stop : ∀ (i : Nat) (acc : List Int), i ≤ x.size → ¬ i < x.size → acc.length ≤ 2 * i + 1 → Ev (fun k => parapetref19_Quote.l0 k x acc (i : Int)) (strOfNums (acc ++ (escL (dr x i) ++ [34]))) := by
    intro i acc hi hn ha
    refine Ev.step (f := fun _ => some (strOfNums (acc ++ [34]))) (fun k => ?_) ((Ev.now _).eq (by rw [dr_nil x i (by omega)]; rfl))
    simp only [parapetref19_Quote.l0]
    rw [if_neg (by omega), if_pos (by omega)]
  induction d with
  | zero => intro i acc hi hd ha; exact stop i acc hi (by omega) ha
  | succ d ih =>
    intro i acc hi hd ha
    by_cases hlt : i < x.size
    · rw [dr_cons x i hlt, escL_cons]
      by_cases q : bt x (i : Int) = 34 ∨ bt x (i : Int) = 92
      · rw [if_pos q]
        have := ih (i + 1) (acc ++ [92] ++ [bt x (i : Int)]) (by omega) (by omega) (by simp; omega)
        refine Ev.step (f := fun k => parapetref19_Quote.l0 k x (acc ++ [92] ++ [bt x (i : Int)]) ((i + 1 : Nat) : Int)) (fun k => ?_) (this.eq (by simp))
        simp only [parapetref19_Quote.l0]
        rw [if_pos (by omega), if_pos (by omega), w64 (by omega) (by omega)]
        rcases q with q | q
        · rw [if_pos q, if_pos (by omega)]
          simp only [Option.bind_some]
          rw [if_pos (by simp; omega)]
          rfl
        · rw [if_neg (by omega), if_pos q, if_pos (by omega)]
          simp only [Option.bind_some]
          rw [if_pos (by simp; omega)]
          rfl
      · rw [if_neg q]
        have := ih (i + 1) (acc ++ [bt x (i : Int)]) (by omega) (by omega) (by simp; omega)
        refine Ev.step (f := fun k => parapetref19_Quote.l0 k x (acc ++ [bt x (i : Int)]) ((i + 1 : Nat) : Int)) (fun k => ?_) (this.eq (by simp))
        simp only [parapetref19_Quote.l0]
        rw [if_pos (by omega), if_pos (by omega), w64 (by omega) (by omega), if_neg (fun h => q (.inl h)), if_neg (fun h => q (.inr h)), if_pos (by omega)]
        rfl
    · exact stop i acc hi hlt ha
theorem refquote_ev (x : ByteArray) (hx : x.size ≤ 1000000) : Ev (fun k => parapetref19_Quote.f k x) (strOfNums (quoteL (bytesOf x))) := by
  unfold parapetref19_Quote.f
  exact refquote_loop x hx x.size 0 [34] (Nat.zero_le _) (by omega) (by simp)

def tailL : List Int := [35, 32, 110, 111, 116, 101, 10, 59]
theorem bytes_tail : bytesOf (⟨#[35, 32, 110, 111, 116, 101, 10, 59]⟩ : ByteArray) = tailL := by decide +kernel
theorem bytes_sp : bytesOf (⟨#[32]⟩ : ByteArray) = [32] := by decide +kernel
theorem sp_next (i : Nat) : strOfNums (List.replicate i 32) ++ (⟨#[32]⟩ : ByteArray) = strOfNums (List.replicate (i + 1) 32) := by
  apply bytesOf_inj
  have r : ∀ n, bytesOf (strOfNums (List.replicate n 32)) = List.replicate n 32 := fun n => bytesOf_str _ (by intro x hx; have := List.eq_of_mem_replicate hx; omega)
  rw [bytesOf_app, r, r, bytes_sp, List.replicate_succ']
theorem rs_tail (i : Nat) (ts : List Tk) : rs i .sk ts tailL = .go .sk (ts ++ [⟨5, ((i + 7 : Nat) : Int), strOfNums [59]⟩]) := by
  unfold tailL
  rw [rs]
  have s1 : step i 35 .sk ts = .go .nt ts := by
    have : pBlank 35 = false := by decide +kernel
    simp only [step, st1, this]; rfl
  rw [s1]
  simp only
  rw [show ([32, 110, 111, 116, 101, 10, 59] : List Int) = [32, 110, 111, 116, 101] ++ [10, 59] from rfl, rs_app_go (rs_note ts [32, 110, 111, 116, 101] (i + 1) (by decide))]
  rw [rs]
  have s2 : step (i + 1 + ([32, 110, 111, 116, 101] : List Int).length) 10 .nt ts = .go .sk ts := rfl
  rw [s2]
  simp only
  rw [rs]
  have s3 : step (i + 1 + ([32, 110, 111, 116, 101] : List Int).length + 1) 59 .sk ts = .go .sk (ts ++ [⟨5, ((i + 7 : Nat) : Int), strOfNums [59]⟩]) := by
    simp only [step, st1, marks.2.2.1, marks.2.2.2]; rfl
  rw [s3]; rfl
theorem quoted_tok (s : ByteArray) (n : Nat) (hn : n ≤ 50) (hs : s.size ≤ 1000) (h10 : ∀ x ∈ bytesOf s, x ≠ 10) (hv : V (bytesOf s)) :
    tokM (strOfNums (List.replicate n 32) ++ strOfNums (quoteL (bytesOf s)) ++ (⟨#[35, 32, 110, 111, 116, 101, 10, 59]⟩ : ByteArray)) = ([⟨2, (n : Int), s⟩, ⟨5, ((n + (quoteL (bytesOf s)).length + 7 : Nat) : Int), strOfNums [59]⟩], 0, 0) := by
  have hb : bytesOf (strOfNums (List.replicate n 32) ++ strOfNums (quoteL (bytesOf s)) ++ (⟨#[35, 32, 110, 111, 116, 101, 10, 59]⟩ : ByteArray)) = List.replicate n 32 ++ quoteL (bytesOf s) ++ tailL := by
    rw [bytesOf_app, bytesOf_app, bytes_tail, bytesOf_str _ (by intro x hx; have := List.eq_of_mem_replicate hx; omega), bytesOf_str _ (quoteL_rng (bytesOf_range s))]
  have hq : (quoteL (bytesOf s)).length ≤ 2002 := by
    unfold quoteL
    have := escL_le (bytesOf s)
    rw [bytesOf_length] at this
    simp; omega
  refine tokM_of _ ?_ ?_ ?_
  · rw [← bytesOf_length, hb]
    simp [tailL]; omega
  · rw [hb]
    refine V_app (V_app (V_ascii _ (by intro x hx; have := List.eq_of_mem_replicate hx; omega)) (V_quoteL hv)) (V_ascii _ (by decide))
  · rw [hb, List.append_assoc, sm_rs, rs_app_go (rs_blanks n 0 []), rs_app_go (rs_quote _ _ _ h10), rs_tail]
    simp only [ends, fin, List.nil_append, List.length_replicate, Nat.zero_add, str_bytesOf]
    rfl
theorem quotes_l1 (s : ByteArray) (hs : s.size ≤ 1000) (h10 : ∀ x ∈ bytesOf s, x ≠ 10) (hv : V (bytesOf s)) (n : Nat) (hn : n ≤ 50) (d : Nat) : ∀ i : Nat, i ≤ n → n - i ≤ d →
    Ev (fun k => parapetlaw19_LexQuotes.l1 k s (n : Int) (strOfNums (quoteL (bytesOf s))) (strOfNums (List.replicate i 32)) (i : Int)) true := by
  have aw : Ev (fun k => (parapetlaw19_awake.f k).bind fun t163 => some t163) true := Ev.bind awake_ev (Ev.now _)
  have hq : (quoteL (bytesOf s)).length ≤ 2002 := by
    unfold quoteL
    have := escL_le (bytesOf s)
    rw [bytesOf_length] at this
    simp; omega
  have sq := str_size _ (quoteL_rng (bytesOf_range s))
  have sp : ∀ i, (strOfNums (List.replicate i 32)).size = i := by
    intro i
    rw [str_size _ (by intro x hx; have := List.eq_of_mem_replicate hx; omega), List.length_replicate]
  have stop : ∀ i : Nat, i ≤ n → ¬ i < n → Ev (fun k => parapetlaw19_LexQuotes.l1 k s (n : Int) (strOfNums (quoteL (bytesOf s))) (strOfNums (List.replicate i 32)) (i : Int)) true := by
    intro i hi hni
    have : i = n := by omega
    subst this
    have tk := tokens_ev (strOfNums (List.replicate i 32) ++ strOfNums (quoteL (bytesOf s)) ++ (⟨#[35, 32, 110, 111, 116, 101, 10, 59]⟩ : ByteArray))
    rw [quoted_tok s i hn hs h10 hv] at tk
    refine Ev.step (fun k => ?_) (Ev.bind tk (f := fun k bt218 => (if bt218.2.1 = 0 then (if (bt218.1.length : Int) = 2 then (if 0 < (bt218.1.length : Int) then (if (((rd_T31 bt218.1 0).f0) == 2 && (((rd_T31 bt218.1 0).f1) == (i : Int) && ((((rd_T31 bt218.1 0).f2).toList) == s.toList))) = true then (if 1 < (bt218.1.length : Int) then (if ((rd_T31 bt218.1 1).f0) = 5 then ((parapetlaw19_awake.f k).bind fun t226 => (some t226)) else (some false)) else (none)) else (some false)) else (none)) else (some false)) else (some false))) ?_)
    · simp only [parapetlaw19_LexQuotes.l1]
      rw [if_neg (by omega), if_pos (by rw [sp, sq]; omega), if_pos (by rw [ByteArray.size_append, sp, sq]; omega)]
    · refine Ev.congr (fun k => ?_) aw
      simp only [List.length_cons, List.length_nil, if_true]
      rw [if_pos (by decide), if_pos (by decide), if_pos (by simp [rd_T31]), if_pos (by decide), if_pos (by simp [rd_T31])]
  induction d with
  | zero => intro i hi hd; exact stop i hi (by omega)
  | succ d ih =>
    intro i hi hd
    by_cases hlt : i < n
    · refine Ev.step (fun k => ?_) (ih (i + 1) (by omega) (by omega))
      simp only [parapetlaw19_LexQuotes.l1]
      rw [if_pos (by omega), if_pos (by rw [sp]; omega), w64 (by omega) (by omega), sp_next]
      rfl
    · exact stop i hi hlt
theorem quotes_l0 (s : ByteArray) (hs : s.size ≤ 1000) (n : Nat) (hn : n ≤ 50) (d : Nat) : ∀ i : Nat, i ≤ s.size → s.size - i ≤ d → (∀ j : Nat, j < i → bt s (j : Int) ≠ 10) →
    Ev (fun k => parapetlaw19_LexQuotes.l0 k s (n : Int) (strOfNums (quoteL (bytesOf s))) (i : Int)) true := by
  have aw : Ev (fun k => (parapetlaw19_awake.f k).bind fun t163 => some t163) true := Ev.bind awake_ev (Ev.now _)
  have stop : ∀ i : Nat, i ≤ s.size → ¬ i < s.size → (∀ j : Nat, j < i → bt s (j : Int) ≠ 10) → Ev (fun k => parapetlaw19_LexQuotes.l0 k s (n : Int) (strOfNums (quoteL (bytesOf s))) (i : Int)) true := by
    intro i hi hni hj
    have h10 : ∀ x ∈ bytesOf s, x ≠ 10 := by
      intro x hx
      obtain ⟨j, hj2, rfl⟩ := List.getElem_of_mem hx
      rw [bytesOf_length] at hj2
      have := hj j (by omega)
      rw [← rd_bytesOf, rd, Int.toNat_natCast, List.getD_eq_getElem?_getD, List.getElem?_eq_getElem (by rw [bytesOf_length]; exact hj2)] at this
      exact this
    have hu := utf8_ev s (by omega)
    refine Ev.step (fun k => ?_) (Ev.bind hu (f := fun k t213 => (if t213 = true then (if 0 ≤ 281474976710656 then (parapetlaw19_LexQuotes.l1 k s (n : Int) (strOfNums (quoteL (bytesOf s))) (strOfNums (List.replicate 0 0)) 0) else (none)) else ((parapetlaw19_awake.f k).bind fun t214 => (some t214)))) ?_)
    · simp only [parapetlaw19_LexQuotes.l0]
      rw [if_neg (by omega)]
    · cases hv : Go.Lib.validD s.data.toList with
      | true =>
        have hV : V (bytesOf s) := (V_bytes s).2 (by have := (valid_brk _ s.data.toList (Nat.le_refl _)).1 hv; rw [data_length] at this; exact this)
        refine Ev.congr (fun k => ?_) (quotes_l1 s hs h10 hV n hn n 0 (Nat.zero_le _) (by omega))
        rw [if_pos rfl, if_pos (by omega)]
        rfl
      | false =>
        refine Ev.congr (fun k => ?_) aw
        rw [if_neg (by simp)]
  induction d with
  | zero => intro i hi hd hj; exact stop i hi (by omega) hj
  | succ d ih =>
    intro i hi hd hj
    by_cases hlt : i < s.size
    · by_cases q : bt s (i : Int) = 10
      · refine Ev.step (fun k => ?_) aw
        simp only [parapetlaw19_LexQuotes.l0]
        rw [if_pos (by omega), if_pos (by omega), if_pos q]
      · refine Ev.step (fun k => ?_) (ih (i + 1) (by omega) (by omega) ?_)
        · simp only [parapetlaw19_LexQuotes.l0]
          rw [if_pos (by omega), if_pos (by omega), if_neg q, w64 (by omega) (by omega)]
          rfl
        · intro j hj2
          by_cases e : j = i
          · rw [e]; exact q
          · exact hj j (by omega)
    · exact stop i hi hlt hj
theorem lexquotes : parapetlaw19_LexQuotes.Pure := by
  intro a0 a1 _ hw
  have hr := i64_range hw
  have aw : Ev (fun k => (parapetlaw19_awake.f k).bind fun t163 => some t163) true := Ev.bind awake_ev (Ev.now _)
  have yes : Ev (fun k => parapetlaw19_LexQuotes.j0 k a0 a1 true) true := by
    refine Ev.step (fun k => ?_) aw
    simp only [parapetlaw19_LexQuotes.j0, if_true]
  have : Ev (fun k => parapetlaw19_LexQuotes.f k a0 a1) true := by
    unfold parapetlaw19_LexQuotes.f
    by_cases h : (a0.size : Int) > 1000
    · simp only [h, if_true]; exact yes
    · simp only [h, if_false]
      by_cases h2 : a1 < 0
      · simp only [h2, if_true]; exact yes
      · simp only [h2, if_false]
        by_cases h3 : a1 > 50
        · simp only [h3, decide_true]; exact yes
        · simp only [h3, decide_false]
          obtain ⟨n, rfl⟩ : ∃ n : Nat, (n : Int) = a1 := ⟨a1.toNat, by omega⟩
          refine Ev.step (fun k => ?_) (Ev.bind (quote_ev a0 (by omega)) (f := fun k t210 => ((parapetref19_Quote.f k a0).bind fun t211 => (if t210.toList = t211.toList then (parapetlaw19_LexQuotes.l0 k a0 (n : Int) t210 0) else (some false)))) (Ev.bind (refquote_ev a0 (by omega)) ?_))
          · simp only [parapetlaw19_LexQuotes.j0]
            rw [if_neg (by simp)]
          · refine Ev.congr (fun k => ?_) (quotes_l0 a0 (by omega) n (by omega) a0.size 0 (Nat.zero_le _) (by omega) (fun j hj => by omega))
            rw [if_pos rfl]
            rfl
  exact this.rounds
end Go.Proofs.YtlhllcbglfffdaaDoor.Pu
