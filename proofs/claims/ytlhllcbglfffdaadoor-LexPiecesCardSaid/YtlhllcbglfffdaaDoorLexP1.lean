/- The tokens of a text, told byte by byte: a plain machine over the list of its bytes, and that the scanner's places come to it. -/
import Derived.Test.YtlhllcbglfffdaaDoorLexW8
import Derived.Test.YtlhllcbglfffdaaDoorPuBase
namespace Go.Proofs.YtlhllcbglfffdaaDoor.Pu
open Go.RowKit Go.Proofs.YtlhllcbglfffdaaDoor.Pr Go.Proofs.YtlhllcbglfffdaaDoorW.PrintWords Go.Proofs.YtlhllcbglfffdaaDoor.Lx
set_option linter.unusedVariables false
set_option linter.unusedSimpArgs false

/-- Where the machine stands: between tokens, in a note, in a word, in a string, behind a stroke in a string. -/
inductive St where
  | sk : St
  | nt : St
  | wd (a : Nat) (acc : List Int) : St
  | qt (a : Nat) (acc : List Int) : St
  | es (a : Nat) (p : Nat) (acc : List Int) : St
inductive Out where
  | bad (j : Nat) : Out
  | good (ts : List Tk) : Out
inductive One where
  | bad (j : Nat) : One
  | go (st : St) (ts : List Tk) : One
def fin (n : Nat) : St → List Tk → Out
  | .sk, ts => .good ts
  | .nt, ts => .good ts
  | .wd a acc, ts => .good (ts ++ [⟨1, a, strOfNums acc⟩])
  | .qt _ _, _ => .bad n
  | .es _ _ _, _ => .bad n
def st1 (i : Nat) (c : Int) (ts : List Tk) : One :=
  if pBlank c = true then .go .sk ts
  else if c = 35 then .go .nt ts
  else if pLetter c = true then .go (.wd i [c]) ts
  else if c = 34 then .go (.qt i []) ts
  else if c = 40 ∨ c = 41 ∨ c = 59 then .go .sk (ts ++ [⟨opIdx c, i, strOfNums [c]⟩])
  else .bad i
def step (i : Nat) (c : Int) : St → List Tk → One
  | .sk, ts => st1 i c ts
  | .nt, ts => if c = 10 then .go .sk ts else .go .nt ts
  | .wd a acc, ts => if pWord c = true then .go (.wd a (acc ++ [c])) ts else st1 i c (ts ++ [⟨1, a, strOfNums acc⟩])
  | .qt a acc, ts => if c = 34 then .go .sk (ts ++ [⟨2, a, strOfNums acc⟩]) else if c = 10 then .bad i else if c = 92 then .go (.es a i acc) ts else .go (.qt a (acc ++ [c])) ts
  | .es a p acc, ts => if c = 34 ∨ c = 92 then .go (.qt a (acc ++ [c])) ts else .bad p
def sm : Nat → St → List Tk → List Int → Out
  | i, st, ts, [] => fin i st ts
  | i, st, ts, c :: l => match step i c st ts with
    | .bad j => .bad j
    | .go st' ts' => sm (i + 1) st' ts' l
def cast : List Tk × Option Nat → Out
  | (ts, none) => .good ts
  | (_, some j) => .bad j

def dr (s : ByteArray) (i : Nat) : List Int := (bytesOf s).drop i
theorem dr_cons (s : ByteArray) (i : Nat) (h : i < s.size) : dr s i = bt s (i : Int) :: dr s (i + 1) := bt_drop s i h
theorem dr_nil (s : ByteArray) (i : Nat) (h : ¬ i < s.size) : dr s i = [] := List.drop_eq_nil_of_le (by rw [bytesOf_length]; omega)
theorem sm_go (s : ByteArray) (i : Nat) (h : i < s.size) (st : St) (ts : List Tk) (st' : St) (ts' : List Tk) (e : step i (bt s (i : Int)) st ts = .go st' ts') : sm i st ts (dr s i) = sm (i + 1) st' ts' (dr s (i + 1)) := by
  rw [dr_cons s i h, sm, e]
theorem sm_bad (s : ByteArray) (i : Nat) (h : i < s.size) (st : St) (ts : List Tk) (j : Nat) (e : step i (bt s (i : Int)) st ts = .bad j) : sm i st ts (dr s i) = .bad j := by
  rw [dr_cons s i h, sm, e]

/-- A row passed over, state by state. -/
theorem sm_row (s : ByteArray) (p : Int → Bool) (st : St) (hst : ∀ i c ts, p c = true → step i c st ts = .go st ts) : ∀ d i ts, sm i st ts (dr s i) = sm (rowEnd s p d i) st ts (dr s (rowEnd s p d i)) := by
  intro d
  induction d with
  | zero => intro i ts; rfl
  | succ d ih =>
    intro i ts
    rw [rowEnd]
    by_cases q : i < s.size ∧ p (bt s i) = true
    · rw [if_pos q, ← ih (i + 1) ts]
      exact sm_go s i q.1 _ _ _ _ (hst _ _ _ q.2)
    · rw [if_neg q]
theorem sm_blanks (s : ByteArray) (i : Nat) (ts : List Tk) : sm i .sk ts (dr s i) = sm (bEnd s i) .sk ts (dr s (bEnd s i)) := by
  refine sm_row s pBlank .sk ?_ _ i ts
  intro i c ts h
  simp only [step, st1, h, if_true]
theorem rowEnd_not (s : ByteArray) (p : Int → Bool) : ∀ d i, s.size - i ≤ d → ¬ (rowEnd s p d i < s.size ∧ p (bt s (rowEnd s p d i)) = true) := by
  intro d
  induction d with
  | zero => intro i h; rw [rowEnd]; omega
  | succ d ih =>
    intro i h
    rw [rowEnd]
    split
    · exact ih (i + 1) (by omega)
    · rename_i q; exact q
theorem nt_all : ∀ c : Fin 256, pNN (c.val : Int) = true ∨ (c.val : Int) = 10 := by decide +kernel
theorem bt_fin (s : ByteArray) (i : Int) : ∃ q : Fin 256, (q.val : Int) = bt s i := by
  have hr := bt_range s i
  exact ⟨⟨(bt s i).toNat, by omega⟩, by simp; omega⟩
theorem sm_notes (s : ByteArray) (i : Nat) (h : i < s.size) (hc : bt s (i : Int) = 35) (ts : List Tk) : sm i .sk ts (dr s i) = sm (nEnd s i) .sk ts (dr s (nEnd s i)) := by
  have e1 : sm i .sk ts (dr s i) = sm (i + 1) .nt ts (dr s (i + 1)) := sm_go s i h _ _ _ _ (by simp only [step, st1, hc]; rfl)
  have e2 : nEnd s i = rowEnd s pNN (s.size - (i + 1)) (i + 1) := rowEnd_go s pNN i h (by rw [hc]; rfl)
  rw [e1, e2, sm_row s pNN .nt ?_ (s.size - (i + 1)) (i + 1) ts]
  · have hn := rowEnd_not s pNN (s.size - (i + 1)) (i + 1) (Nat.le_refl _)
    generalize rowEnd s pNN (s.size - (i + 1)) (i + 1) = r at hn ⊢
    by_cases q : r < s.size
    · obtain ⟨c, hc2⟩ := bt_fin s (r : Int)
      have h10 : bt s (r : Int) = 10 := by
        rcases nt_all c with h | h
        · exact absurd ⟨q, by rw [← hc2]; exact h⟩ hn
        · rw [← hc2]; exact h
      rw [sm_go s r q .nt ts .sk ts (by simp only [step, h10, if_true]), sm_go s r q .sk ts .sk ts (by simp only [step, st1, h10]; rfl)]
    · rw [dr_nil s r q]; rfl
  · intro i c ts h
    simp only [step]
    rw [if_neg]
    intro e; rw [e] at h; cases h
theorem sm_btw2 (s : ByteArray) : ∀ d i ts, sm i .sk ts (dr s i) = sm (btw2 s d i) .sk ts (dr s (btw2 s d i)) := by
  intro d
  induction d with
  | zero => intro i ts; rfl
  | succ d ih =>
    intro i ts
    rw [btw2]
    split
    · rename_i q
      rw [sm_notes s i q.1 q.2, sm_blanks, ih]
    · rfl
theorem sm_btw (s : ByteArray) (i : Nat) (ts : List Tk) : sm i .sk ts (dr s i) = sm (btw s i) .sk ts (dr s (btw s i)) := by
  rw [sm_blanks]
  exact sm_btw2 s _ _ ts
theorem btw2_not (s : ByteArray) : ∀ d i, i ≤ s.size → s.size - i ≤ d → ¬ (i < s.size ∧ pBlank (bt s i) = true) → btw2 s d i < s.size → pBlank (bt s (btw2 s d i)) = false ∧ bt s (btw2 s d i) ≠ 35 := by
  intro d
  induction d with
  | zero => intro i hi h _ hl; rw [btw2] at hl; omega
  | succ d ih =>
    intro i hi h hb
    rw [btw2]
    split
    · rename_i q
      have h1 := nEnd_lt s i q.1 q.2
      have h2 := nEnd_le s i hi
      have h3 := bEnd_le s (nEnd s i) h2.2
      exact ih (bEnd s (nEnd s i)) h3.2 (by omega) (rowEnd_not s pBlank _ _ (Nat.le_refl _))
    · rename_i q
      intro hl
      constructor
      · cases hx : pBlank (bt s i) with
        | true => exact absurd ⟨hl, hx⟩ hb
        | false => rfl
      · intro e; exact q ⟨hl, e⟩
theorem btw_not (s : ByteArray) (i : Nat) (hi : i ≤ s.size) (h : btw s i < s.size) : pBlank (bt s (btw s i)) = false ∧ bt s (btw s i) ≠ 35 :=
  btw2_not s _ _ (bEnd_le s i hi).2 (Nat.le_refl _) (rowEnd_not s pBlank _ _ (Nat.le_refl _)) h

theorem strOfNums_inj_bytes (s : ByteArray) (xs : List Int) (h : bytesOf s = xs) : strOfNums xs = s := by rw [← h]; exact str_bytesOf s
theorem bytesOf_ext (s : ByteArray) (i j : Nat) : bytesOf (s.extract i j) = ((bytesOf s).take j).drop i := by
  unfold bytesOf
  rw [ByteArray.data_extract, Array.toList_extract, List.extract_eq_take_drop, List.map_take, List.map_drop, List.drop_take]
theorem sm_word (s : ByteArray) (a : Nat) : ∀ d i acc ts, sm i (.wd a acc) ts (dr s i) = sm (rowEnd s pWord d i) (.wd a (acc ++ ((bytesOf s).take (rowEnd s pWord d i)).drop i)) ts (dr s (rowEnd s pWord d i)) := by
  intro d
  induction d with
  | zero =>
    intro i acc ts
    rw [rowEnd, List.drop_eq_nil_of_le (by rw [List.length_take]; omega), List.append_nil]
  | succ d ih =>
    intro i acc ts
    rw [rowEnd]
    by_cases q : i < s.size ∧ pWord (bt s i) = true
    · rw [if_pos q]
      rw [sm_go s i q.1 _ _ (.wd a (acc ++ [bt s (i : Int)])) ts (by simp only [step, q.2, if_true])]
      rw [ih (i + 1)]
      have hr : i + 1 ≤ rowEnd s pWord d (i + 1) := by
        have := rowEnd_le s pWord d (i + 1) (by omega); omega
      congr 2
      generalize rowEnd s pWord d (i + 1) = r at hr ⊢
      rw [List.append_assoc]
      congr 1
      have hl : i < ((bytesOf s).take r).length := by rw [List.length_take, bytesOf_length]; omega
      rw [List.drop_eq_getElem_cons hl]
      congr 1
      rw [List.getElem_take, ← rd_bytesOf, rd, Int.toNat_natCast, List.getD_eq_getElem?_getD, List.getElem?_eq_getElem (by rw [bytesOf_length]; exact q.1)]
      rfl
    · rw [if_neg q, List.drop_eq_nil_of_le (by rw [List.length_take]; omega), List.append_nil]
theorem sm_tok_word (s : ByteArray) (i : Nat) (h : i < s.size) (hb : pBlank (bt s i) = false) (h35 : bt s (i : Int) ≠ 35) (hl : pLetter (bt s i) = true) (ts : List Tk) :
    sm i .sk ts (dr s i) = sm (wEnd s i) .sk (ts ++ [⟨1, i, s.extract i (wEnd s i)⟩]) (dr s (wEnd s i)) := by
  obtain ⟨c, hc⟩ := bt_fin s (i : Int)
  have hw : pWord (bt s (i : Int)) = true := by rw [← hc]; exact letter_word c (by rw [hc]; exact hl)
  have e : wEnd s i = rowEnd s pWord (s.size - (i + 1)) (i + 1) := rowEnd_go s pWord i h hw
  rw [sm_go s i h .sk ts (.wd i [bt s (i : Int)]) ts (by simp only [step, st1, hb, hl, if_true]; rw [if_neg h35]; rfl), sm_word s i (s.size - (i + 1)) (i + 1), ← e]
  have hle := wEnd_le s i (by omega)
  have hlt := wEnd_lt s i h hl
  have hst : strOfNums ([bt s (i : Int)] ++ ((bytesOf s).take (wEnd s i)).drop (i + 1)) = s.extract i (wEnd s i) := by
    apply strOfNums_inj_bytes
    rw [bytesOf_ext]
    have hl : i < ((bytesOf s).take (wEnd s i)).length := by rw [List.length_take, bytesOf_length]; omega
    rw [List.drop_eq_getElem_cons hl]
    show _ :: _ = _ :: _
    congr 1
    rw [List.getElem_take, ← rd_bytesOf, rd, Int.toNat_natCast, List.getD_eq_getElem?_getD, List.getElem?_eq_getElem (by rw [bytesOf_length]; exact h)]
    rfl
  have hn : ¬ (wEnd s i < s.size ∧ pWord (bt s (wEnd s i)) = true) := rowEnd_not s pWord _ _ (Nat.le_refl _)
  by_cases q : wEnd s i < s.size
  · have hn2 : pWord (bt s (wEnd s i)) = false := by
      cases hx : pWord (bt s (wEnd s i)) with
      | true => exact absurd ⟨q, hx⟩ hn
      | false => rfl
    rw [dr_cons s _ q, sm, sm]
    simp only [step, hn2, hst]
    rfl
  · rw [dr_nil s _ q, sm, sm]
    simp only [fin, hst]

theorem sm_quo (s : ByteArray) (a : Nat) (ts : List Tk) : ∀ d i out, i ≤ s.size → s.size - i ≤ d → sm i (.qt a out) ts (dr s i) =
    (match quo s d i out with
     | (o, j, true) => sm j .sk (ts ++ [⟨2, a, strOfNums o⟩]) (dr s j)
     | (_, j, false) => .bad j) := by
  intro d
  induction d using Nat.strongRecOn with
  | _ d ih =>
    intro i out hi hd
    cases d with
    | zero => rw [dr_nil s i (by omega), quo]; rfl
    | succ d =>
      rw [quo]
      by_cases q : i < s.size
      · rw [if_pos q]
        by_cases h34 : bt s (i : Int) = 34
        · rw [if_pos h34]
          exact sm_go s i q _ _ _ _ (by simp only [step, h34, if_true])
        · rw [if_neg h34]
          by_cases h10 : bt s (i : Int) = 10
          · rw [if_pos h10]
            exact sm_bad s i q _ _ _ (by simp only [step]; rw [if_neg h34, if_pos h10])
          · rw [if_neg h10]
            by_cases h92 : bt s (i : Int) = 92
            · rw [if_pos h92]
              rw [sm_go s i q _ _ (.es a i out) ts (by simp only [step]; rw [if_neg h34, if_neg h10, if_pos h92])]
              by_cases he : i + 1 = s.size
              · rw [if_pos he, dr_nil s (i + 1) (by omega)]; rfl
              · rw [if_neg he]
                have q2 : i + 1 < s.size := by omega
                by_cases hq : bt s ((i + 1 : Nat) : Int) = 34 ∨ bt s ((i + 1 : Nat) : Int) = 92
                · rw [if_pos hq, sm_go s (i + 1) q2 _ _ (.qt a (out ++ [bt s ((i + 1 : Nat) : Int)])) ts (by simp only [step]; rw [if_pos hq])]
                  exact ih d (by omega) (i + 2) _ (by omega) (by omega)
                · rw [if_neg hq]
                  exact sm_bad s (i + 1) q2 _ _ _ (by simp only [step]; rw [if_neg hq])
            · rw [if_neg h92, sm_go s i q _ _ (.qt a (out ++ [bt s (i : Int)])) ts (by simp only [step]; rw [if_neg h34, if_neg h10, if_neg h92])]
              exact ih d (by omega) (i + 1) _ (by omega) (by omega)
      · rw [if_neg q, dr_nil s i q]
        have : i = s.size := by omega
        rfl
theorem noword34 : pBlank 34 = false ∧ pLetter 34 = false := by decide +kernel
theorem marks : (pBlank 40 = false ∧ pLetter 40 = false) ∧ (pBlank 41 = false ∧ pLetter 41 = false) ∧ (pBlank 59 = false ∧ pLetter 59 = false) := by decide +kernel
theorem sm_run (s : ByteArray) : ∀ d i ts, s.size - i ≤ d → i ≤ s.size → (i < s.size → pBlank (bt s i) = false ∧ bt s (i : Int) ≠ 35) → cast (runF s d i ts) = sm i .sk ts (dr s i) := by
  intro d
  induction d with
  | zero => intro i ts h hi _; rw [runF, dr_nil s i (by omega)]; rfl
  | succ d ih =>
    intro i ts h hi hb
    rw [runF]
    by_cases q : i < s.size
    · rw [if_pos q]
      obtain ⟨hb1, hb2⟩ := hb q
      have go : ∀ t j, tokE s i = some (t, j, true) → cast (runF s d (btw s j) (ts ++ [t])) = sm j .sk (ts ++ [t]) (dr s j) := by
        intro t j e
        have hj := tokE_ge s i q e
        have hbl := btw_le s j hj.2
        rw [sm_btw s j]
        exact ih (btw s j) _ (by omega) hbl.2 (btw_not s j hj.2)
      cases e : tokE s i with
      | none =>
        simp only
        unfold tokE at e
        split at e
        · cases e
        · rename_i n1
          split at e
          · cases e
          · rename_i n2
            split at e
            · cases e
            · rename_i n3
              refine (sm_bad s i q _ _ _ ?_).symm
              simp only [step, st1]
              rw [hb1, if_neg (by simp), if_neg hb2, if_neg n1, if_neg n2, if_neg n3]
      | some x =>
        obtain ⟨t, j, ok⟩ := x
        have e0 := e
        unfold tokE at e
        split at e
        · rename_i hl
          simp only [Option.some.injEq, Prod.mk.injEq] at e
          obtain ⟨rfl, rfl, rfl⟩ := e
          simp only
          rw [go _ _ e0, sm_tok_word s i q hb1 hb2 hl]
        · rename_i n1
          split at e
          · rename_i h34
            simp only [Option.some.injEq, Prod.mk.injEq] at e
            obtain ⟨rfl, rfl, rfl⟩ := e
            have e1 : sm i .sk ts (dr s i) = sm (i + 1) (.qt i []) ts (dr s (i + 1)) := sm_go s i q _ _ _ _ (by simp only [step, st1]; rw [hb1, if_neg (by simp), if_neg hb2, if_neg n1, if_pos h34])
            rw [e1, sm_quo s i ts (s.size - (i + 1)) (i + 1) [] (by omega) (Nat.le_refl _)]
            have hqe : quo s (s.size - (i + 1)) (i + 1) [] = quoE s (i + 1) [] := rfl
            rw [hqe]
            obtain ⟨o, j, b, hq⟩ : ∃ o j b, quoE s (i + 1) [] = (o, j, b) := ⟨_, _, _, rfl⟩
            rw [hq] at e0 ⊢
            cases b with
            | true => simp only; rw [go _ _ e0]
            | false => rfl
          · rename_i n2
            split at e
            · rename_i h3
              simp only [Option.some.injEq, Prod.mk.injEq] at e
              obtain ⟨rfl, rfl, rfl⟩ := e
              simp only
              rw [go _ _ e0]
              have hx : s.extract i (i + 1) = strOfNums [bt s (i : Int)] := by
                refine (strOfNums_inj_bytes _ _ ?_).symm
                rw [bytesOf_ext]
                have hl : i < ((bytesOf s).take (i + 1)).length := by rw [List.length_take, bytesOf_length]; omega
                rw [List.drop_eq_getElem_cons hl, List.drop_eq_nil_of_le (by rw [List.length_take]; omega)]
                congr 1
                rw [List.getElem_take, ← rd_bytesOf, rd, Int.toNat_natCast, List.getD_eq_getElem?_getD, List.getElem?_eq_getElem (by rw [bytesOf_length]; exact q)]
                rfl
              rw [hx]
              exact (sm_go s i q _ _ _ _ (by simp only [step, st1]; rw [hb1, if_neg (by simp), if_neg hb2, if_neg n1, if_neg n2, if_pos h3])).symm
            · cases e
    · rw [if_neg q, dr_nil s i q]; rfl
/-- The scanner's run from the text's beginning is the machine's. -/
theorem run_sm (s : ByteArray) : cast (run s (btw s 0) []) = sm 0 .sk [] (bytesOf s) := by
  have h := btw_le s 0 (Nat.zero_le _)
  have := sm_run s (s.size - btw s 0) (btw s 0) [] (Nat.le_refl _) h.2 (btw_not s 0 (Nat.zero_le _))
  rw [← sm_btw s 0] at this
  exact this
theorem sm_bad_le (s : ByteArray) : ∀ d i st ts j, s.size - i ≤ d → i ≤ s.size → (∀ a p acc, st = .es a p acc → p ≤ s.size) → sm i st ts (dr s i) = .bad j → j ≤ s.size := by
  intro d
  induction d with
  | zero =>
    intro i st ts j h hi he e
    rw [dr_nil s i (by omega), sm] at e
    cases st <;> simp [fin] at e <;> omega
  | succ d ih =>
    intro i st ts j h hi he e
    by_cases q : i < s.size
    · rw [dr_cons s i q, sm] at e
      cases hs : step i (bt s (i : Int)) st ts with
      | bad j' =>
        rw [hs] at e
        simp only [Out.bad.injEq] at e
        subst e
        cases st with
        | sk => simp only [step, st1] at hs; repeat' split at hs
                all_goals simp at hs; try omega
        | nt => simp only [step] at hs; split at hs <;> simp at hs
        | wd a acc => simp only [step, st1] at hs; repeat' split at hs
                      all_goals simp at hs; try omega
        | qt a acc => simp only [step] at hs; repeat' split at hs
                      all_goals simp at hs; try omega
        | es a p acc => simp only [step] at hs; repeat' split at hs
                        all_goals simp at hs; try (have := he a p acc rfl; omega)
      | go st' ts' =>
        rw [hs] at e
        have hes : ∀ a p acc, st' = .es a p acc → p ≤ s.size := by
          intro a p acc e2
          subst e2
          cases st with
          | sk => simp only [step, st1] at hs; repeat' split at hs
                  all_goals simp at hs
          | nt => simp only [step] at hs; split at hs <;> simp at hs
          | wd a acc => simp only [step, st1] at hs; repeat' split at hs
                        all_goals simp at hs
          | qt a acc => simp only [step] at hs; repeat' split at hs
                        all_goals simp at hs; try omega
          | es a p acc => simp only [step] at hs; repeat' split at hs
                          all_goals simp at hs
        exact ih (i + 1) st' ts' j (by omega) (by omega) hes e
    · rw [dr_nil s i q, sm] at e
      cases st <;> simp [fin] at e <;> omega
/-- What Tokens hands back, by the machine. -/
theorem tokRes_sm (s : ByteArray) (bad : Int) : tokRes s bad = (match sm 0 .sk [] (bytesOf s) with
    | .bad j => ([], 8, min bad (j : Int))
    | .good ts => if bad ≤ (s.size : Int) then ([], 8, bad) else (ts, 0, 0)) := by
  have h := run_sm s
  unfold tokRes
  obtain ⟨ts, o, hr⟩ : ∃ ts o, run s (btw s 0) [] = (ts, o) := ⟨_, _, rfl⟩
  rw [hr] at h
  cases o with
  | none => rw [← h, hr]; rfl
  | some j =>
    rw [← h, hr]
    have hj : j ≤ s.size := sm_bad_le s s.size 0 .sk [] j (by omega) (by omega) (fun _ _ _ e => by cases e) (by rw [← show bytesOf s = dr s 0 from rfl] ; exact h.symm)
    simp only [cast]
    rw [if_pos (by omega)]
end Go.Proofs.YtlhllcbglfffdaaDoor.Pu
