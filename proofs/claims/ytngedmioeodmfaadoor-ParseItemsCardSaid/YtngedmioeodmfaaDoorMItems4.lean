/- 12 texts of the proof, put together, less what is not used; what a tool printed stands among them. -/
import Derived.Laws.BitsLemmas
import Derived.Lib.ValidLaws
import Derived.Lib.TrimUEq
import Derived.Lib.MapLaws
import Derived.KernelRfl
import Derived.Test.YtngedmioeodmfaaDoorMItems3
namespace Go.Proofs.YtngedmioeodmfaaDoor.Pu
open Go.RowKit Go.Proofs.YtngedmioeodmfaaDoor.Pr Go.Proofs.YtngedmioeodmfaaDoorW.PrintWords
theorem w64 {n : Int} (h0 : -9223372036854775808 ≤ n) (h1 : n ≤ 9223372036854775807) : wrap64 n = n := by
  unfold wrap64; omega
theorem bytesOf_range (s : ByteArray) : ∀ x ∈ bytesOf s, 0 ≤ x ∧ x ≤ 255 := by
  intro x hx
  unfold bytesOf at hx
  obtain ⟨b, _, rfl⟩ := List.mem_map.1 hx
  have := UInt8.toNat_lt b
  omega
theorem bytesOf_str (xs : List Int) (h : ∀ x ∈ xs, 0 ≤ x ∧ x ≤ 255) : bytesOf (strOfNums xs) = xs := by
  unfold bytesOf
  rw [strOfNums_data, List.map_map]
  conv => rhs; rw [← List.map_id xs]
  apply List.map_congr_left
  intro x hx
  have := h x hx
  simp [Function.comp]
  omega
theorem bt_drop (s : ByteArray) (i : Nat) (h : i < s.size) : (bytesOf s).drop i = bt s (i : Int) :: (bytesOf s).drop (i + 1) := by
  have hl : i < (bytesOf s).length := by rw [bytesOf_length]; exact h
  rw [List.drop_eq_getElem_cons hl]
  congr 1
  rw [← rd_bytesOf, rd, Int.toNat_natCast, List.getD_eq_getElem?_getD, List.getElem?_eq_getElem hl]
  rfl
theorem bytesOf_inj {s t : ByteArray} (h : bytesOf s = bytesOf t) : s = t := by
  have h2 : s.data.toList = t.data.toList := by
    unfold bytesOf at h
    refine (List.map_inj_right ?_).1 h
    intro a b hab
    exact UInt8.toNat_inj.1 (by omega)
  cases s with | mk a => cases t with | mk b => exact congrArg ByteArray.mk (Array.ext' h2)
theorem str_bytesOf (s : ByteArray) : strOfNums (bytesOf s) = s := by
  apply bytesOf_inj
  exact bytesOf_str _ (bytesOf_range s)
/-- What is some r at each number of rounds. -/
theorem Ev.const {α : Type} {g : Nat → Option α} {r : α} (h : ∀ k, g k = some r) : Ev g r := ⟨0, fun k _ => h k⟩
/-- Rounds behind one another: the fixed answer first. -/
theorem Ev.some_bind {α β : Type} {o : Option α} {f : Nat → α → Option β} {a : α} {r : β} (h : o = some a) (k : Ev (fun n => f n a) r) : Ev (fun n => o.bind (f n)) r := by
  subst h; exact k
end Go.Proofs.YtngedmioeodmfaaDoor.Pu
namespace Go.Proofs.YtngedmioeodmfaaDoorW.PrintWords
theorem Ev.eq {α : Type} {g : Nat → Option α} {r q : α} (h : Ev g r) (e : r = q) : Ev g q := e ▸ h
end Go.Proofs.YtngedmioeodmfaaDoorW.PrintWords
namespace Go.Proofs.YtngedmioeodmfaaDoor.Pu
open Go.RowKit Go.Proofs.YtngedmioeodmfaaDoor.Pr Go.Proofs.YtngedmioeodmfaaDoorW.PrintWords Go.Proofs.YtngedmioeodmfaaDoor.Lx
set_option linter.unusedVariables false
set_option linter.unusedSimpArgs false
/-- Where the machine stands: between tokens, in a note, in a word, in a string, behind a stroke in a string. -/
inductive St where
  | sk : St
  | nt : St
  | wd (a : Nat) (acc : List Int) : St
  | qt (a : Nat) (acc : List Int) : St
  | es (a : Nat) (p : Nat) (acc : List Int) : St
inductive Out where
  | bad (j : Nat) : Out
  | good (ts : List Tk) : Out
inductive One where
  | bad (j : Nat) : One
  | go (st : St) (ts : List Tk) : One
def fin (n : Nat) : St → List Tk → Out
  | .sk, ts => .good ts
  | .nt, ts => .good ts
  | .wd a acc, ts => .good (ts ++ [⟨1, a, strOfNums acc⟩])
  | .qt _ _, _ => .bad n
  | .es _ _ _, _ => .bad n
def st1 (i : Nat) (c : Int) (ts : List Tk) : One :=
  if pBlank c = true then .go .sk ts
  else if c = 35 then .go .nt ts
  else if pLetter c = true then .go (.wd i [c]) ts
  else if c = 34 then .go (.qt i []) ts
  else if c = 40 ∨ c = 41 ∨ c = 59 then .go .sk (ts ++ [⟨opIdx c, i, strOfNums [c]⟩])
  else .bad i
def step (i : Nat) (c : Int) : St → List Tk → One
  | .sk, ts => st1 i c ts
  | .nt, ts => if c = 10 then .go .sk ts else .go .nt ts
  | .wd a acc, ts => if pWord c = true then .go (.wd a (acc ++ [c])) ts else st1 i c (ts ++ [⟨1, a, strOfNums acc⟩])
  | .qt a acc, ts => if c = 34 then .go .sk (ts ++ [⟨2, a, strOfNums acc⟩]) else if c = 10 then .bad i else if c = 92 then .go (.es a i acc) ts else .go (.qt a (acc ++ [c])) ts
  | .es a p acc, ts => if c = 34 ∨ c = 92 then .go (.qt a (acc ++ [c])) ts else .bad p
def sm : Nat → St → List Tk → List Int → Out
  | i, st, ts, [] => fin i st ts
  | i, st, ts, c :: l => match step i c st ts with
    | .bad j => .bad j
    | .go st' ts' => sm (i + 1) st' ts' l
def cast : List Tk × Option Nat → Out
  | (ts, none) => .good ts
  | (_, some j) => .bad j
def dr (s : ByteArray) (i : Nat) : List Int := (bytesOf s).drop i
theorem dr_cons (s : ByteArray) (i : Nat) (h : i < s.size) : dr s i = bt s (i : Int) :: dr s (i + 1) := bt_drop s i h
theorem dr_nil (s : ByteArray) (i : Nat) (h : ¬ i < s.size) : dr s i = [] := List.drop_eq_nil_of_le (by rw [bytesOf_length]; omega)
theorem sm_go (s : ByteArray) (i : Nat) (h : i < s.size) (st : St) (ts : List Tk) (st' : St) (ts' : List Tk) (e : step i (bt s (i : Int)) st ts = .go st' ts') : sm i st ts (dr s i) = sm (i + 1) st' ts' (dr s (i + 1)) := by
  rw [dr_cons s i h, sm, e]
theorem sm_bad (s : ByteArray) (i : Nat) (h : i < s.size) (st : St) (ts : List Tk) (j : Nat) (e : step i (bt s (i : Int)) st ts = .bad j) : sm i st ts (dr s i) = .bad j := by
  rw [dr_cons s i h, sm, e]
/-- A row passed over, state by state. -/
theorem sm_row (s : ByteArray) (p : Int → Bool) (st : St) (hst : ∀ i c ts, p c = true → step i c st ts = .go st ts) : ∀ d i ts, sm i st ts (dr s i) = sm (rowEnd s p d i) st ts (dr s (rowEnd s p d i)) := by
  intro d
  induction d with
  | zero => intro i ts; rfl
  | succ d ih =>
    intro i ts
    rw [rowEnd]
    by_cases q : i < s.size ∧ p (bt s i) = true
    · rw [if_pos q, ← ih (i + 1) ts]
      exact sm_go s i q.1 _ _ _ _ (hst _ _ _ q.2)
    · rw [if_neg q]
theorem sm_blanks (s : ByteArray) (i : Nat) (ts : List Tk) : sm i .sk ts (dr s i) = sm (bEnd s i) .sk ts (dr s (bEnd s i)) := by
  refine sm_row s pBlank .sk ?_ _ i ts
  intro i c ts h
  simp only [step, st1, h, if_true]
theorem rowEnd_not (s : ByteArray) (p : Int → Bool) : ∀ d i, s.size - i ≤ d → ¬ (rowEnd s p d i < s.size ∧ p (bt s (rowEnd s p d i)) = true) := by
  intro d
  induction d with
  | zero => intro i h; rw [rowEnd]; omega
  | succ d ih =>
    intro i h
    rw [rowEnd]
    split
    · exact ih (i + 1) (by omega)
    · rename_i q; exact q
theorem nt_all : ∀ c : Fin 256, pNN (c.val : Int) = true ∨ (c.val : Int) = 10 := by decide +kernel
theorem bt_fin (s : ByteArray) (i : Int) : ∃ q : Fin 256, (q.val : Int) = bt s i := by
  have hr := bt_range s i
  exact ⟨⟨(bt s i).toNat, by omega⟩, by simp; omega⟩
theorem sm_notes (s : ByteArray) (i : Nat) (h : i < s.size) (hc : bt s (i : Int) = 35) (ts : List Tk) : sm i .sk ts (dr s i) = sm (nEnd s i) .sk ts (dr s (nEnd s i)) := by
  have e1 : sm i .sk ts (dr s i) = sm (i + 1) .nt ts (dr s (i + 1)) := sm_go s i h _ _ _ _ (by simp only [step, st1, hc]; rfl)
  have e2 : nEnd s i = rowEnd s pNN (s.size - (i + 1)) (i + 1) := rowEnd_go s pNN i h (by rw [hc]; rfl)
  rw [e1, e2, sm_row s pNN .nt ?_ (s.size - (i + 1)) (i + 1) ts]
  · have hn := rowEnd_not s pNN (s.size - (i + 1)) (i + 1) (Nat.le_refl _)
    generalize rowEnd s pNN (s.size - (i + 1)) (i + 1) = r at hn ⊢
    by_cases q : r < s.size
    · obtain ⟨c, hc2⟩ := bt_fin s (r : Int)
      have h10 : bt s (r : Int) = 10 := by
        rcases nt_all c with h | h
        · exact absurd ⟨q, by rw [← hc2]; exact h⟩ hn
        · rw [← hc2]; exact h
      rw [sm_go s r q .nt ts .sk ts (by simp only [step, h10, if_true]), sm_go s r q .sk ts .sk ts (by simp only [step, st1, h10]; rfl)]
    · rw [dr_nil s r q]; rfl
  · intro i c ts h
    simp only [step]
    rw [if_neg]
    intro e; rw [e] at h; cases h
theorem sm_btw2 (s : ByteArray) : ∀ d i ts, sm i .sk ts (dr s i) = sm (btw2 s d i) .sk ts (dr s (btw2 s d i)) := by
  intro d
  induction d with
  | zero => intro i ts; rfl
  | succ d ih =>
    intro i ts
    rw [btw2]
    split
    · rename_i q
      rw [sm_notes s i q.1 q.2, sm_blanks, ih]
    · rfl
theorem sm_btw (s : ByteArray) (i : Nat) (ts : List Tk) : sm i .sk ts (dr s i) = sm (btw s i) .sk ts (dr s (btw s i)) := by
  rw [sm_blanks]
  exact sm_btw2 s _ _ ts
theorem btw2_not (s : ByteArray) : ∀ d i, i ≤ s.size → s.size - i ≤ d → ¬ (i < s.size ∧ pBlank (bt s i) = true) → btw2 s d i < s.size → pBlank (bt s (btw2 s d i)) = false ∧ bt s (btw2 s d i) ≠ 35 := by
  intro d
  induction d with
  | zero => intro i hi h _ hl; rw [btw2] at hl; omega
  | succ d ih =>
    intro i hi h hb
    rw [btw2]
    split
    · rename_i q
      have h1 := nEnd_lt s i q.1 q.2
      have h2 := nEnd_le s i hi
      have h3 := bEnd_le s (nEnd s i) h2.2
      exact ih (bEnd s (nEnd s i)) h3.2 (by omega) (rowEnd_not s pBlank _ _ (Nat.le_refl _))
    · rename_i q
      intro hl
      constructor
      · cases hx : pBlank (bt s i) with
        | true => exact absurd ⟨hl, hx⟩ hb
        | false => rfl
      · intro e; exact q ⟨hl, e⟩
theorem btw_not (s : ByteArray) (i : Nat) (hi : i ≤ s.size) (h : btw s i < s.size) : pBlank (bt s (btw s i)) = false ∧ bt s (btw s i) ≠ 35 :=
  btw2_not s _ _ (bEnd_le s i hi).2 (Nat.le_refl _) (rowEnd_not s pBlank _ _ (Nat.le_refl _)) h
theorem strOfNums_inj_bytes (s : ByteArray) (xs : List Int) (h : bytesOf s = xs) : strOfNums xs = s := by rw [← h]; exact str_bytesOf s
theorem bytesOf_ext (s : ByteArray) (i j : Nat) : bytesOf (s.extract i j) = ((bytesOf s).take j).drop i := by
  unfold bytesOf
  rw [ByteArray.data_extract, Array.toList_extract, List.extract_eq_take_drop, List.map_take, List.map_drop, List.drop_take]
theorem sm_word (s : ByteArray) (a : Nat) : ∀ d i acc ts, sm i (.wd a acc) ts (dr s i) = sm (rowEnd s pWord d i) (.wd a (acc ++ ((bytesOf s).take (rowEnd s pWord d i)).drop i)) ts (dr s (rowEnd s pWord d i)) := by
  intro d
  induction d with
  | zero =>
    intro i acc ts
    rw [rowEnd, List.drop_eq_nil_of_le (by rw [List.length_take]; omega), List.append_nil]
  | succ d ih =>
    intro i acc ts
    rw [rowEnd]
    by_cases q : i < s.size ∧ pWord (bt s i) = true
    · rw [if_pos q]
      rw [sm_go s i q.1 _ _ (.wd a (acc ++ [bt s (i : Int)])) ts (by simp only [step, q.2, if_true])]
      rw [ih (i + 1)]
      have hr : i + 1 ≤ rowEnd s pWord d (i + 1) := by
        have := rowEnd_le s pWord d (i + 1) (by omega); omega
      congr 2
      generalize rowEnd s pWord d (i + 1) = r at hr ⊢
      rw [List.append_assoc]
      congr 1
      have hl : i < ((bytesOf s).take r).length := by rw [List.length_take, bytesOf_length]; omega
      rw [List.drop_eq_getElem_cons hl]
      congr 1
      rw [List.getElem_take, ← rd_bytesOf, rd, Int.toNat_natCast, List.getD_eq_getElem?_getD, List.getElem?_eq_getElem (by rw [bytesOf_length]; exact q.1)]
      rfl
    · rw [if_neg q, List.drop_eq_nil_of_le (by rw [List.length_take]; omega), List.append_nil]
theorem sm_tok_word (s : ByteArray) (i : Nat) (h : i < s.size) (hb : pBlank (bt s i) = false) (h35 : bt s (i : Int) ≠ 35) (hl : pLetter (bt s i) = true) (ts : List Tk) :
    sm i .sk ts (dr s i) = sm (wEnd s i) .sk (ts ++ [⟨1, i, s.extract i (wEnd s i)⟩]) (dr s (wEnd s i)) := by
  obtain ⟨c, hc⟩ := bt_fin s (i : Int)
  have hw : pWord (bt s (i : Int)) = true := by rw [← hc]; exact letter_word c (by rw [hc]; exact hl)
  have e : wEnd s i = rowEnd s pWord (s.size - (i + 1)) (i + 1) := rowEnd_go s pWord i h hw
  rw [sm_go s i h .sk ts (.wd i [bt s (i : Int)]) ts (by simp only [step, st1, hb, hl, if_true]; rw [if_neg h35]; rfl), sm_word s i (s.size - (i + 1)) (i + 1), ← e]
  have hle := wEnd_le s i (by omega)
  have hlt := wEnd_lt s i h hl
  have hst : strOfNums ([bt s (i : Int)] ++ ((bytesOf s).take (wEnd s i)).drop (i + 1)) = s.extract i (wEnd s i) := by
    apply strOfNums_inj_bytes
    rw [bytesOf_ext]
    have hl : i < ((bytesOf s).take (wEnd s i)).length := by rw [List.length_take, bytesOf_length]; omega
    rw [List.drop_eq_getElem_cons hl]
    show _ :: _ = _ :: _
    congr 1
    rw [List.getElem_take, ← rd_bytesOf, rd, Int.toNat_natCast, List.getD_eq_getElem?_getD, List.getElem?_eq_getElem (by rw [bytesOf_length]; exact h)]
    rfl
  have hn : ¬ (wEnd s i < s.size ∧ pWord (bt s (wEnd s i)) = true) := rowEnd_not s pWord _ _ (Nat.le_refl _)
  by_cases q : wEnd s i < s.size
  · have hn2 : pWord (bt s (wEnd s i)) = false := by
      cases hx : pWord (bt s (wEnd s i)) with
      | true => exact absurd ⟨q, hx⟩ hn
      | false => rfl
    rw [dr_cons s _ q, sm, sm]
    simp only [step, hn2, hst]
    rfl
  · rw [dr_nil s _ q, sm, sm]
    simp only [fin, hst]
theorem sm_quo (s : ByteArray) (a : Nat) (ts : List Tk) : ∀ d i out, i ≤ s.size → s.size - i ≤ d → sm i (.qt a out) ts (dr s i) =
    (match quo s d i out with
     | (o, j, true) => sm j .sk (ts ++ [⟨2, a, strOfNums o⟩]) (dr s j)
     | (_, j, false) => .bad j) := by
  intro d
  induction d using Nat.strongRecOn with
  | _ d ih =>
    intro i out hi hd
    cases d with
    | zero => rw [dr_nil s i (by omega), quo]; rfl
    | succ d =>
      rw [quo]
      by_cases q : i < s.size
      · rw [if_pos q]
        by_cases h34 : bt s (i : Int) = 34
        · rw [if_pos h34]
          exact sm_go s i q _ _ _ _ (by simp only [step, h34, if_true])
        · rw [if_neg h34]
          by_cases h10 : bt s (i : Int) = 10
          · rw [if_pos h10]
            exact sm_bad s i q _ _ _ (by simp only [step]; rw [if_neg h34, if_pos h10])
          · rw [if_neg h10]
            by_cases h92 : bt s (i : Int) = 92
            · rw [if_pos h92]
              rw [sm_go s i q _ _ (.es a i out) ts (by simp only [step]; rw [if_neg h34, if_neg h10, if_pos h92])]
              by_cases he : i + 1 = s.size
              · rw [if_pos he, dr_nil s (i + 1) (by omega)]; rfl
              · rw [if_neg he]
                have q2 : i + 1 < s.size := by omega
                by_cases hq : bt s ((i + 1 : Nat) : Int) = 34 ∨ bt s ((i + 1 : Nat) : Int) = 92
                · rw [if_pos hq, sm_go s (i + 1) q2 _ _ (.qt a (out ++ [bt s ((i + 1 : Nat) : Int)])) ts (by simp only [step]; rw [if_pos hq])]
                  exact ih d (by omega) (i + 2) _ (by omega) (by omega)
                · rw [if_neg hq]
                  exact sm_bad s (i + 1) q2 _ _ _ (by simp only [step]; rw [if_neg hq])
            · rw [if_neg h92, sm_go s i q _ _ (.qt a (out ++ [bt s (i : Int)])) ts (by simp only [step]; rw [if_neg h34, if_neg h10, if_neg h92])]
              exact ih d (by omega) (i + 1) _ (by omega) (by omega)
      · rw [if_neg q, dr_nil s i q]
        have : i = s.size := by omega
        rfl
theorem sm_run (s : ByteArray) : ∀ d i ts, s.size - i ≤ d → i ≤ s.size → (i < s.size → pBlank (bt s i) = false ∧ bt s (i : Int) ≠ 35) → cast (runF s d i ts) = sm i .sk ts (dr s i) := by
  intro d
  induction d with
  | zero => intro i ts h hi _; rw [runF, dr_nil s i (by omega)]; rfl
  | succ d ih =>
    intro i ts h hi hb
    rw [runF]
    by_cases q : i < s.size
    · rw [if_pos q]
      obtain ⟨hb1, hb2⟩ := hb q
      have go : ∀ t j, tokE s i = some (t, j, true) → cast (runF s d (btw s j) (ts ++ [t])) = sm j .sk (ts ++ [t]) (dr s j) := by
        intro t j e
        have hj := tokE_ge s i q e
        have hbl := btw_le s j hj.2
        rw [sm_btw s j]
        exact ih (btw s j) _ (by omega) hbl.2 (btw_not s j hj.2)
      cases e : tokE s i with
      | none =>
        simp only
        unfold tokE at e
        split at e
        · cases e
        · rename_i n1
          split at e
          · cases e
          · rename_i n2
            split at e
            · cases e
            · rename_i n3
              refine (sm_bad s i q _ _ _ ?_).symm
              simp only [step, st1]
              rw [hb1, if_neg (by simp), if_neg hb2, if_neg n1, if_neg n2, if_neg n3]
      | some x =>
        obtain ⟨t, j, ok⟩ := x
        have e0 := e
        unfold tokE at e
        split at e
        · rename_i hl
          simp only [Option.some.injEq, Prod.mk.injEq] at e
          obtain ⟨rfl, rfl, rfl⟩ := e
          simp only
          rw [go _ _ e0, sm_tok_word s i q hb1 hb2 hl]
        · rename_i n1
          split at e
          · rename_i h34
            simp only [Option.some.injEq, Prod.mk.injEq] at e
            obtain ⟨rfl, rfl, rfl⟩ := e
            have e1 : sm i .sk ts (dr s i) = sm (i + 1) (.qt i []) ts (dr s (i + 1)) := sm_go s i q _ _ _ _ (by simp only [step, st1]; rw [hb1, if_neg (by simp), if_neg hb2, if_neg n1, if_pos h34])
            rw [e1, sm_quo s i ts (s.size - (i + 1)) (i + 1) [] (by omega) (Nat.le_refl _)]
            have hqe : quo s (s.size - (i + 1)) (i + 1) [] = quoE s (i + 1) [] := rfl
            rw [hqe]
            obtain ⟨o, j, b, hq⟩ : ∃ o j b, quoE s (i + 1) [] = (o, j, b) := ⟨_, _, _, rfl⟩
            rw [hq] at e0 ⊢
            cases b with
            | true => simp only; rw [go _ _ e0]
            | false => rfl
          · rename_i n2
            split at e
            · rename_i h3
              simp only [Option.some.injEq, Prod.mk.injEq] at e
              obtain ⟨rfl, rfl, rfl⟩ := e
              simp only
              rw [go _ _ e0]
              have hx : s.extract i (i + 1) = strOfNums [bt s (i : Int)] := by
                refine (strOfNums_inj_bytes _ _ ?_).symm
                rw [bytesOf_ext]
                have hl : i < ((bytesOf s).take (i + 1)).length := by rw [List.length_take, bytesOf_length]; omega
                rw [List.drop_eq_getElem_cons hl, List.drop_eq_nil_of_le (by rw [List.length_take]; omega)]
                congr 1
                rw [List.getElem_take, ← rd_bytesOf, rd, Int.toNat_natCast, List.getD_eq_getElem?_getD, List.getElem?_eq_getElem (by rw [bytesOf_length]; exact q)]
                rfl
              rw [hx]
              exact (sm_go s i q _ _ _ _ (by simp only [step, st1]; rw [hb1, if_neg (by simp), if_neg hb2, if_neg n1, if_neg n2, if_pos h3])).symm
            · cases e
    · rw [if_neg q, dr_nil s i q]; rfl
/-- The scanner's run from the text's beginning is the machine's. -/
theorem run_sm (s : ByteArray) : cast (run s (btw s 0) []) = sm 0 .sk [] (bytesOf s) := by
  have h := btw_le s 0 (Nat.zero_le _)
  have := sm_run s (s.size - btw s 0) (btw s 0) [] (Nat.le_refl _) h.2 (btw_not s 0 (Nat.zero_le _))
  rw [← sm_btw s 0] at this
  exact this
theorem sm_bad_le (s : ByteArray) : ∀ d i st ts j, s.size - i ≤ d → i ≤ s.size → (∀ a p acc, st = .es a p acc → p ≤ s.size) → sm i st ts (dr s i) = .bad j → j ≤ s.size := by
  intro d
  induction d with
  | zero =>
    intro i st ts j h hi he e
    rw [dr_nil s i (by omega), sm] at e
    cases st <;> simp [fin] at e <;> omega
  | succ d ih =>
    intro i st ts j h hi he e
    by_cases q : i < s.size
    · rw [dr_cons s i q, sm] at e
      cases hs : step i (bt s (i : Int)) st ts with
      | bad j' =>
        rw [hs] at e
        simp only [Out.bad.injEq] at e
        subst e
        cases st with
        | sk => simp only [step, st1] at hs; repeat' split at hs
                all_goals simp at hs; try omega
        | nt => simp only [step] at hs; split at hs <;> simp at hs
        | wd a acc => simp only [step, st1] at hs; repeat' split at hs
                      all_goals simp at hs; try omega
        | qt a acc => simp only [step] at hs; repeat' split at hs
                      all_goals simp at hs; try omega
        | es a p acc => simp only [step] at hs; repeat' split at hs
                        all_goals simp at hs; try (have := he a p acc rfl; omega)
      | go st' ts' =>
        rw [hs] at e
        have hes : ∀ a p acc, st' = .es a p acc → p ≤ s.size := by
          intro a p acc e2
          subst e2
          cases st with
          | sk => simp only [step, st1] at hs; repeat' split at hs
                  all_goals simp at hs
          | nt => simp only [step] at hs; split at hs <;> simp at hs
          | wd a acc => simp only [step, st1] at hs; repeat' split at hs
                        all_goals simp at hs
          | qt a acc => simp only [step] at hs; repeat' split at hs
                        all_goals simp at hs; try omega
          | es a p acc => simp only [step] at hs; repeat' split at hs
                          all_goals simp at hs
        exact ih (i + 1) st' ts' j (by omega) (by omega) hes e
    · rw [dr_nil s i q, sm] at e
      cases st <;> simp [fin] at e <;> omega
/-- What Tokens hands back, by the machine. -/
theorem tokRes_sm (s : ByteArray) (bad : Int) : tokRes s bad = (match sm 0 .sk [] (bytesOf s) with
    | .bad j => ([], 8, min bad (j : Int))
    | .good ts => if bad ≤ (s.size : Int) then ([], 8, bad) else (ts, 0, 0)) := by
  have h := run_sm s
  unfold tokRes
  obtain ⟨ts, o, hr⟩ : ∃ ts o, run s (btw s 0) [] = (ts, o) := ⟨_, _, rfl⟩
  rw [hr] at h
  cases o with
  | none => rw [← h, hr]; rfl
  | some j =>
    rw [← h, hr]
    have hj : j ≤ s.size := sm_bad_le s s.size 0 .sk [] j (by omega) (by omega) (fun _ _ _ e => by cases e) (by rw [← show bytesOf s = dr s 0 from rfl] ; exact h.symm)
    simp only [cast]
    rw [if_pos (by omega)]
end Go.Proofs.YtngedmioeodmfaaDoor.Pu
namespace Go.Proofs.YtngedmioeodmfaaDoor.Pr
open Go.RowKit Go.Proofs.YtngedmioeodmfaaDoorW.PrintWords Go.Proofs.YtngedmioeodmfaaDoorW.PrintLast Go.Proofs.YtngedmioeodmfaaDoorW.PrintMore
attribute [local go_sem] max2_int min2_int max_two min_two max_three min_three max_four min_four   -- for this text's walks alone
set_option linter.unusedVariables false
set_option linter.unusedSimpArgs false
mutual
def parapetref9_runeAt.j2 : Nat → ByteArray → Int → Int → Int → Option (Int)
  | 0, _, _, _, _ => none
  | k + 1, x0, x4, x5, x6 => if (x0.size : Int) < x4 then (some 0) else (parapetref9_runeAt.l0 k x0 x4 x5 x6 1)
def parapetref9_runeAt.l0 : Nat → ByteArray → Int → Int → Int → Int → Option (Int)
  | 0, _, _, _, _, _ => none
  | k + 1, x0, x4, x5, x6, x7 => if x7 < x4 then (if 0 ≤ x7 then (if x7 < (x0.size : Int) then (if (Go.bits .and .u8 (bt x0 x7) 192) = 128 then (parapetref9_runeAt.l0 k x0 x4 (Go.bits .or .i64 (wrap64 (x5 * 64)) (wrap64 (Go.bits .and .u8 (bt x0 x7) 63))) x6 (wrap64 (x7 + 1))) else (some 0)) else (none)) else (none)) else (if x5 < x6 then (some 0) else (if x5 > 1114111 then (some 0) else (if x5 ≥ 55296 then (if x5 ≤ 57343 then (some 0) else (some x4)) else (some x4))))
def parapetref9_runeAt.j0 : Nat → ByteArray → Int → Int → Bool → Option (Int)
  | 0, _, _, _, _ => none
  | k + 1, x0, x3, x5, x15 => if x15 = true then (parapetref9_runeAt.j2 k x0 2 (Go.bits .and .i64 x5 31) 128) else (if x3 ≥ 224 then (parapetref9_runeAt.j1 k x0 x3 x5 (decide (x3 < 240))) else (parapetref9_runeAt.j1 k x0 x3 x5 false))
def parapetref9_runeAt.j1 : Nat → ByteArray → Int → Int → Bool → Option (Int)
  | 0, _, _, _, _ => none
  | k + 1, x0, x3, x5, x24 => if x24 = true then (parapetref9_runeAt.j2 k x0 3 (Go.bits .and .i64 x5 15) 2048) else (if x3 ≥ 240 then (if x3 < 245 then (parapetref9_runeAt.j2 k x0 4 (Go.bits .and .i64 x5 7) 65536) else (some 0)) else (some 0))
end
def parapetref9_runeAt.f (k : Nat) (a0 : ByteArray) : Option (Int) := if 0 < (a0.size : Int) then (if (bt a0 0) < 128 then (some 1) else (if (bt a0 0) ≥ 194 then (parapetref9_runeAt.j0 k a0 (bt a0 0) (wrap64 (bt a0 0)) (decide ((bt a0 0) < 224))) else (parapetref9_runeAt.j0 k a0 (bt a0 0) (wrap64 (bt a0 0)) false))) else (none)
theorem parapetref9_runeAt.mono_l : ∀ k, (∀ y0 y1 y2 y3, LeO (parapetref9_runeAt.j2 k y0 y1 y2 y3) (parapetref9_runeAt.j2 (k + 1) y0 y1 y2 y3)) ∧ (∀ y0 y1 y2 y3 y4, LeO (parapetref9_runeAt.l0 k y0 y1 y2 y3 y4) (parapetref9_runeAt.l0 (k + 1) y0 y1 y2 y3 y4)) ∧ (∀ y0 y1 y2 y3, LeO (parapetref9_runeAt.j0 k y0 y1 y2 y3) (parapetref9_runeAt.j0 (k + 1) y0 y1 y2 y3)) ∧ (∀ y0 y1 y2 y3, LeO (parapetref9_runeAt.j1 k y0 y1 y2 y3) (parapetref9_runeAt.j1 (k + 1) y0 y1 y2 y3))
  | 0 => ⟨fun _ _ _ _ r h => by simp [parapetref9_runeAt.j2] at h, fun _ _ _ _ _ r h => by simp [parapetref9_runeAt.l0] at h, fun _ _ _ _ r h => by simp [parapetref9_runeAt.j0] at h, fun _ _ _ _ r h => by simp [parapetref9_runeAt.j1] at h⟩
  | k + 1 => by
    obtain ⟨ih0, ih1, ih2, ih3⟩ := parapetref9_runeAt.mono_l k
    refine ⟨?_, ?_, ?_, ?_⟩
    · intro y0 y1 y2 y3
      unfold parapetref9_runeAt.j2
      repeat' first
      | (with_reducible exact ih0 _ _ _ _)
      | (with_reducible exact ih1 _ _ _ _ _)
      | (with_reducible exact ih2 _ _ _ _)
      | (with_reducible exact ih3 _ _ _ _)
      | (with_reducible exact LeO.refl _)
      | (with_reducible exact LeO.none _)
      | (with_reducible refine LeO.ite ?_ ?_)
      | (with_reducible refine LeO.bind ?_ (fun _ => ?_))
      | exact ih0 _ _ _ _
      | exact ih1 _ _ _ _ _
      | exact ih2 _ _ _ _
      | exact ih3 _ _ _ _
      | exact LeO.none _
      | refine LeO.ite ?_ ?_
      | refine LeO.bind ?_ (fun _ => ?_)
    · intro y0 y1 y2 y3 y4
      unfold parapetref9_runeAt.l0
      repeat' first
      | (with_reducible exact ih0 _ _ _ _)
      | (with_reducible exact ih1 _ _ _ _ _)
      | (with_reducible exact ih2 _ _ _ _)
      | (with_reducible exact ih3 _ _ _ _)
      | (with_reducible exact LeO.refl _)
      | (with_reducible exact LeO.none _)
      | (with_reducible refine LeO.ite ?_ ?_)
      | (with_reducible refine LeO.bind ?_ (fun _ => ?_))
      | exact ih0 _ _ _ _
      | exact ih1 _ _ _ _ _
      | exact ih2 _ _ _ _
      | exact ih3 _ _ _ _
      | exact LeO.none _
      | refine LeO.ite ?_ ?_
      | refine LeO.bind ?_ (fun _ => ?_)
    · intro y0 y1 y2 y3
      unfold parapetref9_runeAt.j0
      repeat' first
      | (with_reducible exact ih0 _ _ _ _)
      | (with_reducible exact ih1 _ _ _ _ _)
      | (with_reducible exact ih2 _ _ _ _)
      | (with_reducible exact ih3 _ _ _ _)
      | (with_reducible exact LeO.refl _)
      | (with_reducible exact LeO.none _)
      | (with_reducible refine LeO.ite ?_ ?_)
      | (with_reducible refine LeO.bind ?_ (fun _ => ?_))
      | exact ih0 _ _ _ _
      | exact ih1 _ _ _ _ _
      | exact ih2 _ _ _ _
      | exact ih3 _ _ _ _
      | exact LeO.none _
      | refine LeO.ite ?_ ?_
      | refine LeO.bind ?_ (fun _ => ?_)
    · intro y0 y1 y2 y3
      unfold parapetref9_runeAt.j1
      repeat' first
      | (with_reducible exact ih0 _ _ _ _)
      | (with_reducible exact ih1 _ _ _ _ _)
      | (with_reducible exact ih2 _ _ _ _)
      | (with_reducible exact ih3 _ _ _ _)
      | (with_reducible exact LeO.refl _)
      | (with_reducible exact LeO.none _)
      | (with_reducible refine LeO.ite ?_ ?_)
      | (with_reducible refine LeO.bind ?_ (fun _ => ?_))
      | exact ih0 _ _ _ _
      | exact ih1 _ _ _ _ _
      | exact ih2 _ _ _ _
      | exact ih3 _ _ _ _
      | exact LeO.none _
      | refine LeO.ite ?_ ?_
      | refine LeO.bind ?_ (fun _ => ?_)
theorem parapetref9_runeAt.mono : ∀ a0 k, LeO (parapetref9_runeAt.f k a0) (parapetref9_runeAt.f (k + 1) a0) := by
  intro a0 k
  obtain ⟨ih0, ih1, ih2, ih3⟩ := parapetref9_runeAt.mono_l k
  unfold parapetref9_runeAt.f
  repeat' first
      | (with_reducible exact ih0 _ _ _ _)
      | (with_reducible exact ih1 _ _ _ _ _)
      | (with_reducible exact ih2 _ _ _ _)
      | (with_reducible exact ih3 _ _ _ _)
      | (with_reducible exact LeO.refl _)
      | (with_reducible exact LeO.none _)
      | (with_reducible refine LeO.ite ?_ ?_)
      | (with_reducible refine LeO.bind ?_ (fun _ => ?_))
      | exact ih0 _ _ _ _
      | exact ih1 _ _ _ _ _
      | exact ih2 _ _ _ _
      | exact ih3 _ _ _ _
      | exact LeO.none _
      | refine LeO.ite ?_ ?_
      | refine LeO.bind ?_ (fun _ => ?_)
set_option maxHeartbeats 8000000 in
set_option maxRecDepth 100000 in
theorem parapetref9_runeAt.calls (k : Nat) (a0 : ByteArray) (r : Int) (w : World) (h : parapetref9_runeAt.f k a0 = some r) :
    Calls Tryd.prog 73 #[.string a0] w fun e w' => e = .returned (.int .i64 r) ∧ Drawn0 w w' := by
  have H : (if 0 < (a0.size : Int) then (if (bt a0 0) < 128 then (some 1) else (if (bt a0 0) ≥ 194 then (parapetref9_runeAt.j0 k a0 (bt a0 0) (wrap64 (bt a0 0)) (decide ((bt a0 0) < 224))) else (parapetref9_runeAt.j0 k a0 (bt a0 0) (wrap64 (bt a0 0)) false))) else (none)) = some r := h
  clear h
  by_cases c2 : 0 < (a0.size : Int)
  · rw [if_pos c2] at H
    have c2b0 : decide (0 < (a0.size : Int)) = true := decide_eq_true c2
    have c2b1 : decide (0 < a0.size) = true := decide_eq_true (by omega)
    clear c2
    have HC4 := Aside0.mk H
    clear H
    have p3 : 0 ≤ (0 : Int) := (by omega)
    have q3 : 0 < a0.size := (by have : (0 : Int) < (a0.size : Int) := of_decide_eq_true (by first | (with_reducible assumption) | assumption); omega)
    have hx3 : ∀ h : 0 < a0.size, ((a0[0]'h).toNat : Int) = bt a0 0 := bt_at a0 0
    clear p3
    have qi3 : (0 < (a0.size : Int)) = True := eq_true (of_decide_eq_true (by first | (with_reducible assumption) | assumption))
    replace q3 := eq_true q3
    go_enter Tryd.func73, Tryd.ntmps73
    go_upto_block 0 with (fail)
    go_cut [4, 5, 6] (fun v4 v5 v6 wc => ∃ (kq : Nat) (x4_3 : Int) (x5_3 : Int) (x6_3 : Int), v4 = .int .i64 x4_3 ∧ v5 = .int .i64 x5_3 ∧ v6 = .int .i64 x6_3 ∧ Aside0 (parapetref9_runeAt.j2 kq a0 x4_3 x5_3 x6_3 = some r) ∧ Aside0 (kq ≤ k) ∧ Drawn0 w wc)
    case first =>
      have H := HC4.out
      clear HC4
      by_cases c5 : (bt a0 0) < 128
      · rw [if_pos c5] at H
        have c5b0 : decide ((bt a0 0) < 128) = true := decide_eq_true c5
        clear c5
        (first | rw [c5b0] | (simp only [i64_w, i32_w]; rw [c5b0]) | skip)
        obtain rfl := Option.some.inj H
        go_wp2
        go_ret
        exact ⟨by first | rfl | (simp; done) | (simp [*]; done), by repeat (first | exact Drawn0.refl _ | apply Drawn0.step)⟩
      · rw [if_neg c5] at H
        have c5b0 : decide ((bt a0 0) < 128) = false := decide_eq_false c5
        clear c5
        (first | rw [c5b0] | (simp only [i64_w, i32_w]; rw [c5b0]) | skip)
        have HC6 := Aside0.mk H
        clear H
        go_upto_region 8 with (fail)
        go_cut [15] (fun v15 wc => ∃ (kq : Nat) (x15_5 : Bool), v15 = .bool x15_5 ∧ Aside0 (parapetref9_runeAt.j0 kq a0 (bt a0 0) (wrap64 (bt a0 0)) x15_5 = some r) ∧ Aside0 (kq ≤ k) ∧ Drawn0 w wc)
        case first =>
          have H := HC6.out
          clear HC6
          by_cases c7 : (bt a0 0) ≥ 194
          · rw [if_pos c7] at H
            have c7b0 : decide (194 ≤ (bt a0 0)) = true := decide_eq_true c7
            clear c7
            (first | rw [c7b0] | (simp only [i64_w, i32_w]; rw [c7b0]) | skip)
            have H' := Aside0.mk H
            clear H
            go_wp2
            go_meet
            case rel => exact ⟨_, (decide ((bt a0 0) < 224)), (by first | rfl | (simp; done) | (simp [*]; done)), H', ⟨by first | omega | exact Nat.le_refl _⟩, by repeat (first | exact Drawn0.refl _ | apply Drawn0.step)⟩
          · rw [if_neg c7] at H
            have c7b0 : decide (194 ≤ (bt a0 0)) = false := decide_eq_false c7
            clear c7
            (first | rw [c7b0] | (simp only [i64_w, i32_w]; rw [c7b0]) | skip)
            have H' := Aside0.mk H
            clear H
            go_wp2
            go_meet
            case rel => exact ⟨_, (false), (by first | rfl | (simp; done) | (simp [*]; done)), H', ⟨by first | omega | exact Nat.le_refl _⟩, by repeat (first | exact Drawn0.refl _ | apply Drawn0.step)⟩
        case rest =>
          clear HC6
          try clear c2
          try clear c2b0
          try clear c2b1
          try clear p2
          try clear p3
          try clear q3
          try clear hx3
          try clear qi3
          try clear c5
          try clear c5b0
          try clear p6
          try clear c7
          try clear c7b0
          try clear p3
          try clear q3
          obtain ⟨kq, x15_5, rfl, HA, HJ5, ⟨mc5, rfl⟩⟩ := hcut
          cases kq with
          | zero => exact absurd HA.out (by simp [parapetref9_runeAt.j0])
          | succ kj5 =>
            have H := HA.out
            clear HA
            simp only [parapetref9_runeAt.j0] at H
            by_cases c8 : x15_5 = true
            · subst c8
              have H1 : (parapetref9_runeAt.j2 kj5 a0 2 (Go.bits .and .i64 (wrap64 (bt a0 0)) 31) 128) = some r := by rw [if_pos rfl] at H; exact H
              clear H
              have H := H1
              clear H1
              have H' := Aside0.mk H
              clear H
              go_wp2
              go_meet
              case rel => exact ⟨_, (2), (Go.bits .and .i64 (wrap64 (bt a0 0)) 31), (128), (by first | rfl | (simp; done) | (simp [*]; done)), (by first | rfl | (simp; done) | (simp [*]; done)), (by first | rfl | (simp; done) | (simp [*]; done)), H', ⟨by have := HJ5.out; first | omega | exact Nat.le_refl _⟩, by repeat (first | exact Drawn0.refl _ | apply Drawn0.step)⟩
            · replace c8 := Bool.eq_false_iff.mpr c8
              subst c8
              have H1 : (if (bt a0 0) ≥ 224 then (parapetref9_runeAt.j1 kj5 a0 (bt a0 0) (wrap64 (bt a0 0)) (decide ((bt a0 0) < 240))) else (parapetref9_runeAt.j1 kj5 a0 (bt a0 0) (wrap64 (bt a0 0)) false)) = some r := by rw [if_neg (show ¬ (false = true) by decide)] at H; exact H
              clear H
              have H := H1
              clear H1
              have HC9 := Aside0.mk H
              clear H
              go_upto_region 12 with (fail)
              go_cut [24] (fun v24 wc => ∃ (kq : Nat) (x24_8 : Bool), v24 = .bool x24_8 ∧ Aside0 (parapetref9_runeAt.j1 kq a0 (bt a0 0) (wrap64 (bt a0 0)) x24_8 = some r) ∧ Aside0 (kq ≤ kj5) ∧ Drawn0 w wc)
              case first =>
                have H := HC9.out
                clear HC9
                by_cases c10 : (bt a0 0) ≥ 224
                · rw [if_pos c10] at H
                  have c10b0 : decide (224 ≤ (bt a0 0)) = true := decide_eq_true c10
                  clear c10
                  (first | rw [c10b0] | (simp only [i64_w, i32_w]; rw [c10b0]) | skip)
                  have H' := Aside0.mk H
                  clear H
                  go_wp2
                  go_meet
                  case rel => exact ⟨_, (decide ((bt a0 0) < 240)), (by first | rfl | (simp; done) | (simp [*]; done)), H', ⟨by have := HJ5.out; first | omega | exact Nat.le_refl _⟩, by repeat (first | exact Drawn0.refl _ | apply Drawn0.step)⟩
                · rw [if_neg c10] at H
                  have c10b0 : decide (224 ≤ (bt a0 0)) = false := decide_eq_false c10
                  clear c10
                  (first | rw [c10b0] | (simp only [i64_w, i32_w]; rw [c10b0]) | skip)
                  have H' := Aside0.mk H
                  clear H
                  go_wp2
                  go_meet
                  case rel => exact ⟨_, (false), (by first | rfl | (simp; done) | (simp [*]; done)), H', ⟨by have := HJ5.out; first | omega | exact Nat.le_refl _⟩, by repeat (first | exact Drawn0.refl _ | apply Drawn0.step)⟩
              case rest =>
                clear HC9
                try clear c1
                try clear c2
                try clear c2b0
                try clear c2b1
                try clear p2
                try clear p3
                try clear q3
                try clear hx3
                try clear qi3
                try clear c5
                try clear c5b0
                try clear p6
                try clear c7
                try clear c7b0
                try clear c8
                try clear c10
                try clear c10b0
                try clear p2
                try clear p3
                try clear p6
                try clear q3
                obtain ⟨kq, x24_8, rfl, HA, HJ8, ⟨mc8, rfl⟩⟩ := hcut
                cases kq with
                | zero => exact absurd HA.out (by simp [parapetref9_runeAt.j1])
                | succ kj8 =>
                  have H := HA.out
                  clear HA
                  simp only [parapetref9_runeAt.j1] at H
                  by_cases c11 : x24_8 = true
                  · subst c11
                    have H1 : (parapetref9_runeAt.j2 kj8 a0 3 (Go.bits .and .i64 (wrap64 (bt a0 0)) 15) 2048) = some r := by rw [if_pos rfl] at H; exact H
                    clear H
                    have H := H1
                    clear H1
                    have H' := Aside0.mk H
                    clear H
                    go_wp2
                    go_meet
                    case rel => exact ⟨_, (3), (Go.bits .and .i64 (wrap64 (bt a0 0)) 15), (2048), (by first | rfl | (simp; done) | (simp [*]; done)), (by first | rfl | (simp; done) | (simp [*]; done)), (by first | rfl | (simp; done) | (simp [*]; done)), H', ⟨by have := HJ5.out; have := HJ8.out; first | omega | exact Nat.le_refl _⟩, by repeat (first | exact Drawn0.refl _ | apply Drawn0.step)⟩
                  · replace c11 := Bool.eq_false_iff.mpr c11
                    subst c11
                    have H1 : (if (bt a0 0) ≥ 240 then (if (bt a0 0) < 245 then (parapetref9_runeAt.j2 kj8 a0 4 (Go.bits .and .i64 (wrap64 (bt a0 0)) 7) 65536) else (some 0)) else (some 0)) = some r := by rw [if_neg (show ¬ (false = true) by decide)] at H; exact H
                    clear H
                    have H := H1
                    clear H1
                    by_cases c12 : (bt a0 0) ≥ 240
                    · rw [if_pos c12] at H
                      have c12b0 : decide (240 ≤ (bt a0 0)) = true := decide_eq_true c12
                      clear c12
                      by_cases c13 : (bt a0 0) < 245
                      · rw [if_pos c13] at H
                        have c13b0 : decide ((bt a0 0) < 245) = true := decide_eq_true c13
                        clear c13
                        have H' := Aside0.mk H
                        clear H
                        go_wp2
                        go_meet
                        case rel => exact ⟨_, (4), (Go.bits .and .i64 (wrap64 (bt a0 0)) 7), (65536), (by first | rfl | (simp; done) | (simp [*]; done)), (by first | rfl | (simp; done) | (simp [*]; done)), (by first | rfl | (simp; done) | (simp [*]; done)), H', ⟨by have := HJ5.out; have := HJ8.out; first | omega | exact Nat.le_refl _⟩, by repeat (first | exact Drawn0.refl _ | apply Drawn0.step)⟩
                      · rw [if_neg c13] at H
                        have c13b0 : decide ((bt a0 0) < 245) = false := decide_eq_false c13
                        clear c13
                        obtain rfl := Option.some.inj H
                        go_wp2
                        go_ret
                        exact ⟨by first | rfl | (simp; done) | (simp [*]; done), by repeat (first | exact Drawn0.refl _ | apply Drawn0.step)⟩
                    · rw [if_neg c12] at H
                      have c12b0 : decide (240 ≤ (bt a0 0)) = false := decide_eq_false c12
                      clear c12
                      obtain rfl := Option.some.inj H
                      go_wp2
                      go_ret
                      exact ⟨by first | rfl | (simp; done) | (simp [*]; done), by repeat (first | exact Drawn0.refl _ | apply Drawn0.step)⟩
    case rest =>
      clear HC4
      try clear c1
      try clear c2
      try clear c2b0
      try clear c2b1
      try clear p2
      try clear p3
      try clear q3
      try clear hx3
      try clear qi3
      try clear c5
      try clear c5b0
      try clear p6
      try clear c7
      try clear c7b0
      try clear c8
      try clear c10
      try clear c10b0
      try clear c11
      try clear c12
      try clear c12b0
      try clear c13
      try clear c13b0
      try clear p2
      try clear p3
      try clear p6
      try clear q3
      obtain ⟨kq, x4_3, x5_3, x6_3, rfl, rfl, rfl, HA, HJ3, ⟨mc3, rfl⟩⟩ := hcut
      cases kq with
      | zero => exact absurd HA.out (by simp [parapetref9_runeAt.j2])
      | succ kj3 =>
        have H := HA.out
        clear HA
        simp only [parapetref9_runeAt.j2] at H
        by_cases c14 : (a0.size : Int) < x4_3
        · rw [if_pos c14] at H
          have c14b0 : decide ((a0.size : Int) < x4_3) = true := decide_eq_true c14
          clear c14
          obtain rfl := Option.some.inj H
          go_wp2
          go_ret
          exact ⟨by first | rfl | (simp; done) | (simp [*]; done), by repeat (first | exact Drawn0.refl _ | apply Drawn0.step)⟩
        · rw [if_neg c14] at H
          have c14b0 : decide ((a0.size : Int) < x4_3) = false := decide_eq_false c14
          clear c14
          have H' := Aside0.mk H
          clear H
          go_wp2
          go_loopg [5, 7] kj3 (fun kq v5 v7 w' => ∃ (x5_2 : Int) (x7_2 : Int), v5 = .int .i64 x5_2 ∧ v7 = .int .i64 x7_2 ∧ Aside0 (parapetref9_runeAt.l0 kq a0 x4_3 x5_2 x6_3 x7_2 = some r) ∧ Aside0 (kq ≤ kj3) ∧ Drawn0 w w')
          case atStart => exact ⟨(x5_3), (1), (by first | rfl | (simp; done) | (simp [*]; done)), (by first | rfl | (simp; done) | (simp [*]; done)), H', ⟨Nat.le_refl _⟩, by repeat (first | exact Drawn0.refl _ | apply Drawn0.step)⟩
          case round =>
            clear H'
            try clear c1
            try clear c2
            try clear c2b0
            try clear c2b1
            try clear p2
            try clear c3
            try clear p3
            try clear q3
            try clear hx3
            try clear qi3
            try clear c5
            try clear c5b0
            try clear p6
            try clear c7
            try clear c7b0
            try clear c8
            try clear c10
            try clear c10b0
            try clear c11
            try clear c12
            try clear c12b0
            try clear c13
            try clear c13b0
            try clear c14
            try clear c14b0
            try clear p2
            try clear p3
            try clear p6
            try clear q3
            obtain ⟨x5_2, x7_2, rfl, rfl, HA, HK2, ⟨m2, rfl⟩⟩ := hrel
            cases gk with
            | zero => exact absurd HA.out (by simp [parapetref9_runeAt.l0])
            | succ k2 =>
              have H := HA.out
              clear HA
              simp only [parapetref9_runeAt.l0] at H
              by_cases c15 : x7_2 < x4_3
              · rw [if_pos c15] at H
                have c15b0 : decide (x7_2 < x4_3) = true := decide_eq_true c15
                clear c15
                by_cases c16 : 0 ≤ x7_2
                · rw [if_pos c16] at H
                  have c16b0 : decide (0 ≤ x7_2) = true := decide_eq_true c16
                  clear c16
                  by_cases c17 : x7_2 < (a0.size : Int)
                  · rw [if_pos c17] at H
                    have c17b0 : decide (x7_2 < (a0.size : Int)) = true := decide_eq_true c17
                    clear c17
                    by_cases c19 : (Go.bits .and .u8 (bt a0 x7_2) 192) = 128
                    · rw [if_pos c19] at H
                      have c19b0 : ((Go.bits .and .u8 (bt a0 x7_2) 192) == 128) = true := beq_iff_eq.mpr c19
                      have c19b1 : ((Go.bits .and .u8 (bt a0 x7_2) 192) != 128) = false := bne_eq_false_iff_eq.mpr c19
                      clear c19
                      have H' := Aside0.mk H
                      clear H
                      have p18 : 0 ≤ (x7_2 : Int) := of_decide_eq_true (by first | (with_reducible assumption) | assumption)
                      have q18 : x7_2 < (a0.size : Int) := of_decide_eq_true (by first | (with_reducible assumption) | assumption)
                      have hx18 := bt_at a0 x7_2
                      replace p18 := eq_true p18
                      replace q18 := eq_true q18
                      have p20 : 0 ≤ (x7_2 : Int) := of_decide_eq_true (by first | (with_reducible assumption) | assumption)
                      have q20 : x7_2 < (a0.size : Int) := of_decide_eq_true (by first | (with_reducible assumption) | assumption)
                      have hx20 := bt_at a0 x7_2
                      replace p20 := eq_true p20
                      replace q20 := eq_true q20
                      go_wp2
                      go_roundg k2
                      case measure => have := HJ3.out; have := HK2.out; omega
                      case rel => exact ⟨(Go.bits .or .i64 (wrap64 (x5_2 * 64)) (wrap64 (Go.bits .and .u8 (bt a0 x7_2) 63))), (wrap64 (x7_2 + 1)), (by first | rfl | (simp; done) | (simp [*]; done)), (by first | rfl | (simp; done) | (simp [*]; done)), H', ⟨by have := HJ3.out; have := HK2.out; omega⟩, by repeat (first | exact Drawn0.refl _ | apply Drawn0.step)⟩
                    · rw [if_neg c19] at H
                      have c19b0 : ((Go.bits .and .u8 (bt a0 x7_2) 192) == 128) = false := beq_eq_false_iff_ne.mpr c19
                      have c19b1 : ((Go.bits .and .u8 (bt a0 x7_2) 192) != 128) = true := bne_iff_ne.mpr c19
                      obtain rfl := Option.some.inj H
                      have p18 : 0 ≤ (x7_2 : Int) := of_decide_eq_true (by first | (with_reducible assumption) | assumption)
                      have q18 : x7_2 < (a0.size : Int) := of_decide_eq_true (by first | (with_reducible assumption) | assumption)
                      have hx18 := bt_at a0 x7_2
                      replace p18 := eq_true p18
                      replace q18 := eq_true q18
                      go_wp2
                      go_ret
                      exact ⟨by first | rfl | (simp; done) | (simp [*]; done), by repeat (first | exact Drawn0.refl _ | apply Drawn0.step)⟩
                  · rw [if_neg c17] at H
                    exact absurd H (by simp)
                · rw [if_neg c16] at H
                  exact absurd H (by simp)
              · rw [if_neg c15] at H
                have c15b0 : decide (x7_2 < x4_3) = false := decide_eq_false c15
                clear c15
                by_cases c21 : x5_2 < x6_3
                · rw [if_pos c21] at H
                  have c21b0 : decide (x5_2 < x6_3) = true := decide_eq_true c21
                  clear c21
                  obtain rfl := Option.some.inj H
                  go_wp2
                  go_ret
                  exact ⟨by first | rfl | (simp; done) | (simp [*]; done), by repeat (first | exact Drawn0.refl _ | apply Drawn0.step)⟩
                · rw [if_neg c21] at H
                  have c21b0 : decide (x5_2 < x6_3) = false := decide_eq_false c21
                  clear c21
                  by_cases c22 : x5_2 > 1114111
                  · rw [if_pos c22] at H
                    have c22b0 : decide (1114111 < x5_2) = true := decide_eq_true c22
                    clear c22
                    obtain rfl := Option.some.inj H
                    go_wp2
                    go_ret
                    exact ⟨by first | rfl | (simp; done) | (simp [*]; done), by repeat (first | exact Drawn0.refl _ | apply Drawn0.step)⟩
                  · rw [if_neg c22] at H
                    have c22b0 : decide (1114111 < x5_2) = false := decide_eq_false c22
                    clear c22
                    by_cases c23 : x5_2 ≥ 55296
                    · rw [if_pos c23] at H
                      have c23b0 : decide (55296 ≤ x5_2) = true := decide_eq_true c23
                      clear c23
                      by_cases c24 : x5_2 ≤ 57343
                      · rw [if_pos c24] at H
                        have c24b0 : decide (x5_2 ≤ 57343) = true := decide_eq_true c24
                        clear c24
                        obtain rfl := Option.some.inj H
                        go_wp2
                        go_ret
                        exact ⟨by first | rfl | (simp; done) | (simp [*]; done), by repeat (first | exact Drawn0.refl _ | apply Drawn0.step)⟩
                      · rw [if_neg c24] at H
                        have c24b0 : decide (x5_2 ≤ 57343) = false := decide_eq_false c24
                        clear c24
                        obtain rfl := Option.some.inj H
                        go_wp2
                        go_ret
                        exact ⟨by first | rfl | (simp; done) | (simp [*]; done), by repeat (first | exact Drawn0.refl _ | apply Drawn0.step)⟩
                    · rw [if_neg c23] at H
                      have c23b0 : decide (55296 ≤ x5_2) = false := decide_eq_false c23
                      clear c23
                      obtain rfl := Option.some.inj H
                      go_wp2
                      go_ret
                      exact ⟨by first | rfl | (simp; done) | (simp [*]; done), by repeat (first | exact Drawn0.refl _ | apply Drawn0.step)⟩
  · rw [if_neg c2] at H
    exact absurd H (by simp)
def parapetref9_Broken.l0 : Nat → ByteArray → Int → Option (Int)
  | 0, _, _ => none
  | k + 1, x0, x3 => if x3 < (x0.size : Int) then (if 0 ≤ x3 then (if x3 ≤ (x0.size : Int) then ((parapetref9_runeAt.f k (x0.extract (x3 : Int).toNat x0.size)).bind fun t356 => (if t356 = 0 then (some x3) else (parapetref9_Broken.l0 k x0 (wrap64 (x3 + t356))))) else (none)) else (none)) else (some (x0.size : Int))
def parapetref9_Broken.f (k : Nat) (a0 : ByteArray) : Option (Int) := parapetref9_Broken.l0 k a0 0
theorem parapetref9_Broken.mono_l : ∀ k, (∀ y0 y1, LeO (parapetref9_Broken.l0 k y0 y1) (parapetref9_Broken.l0 (k + 1) y0 y1))
  | 0 => fun _ _ r h => by simp [parapetref9_Broken.l0] at h
  | k + 1 => by
    have ih0 := parapetref9_Broken.mono_l k
    · intro y0 y1
      unfold parapetref9_Broken.l0
      repeat' first
      | (with_reducible exact ih0 _ _)
      | (with_reducible exact parapetref9_runeAt.mono _ _)
      | (with_reducible exact LeO.refl _)
      | (with_reducible exact LeO.none _)
      | (with_reducible refine LeO.ite ?_ ?_)
      | (with_reducible refine LeO.bind ?_ (fun _ => ?_))
      | exact ih0 _ _
      | exact parapetref9_runeAt.mono _ _
      | exact LeO.none _
      | refine LeO.ite ?_ ?_
      | refine LeO.bind ?_ (fun _ => ?_)
theorem parapetref9_Broken.mono : ∀ a0 k, LeO (parapetref9_Broken.f k a0) (parapetref9_Broken.f (k + 1) a0) := by
  intro a0 k
  have ih0 := parapetref9_Broken.mono_l k
  unfold parapetref9_Broken.f
  repeat' first
      | (with_reducible exact ih0 _ _)
      | (with_reducible exact parapetref9_runeAt.mono _ _)
      | (with_reducible exact LeO.refl _)
      | (with_reducible exact LeO.none _)
      | (with_reducible refine LeO.ite ?_ ?_)
      | (with_reducible refine LeO.bind ?_ (fun _ => ?_))
      | exact ih0 _ _
      | exact parapetref9_runeAt.mono _ _
      | exact LeO.none _
      | refine LeO.ite ?_ ?_
      | refine LeO.bind ?_ (fun _ => ?_)
set_option maxHeartbeats 8000000 in
set_option maxRecDepth 100000 in
theorem parapetref9_Broken.calls (k : Nat) (a0 : ByteArray) (r : Int) (w : World) (h : parapetref9_Broken.f k a0 = some r) :
    Calls Tryd.prog 51 #[.string a0] w fun e w' => e = .returned (.int .i64 r) ∧ Drawn0 w w' := by
  have H : (parapetref9_Broken.l0 k a0 0) = some r := h
  clear h
  have H' := Aside0.mk H
  clear H
  go_enter Tryd.func51, Tryd.ntmps51
  go_wp2
  go_loopg [3] k (fun kq v3 w' => ∃ (x3_1 : Int), v3 = .int .i64 x3_1 ∧ Aside0 (parapetref9_Broken.l0 kq a0 x3_1 = some r) ∧ Aside0 (kq ≤ k) ∧ Drawn0 w w')
  case atStart => exact ⟨(0), (by first | rfl | (simp; done) | (simp [*]; done)), H', ⟨Nat.le_refl _⟩, by repeat (first | exact Drawn0.refl _ | apply Drawn0.step)⟩
  case round =>
    clear H'
    obtain ⟨x3_1, rfl, HA, HK1, ⟨m1, rfl⟩⟩ := hrel
    cases gk with
    | zero => exact absurd HA.out (by simp [parapetref9_Broken.l0])
    | succ k1 =>
      have H := HA.out
      clear HA
      simp only [parapetref9_Broken.l0] at H
      by_cases c2 : x3_1 < (a0.size : Int)
      · rw [if_pos c2] at H
        have c2b0 : decide (x3_1 < (a0.size : Int)) = true := decide_eq_true c2
        clear c2
        by_cases c3 : 0 ≤ x3_1
        · rw [if_pos c3] at H
          have c3b0 := eq_true c3
          have c3b1 : decide (0 ≤ x3_1) = true := decide_eq_true c3
          clear c3
          by_cases c4 : x3_1 ≤ (a0.size : Int)
          · rw [if_pos c4] at H
            have c4b0 := eq_true c4
            have c4b1 : decide (x3_1 ≤ (a0.size : Int)) = true := decide_eq_true c4
            clear c4
            replace H := Option.bind_eq_some_iff.mp H
            obtain ⟨t356, A50, H⟩ := H
            replace H : (if t356 = 0 then (some x3_1) else (parapetref9_Broken.l0 k1 a0 (wrap64 (x3_1 + t356)))) = some r := H
            have A5 := Aside0.mk A50
            clear A50
            by_cases c6 : t356 = 0
            · rw [if_pos c6] at H
              have c6b0 : (t356 == 0) = true := beq_iff_eq.mpr c6
              have c6b1 : (t356 != 0) = false := bne_eq_false_iff_eq.mpr c6
              clear c6
              obtain rfl := Option.some.inj H
              go_wp2_with (first | ((with_reducible refine gate_callee (f := 73) rfl ?_); refine goesL_ (some 12) rfl rfl Tryd.func73 (by kernel_rfl) rfl #[.string (a0.extract (x3_1 : Int).toNat a0.size)] rfl (by (try simp only [List.map_toArray, List.map_cons, List.map_nil]); first | done | rfl | (simp only [List.length_drop, List.length_take]; rfl)) ?_; (with_reducible refine (parapetref9_runeAt.calls k1 (a0.extract (x3_1 : Int).toNat a0.size) t356 _ A5.out).mono ?_); rintro e w' ⟨rfl, ⟨nd, rfl⟩⟩; refine ⟨_, rfl, ?_⟩))
              go_ret
              exact ⟨by first | rfl | (simp; done) | (simp [*]; done), by repeat (first | exact Drawn0.refl _ | apply Drawn0.step)⟩
            · rw [if_neg c6] at H
              have c6b0 : (t356 == 0) = false := beq_eq_false_iff_ne.mpr c6
              have c6b1 : (t356 != 0) = true := bne_iff_ne.mpr c6
              have H' := Aside0.mk H
              clear H
              go_wp2_with (first | ((with_reducible refine gate_callee (f := 73) rfl ?_); refine goesL_ (some 12) rfl rfl Tryd.func73 (by kernel_rfl) rfl #[.string (a0.extract (x3_1 : Int).toNat a0.size)] rfl (by (try simp only [List.map_toArray, List.map_cons, List.map_nil]); first | done | rfl | (simp only [List.length_drop, List.length_take]; rfl)) ?_; (with_reducible refine (parapetref9_runeAt.calls k1 (a0.extract (x3_1 : Int).toNat a0.size) t356 _ A5.out).mono ?_); rintro e w' ⟨rfl, ⟨nd, rfl⟩⟩; refine ⟨_, rfl, ?_⟩))
              go_roundg k1
              case measure => have := HK1.out; omega
              case rel => exact ⟨(wrap64 (x3_1 + t356)), (by first | rfl | (simp; done) | (simp [*]; done)), H', ⟨by have := HK1.out; omega⟩, by repeat (first | exact Drawn0.refl _ | apply Drawn0.step)⟩
          · rw [if_neg c4] at H
            exact absurd H (by simp)
        · rw [if_neg c3] at H
          exact absurd H (by simp)
      · rw [if_neg c2] at H
        have c2b0 : decide (x3_1 < (a0.size : Int)) = false := decide_eq_false c2
        clear c2
        obtain rfl := Option.some.inj H
        go_wp2
        go_ret
        exact ⟨by first | rfl | (simp; done) | (simp [*]; done), by repeat (first | exact Drawn0.refl _ | apply Drawn0.step)⟩
def parapetref1_Letter.f (a0 : Int) : Option (Bool) := if a0 ≥ 97 then (if a0 ≤ 122 then (some true) else (if a0 ≥ 65 then (some (decide (a0 ≤ 90))) else (some false))) else (if a0 ≥ 65 then (some (decide (a0 ≤ 90))) else (some false))
set_option maxHeartbeats 8000000 in
set_option maxRecDepth 100000 in
theorem parapetref1_Letter.calls (a0 : Int) (r : Bool) (w : World) (h : parapetref1_Letter.f a0 = some r) :
    Calls Tryd.prog 84 #[.int .u8 a0] w fun e w' => e = .returned (.bool r) ∧ Drawn0 w w' := by
  have H : (if a0 ≥ 97 then (if a0 ≤ 122 then (some true) else (if a0 ≥ 65 then (some (decide (a0 ≤ 90))) else (some false))) else (if a0 ≥ 65 then (some (decide (a0 ≤ 90))) else (some false))) = some r := h
  clear h
  by_cases c2 : a0 ≥ 97
  · rw [if_pos c2] at H
    have c2b0 : decide (97 ≤ a0) = true := decide_eq_true c2
    clear c2
    by_cases c3 : a0 ≤ 122
    · rw [if_pos c3] at H
      have c3b0 : decide (a0 ≤ 122) = true := decide_eq_true c3
      clear c3
      obtain rfl := Option.some.inj H
      go_enter Tryd.func84, Tryd.ntmps84
      go_wp2
      go_ret
      exact ⟨by first | rfl | (simp; done) | (simp [*]; done), by repeat (first | exact Drawn0.refl _ | apply Drawn0.step)⟩
    · rw [if_neg c3] at H
      have c3b0 : decide (a0 ≤ 122) = false := decide_eq_false c3
      clear c3
      by_cases c4 : a0 ≥ 65
      · rw [if_pos c4] at H
        have c4b0 : decide (65 ≤ a0) = true := decide_eq_true c4
        clear c4
        obtain rfl := Option.some.inj H
        go_enter Tryd.func84, Tryd.ntmps84
        go_wp2
        go_ret
        exact ⟨by first | rfl | (simp; done) | (simp [*]; done), by repeat (first | exact Drawn0.refl _ | apply Drawn0.step)⟩
      · rw [if_neg c4] at H
        have c4b0 : decide (65 ≤ a0) = false := decide_eq_false c4
        clear c4
        obtain rfl := Option.some.inj H
        go_enter Tryd.func84, Tryd.ntmps84
        go_wp2
        go_ret
        exact ⟨by first | rfl | (simp; done) | (simp [*]; done), by repeat (first | exact Drawn0.refl _ | apply Drawn0.step)⟩
  · rw [if_neg c2] at H
    have c2b0 : decide (97 ≤ a0) = false := decide_eq_false c2
    clear c2
    by_cases c5 : a0 ≥ 65
    · rw [if_pos c5] at H
      have c5b0 : decide (65 ≤ a0) = true := decide_eq_true c5
      clear c5
      obtain rfl := Option.some.inj H
      go_enter Tryd.func84, Tryd.ntmps84
      go_wp2
      go_ret
      exact ⟨by first | rfl | (simp; done) | (simp [*]; done), by repeat (first | exact Drawn0.refl _ | apply Drawn0.step)⟩
    · rw [if_neg c5] at H
      have c5b0 : decide (65 ≤ a0) = false := decide_eq_false c5
      clear c5
      obtain rfl := Option.some.inj H
      go_enter Tryd.func84, Tryd.ntmps84
      go_wp2
      go_ret
      exact ⟨by first | rfl | (simp; done) | (simp [*]; done), by repeat (first | exact Drawn0.refl _ | apply Drawn0.step)⟩
def parapetref1_Digit.f (a0 : Int) : Option (Bool) := if a0 ≥ 48 then (some (decide (a0 ≤ 57))) else (some false)
set_option maxHeartbeats 8000000 in
set_option maxRecDepth 100000 in
theorem parapetref1_Digit.calls (a0 : Int) (r : Bool) (w : World) (h : parapetref1_Digit.f a0 = some r) :
    Calls Tryd.prog 85 #[.int .u8 a0] w fun e w' => e = .returned (.bool r) ∧ Drawn0 w w' := by
  have H : (if a0 ≥ 48 then (some (decide (a0 ≤ 57))) else (some false)) = some r := h
  clear h
  by_cases c2 : a0 ≥ 48
  · rw [if_pos c2] at H
    have c2b0 : decide (48 ≤ a0) = true := decide_eq_true c2
    clear c2
    obtain rfl := Option.some.inj H
    go_enter Tryd.func85, Tryd.ntmps85
    go_wp2
    go_ret
    exact ⟨by first | rfl | (simp; done) | (simp [*]; done), by repeat (first | exact Drawn0.refl _ | apply Drawn0.step)⟩
  · rw [if_neg c2] at H
    have c2b0 : decide (48 ≤ a0) = false := decide_eq_false c2
    clear c2
    obtain rfl := Option.some.inj H
    go_enter Tryd.func85, Tryd.ntmps85
    go_wp2
    go_ret
    exact ⟨by first | rfl | (simp; done) | (simp [*]; done), by repeat (first | exact Drawn0.refl _ | apply Drawn0.step)⟩
end Go.Proofs.YtngedmioeodmfaaDoor.Pr
namespace Go.Proofs.YtngedmioeodmfaaDoor.Pu
open Go.RowKit Go.Proofs.YtngedmioeodmfaaDoor.Pr Go.Proofs.YtngedmioeodmfaaDoorW.PrintWords
set_option linter.unusedVariables false
set_option linter.unusedSimpArgs false
/-- How many bytes the rune has that begins b0 b1 b2 b3, of n bytes; 0: it is none. -/
def runeLen (n b0 b1 b2 b3 : Int) : Int :=
  if b0 < 128 then 1
  else if b0 < 194 then 0
  else if b0 < 224 then (if 2 ≤ n ∧ 128 ≤ b1 ∧ b1 < 192 then 2 else 0)
  else if b0 < 240 then (if 3 ≤ n ∧ 128 ≤ b1 ∧ b1 < 192 ∧ 128 ≤ b2 ∧ b2 < 192 ∧ 2048 ≤ (b0 % 16 * 64 + b1 % 64) * 64 + b2 % 64 ∧ ¬ (55296 ≤ (b0 % 16 * 64 + b1 % 64) * 64 + b2 % 64 ∧ (b0 % 16 * 64 + b1 % 64) * 64 + b2 % 64 ≤ 57343) then 3 else 0)
  else if b0 < 245 then (if 4 ≤ n ∧ 128 ≤ b1 ∧ b1 < 192 ∧ 128 ≤ b2 ∧ b2 < 192 ∧ 128 ≤ b3 ∧ b3 < 192 ∧ 65536 ≤ ((b0 % 8 * 64 + b1 % 64) * 64 + b2 % 64) * 64 + b3 % 64 ∧ ((b0 % 8 * 64 + b1 % 64) * 64 + b2 % 64) * 64 + b3 % 64 ≤ 1114111 then 4 else 0)
  else 0
/-- How many bytes the rune has by the library's decoder; 0: it is none. -/
def runeD (l : List UInt8) : Nat := if (Go.Lib.decodeL l).1 = 65533 ∧ (Go.Lib.decodeL l).2 = 1 then 0 else (Go.Lib.decodeL l).2
theorem runeN (n b0 b1 b2 b3 : Nat) (h1 : b1 < 256) (h2 : b2 < 256) (h3 : b3 < 256) (h0 : b0 < 256) (hn : 0 < n) :
    ((if (Go.Lib.decodeN n b0 b1 b2 b3).1 = 65533 ∧ (Go.Lib.decodeN n b0 b1 b2 b3).2 = 1 then 0 else (Go.Lib.decodeN n b0 b1 b2 b3).2 : Nat) : Int) = runeLen n b0 b1 b2 b3 := by
  unfold runeLen
  by_cases a1 : b0 < 128
  · have e : Go.Lib.decodeN n b0 b1 b2 b3 = (b0, 1) := by unfold Go.Lib.decodeN; rw [if_pos a1]
    rw [e, if_neg (by simp only; omega), if_pos (by omega)]; rfl
  rw [if_neg (show ¬ (b0 : Int) < 128 by omega)]
  by_cases a2 : b0 < 194
  · have e : Go.Lib.decodeN n b0 b1 b2 b3 = (65533, 1) := by
      unfold Go.Lib.decodeN
      rw [if_neg a1]
      by_cases q : b0 / 32 = 6 ∧ (1 < n ∧ b1 / 64 = 2)
      · rw [if_pos q, if_neg (by omega)]
      · rw [if_neg q, if_neg (by omega), if_neg (by omega)]
    rw [e, if_pos ⟨rfl, rfl⟩, if_pos (by omega)]; rfl
  rw [if_neg (show ¬ (b0 : Int) < 194 by omega)]
  by_cases a3 : b0 < 224
  · rw [if_pos (show (b0 : Int) < 224 by omega)]
    by_cases q : 2 ≤ n ∧ 128 ≤ b1 ∧ b1 < 192
    · have e : Go.Lib.decodeN n b0 b1 b2 b3 = (b0 % 32 * 64 + b1 % 64, 2) := by
        unfold Go.Lib.decodeN; rw [if_neg a1, if_pos (by omega), if_pos (by omega)]
      rw [e, if_neg (by simp), if_pos (by omega)]; rfl
    · have e : Go.Lib.decodeN n b0 b1 b2 b3 = (65533, 1) := by
        unfold Go.Lib.decodeN; rw [if_neg a1, if_neg (by omega), if_neg (by omega), if_neg (by omega)]
      rw [e, if_pos ⟨rfl, rfl⟩, if_neg (by omega)]; rfl
  rw [if_neg (show ¬ (b0 : Int) < 224 by omega)]
  by_cases a4 : b0 < 240
  · rw [if_pos (show (b0 : Int) < 240 by omega)]
    by_cases q : 3 ≤ n ∧ 128 ≤ b1 ∧ b1 < 192 ∧ 128 ≤ b2 ∧ b2 < 192
    · by_cases q2 : 2048 ≤ b0 % 16 * 4096 + b1 % 64 * 64 + b2 % 64 ∧ ¬ (55296 ≤ b0 % 16 * 4096 + b1 % 64 * 64 + b2 % 64 ∧ b0 % 16 * 4096 + b1 % 64 * 64 + b2 % 64 ≤ 57343)
      · have e : Go.Lib.decodeN n b0 b1 b2 b3 = (b0 % 16 * 4096 + b1 % 64 * 64 + b2 % 64, 3) := by
          unfold Go.Lib.decodeN; rw [if_neg a1, if_neg (by omega), if_pos (by omega), if_pos (by omega)]
        rw [e, if_neg (by simp), if_pos (by omega)]; rfl
      · have e : Go.Lib.decodeN n b0 b1 b2 b3 = (65533, 1) := by
          unfold Go.Lib.decodeN; rw [if_neg a1, if_neg (by omega), if_pos (by omega), if_neg (by omega)]
        rw [e, if_pos ⟨rfl, rfl⟩, if_neg (by omega)]; rfl
    · have e : Go.Lib.decodeN n b0 b1 b2 b3 = (65533, 1) := by
        unfold Go.Lib.decodeN; rw [if_neg a1, if_neg (by omega), if_neg (by omega), if_neg (by omega)]
      rw [e, if_pos ⟨rfl, rfl⟩, if_neg (by omega)]; rfl
  rw [if_neg (show ¬ (b0 : Int) < 240 by omega)]
  by_cases a5 : b0 < 245
  · rw [if_pos (show (b0 : Int) < 245 by omega)]
    by_cases q : 4 ≤ n ∧ 128 ≤ b1 ∧ b1 < 192 ∧ 128 ≤ b2 ∧ b2 < 192 ∧ 128 ≤ b3 ∧ b3 < 192
    · by_cases q2 : 65536 ≤ b0 % 8 * 262144 + b1 % 64 * 4096 + b2 % 64 * 64 + b3 % 64 ∧ b0 % 8 * 262144 + b1 % 64 * 4096 + b2 % 64 * 64 + b3 % 64 ≤ 1114111
      · have e : Go.Lib.decodeN n b0 b1 b2 b3 = (b0 % 8 * 262144 + b1 % 64 * 4096 + b2 % 64 * 64 + b3 % 64, 4) := by
          unfold Go.Lib.decodeN; rw [if_neg a1, if_neg (by omega), if_neg (by omega), if_pos (by omega), if_pos (by omega)]
        rw [e, if_neg (by simp), if_pos (by omega)]; rfl
      · have e : Go.Lib.decodeN n b0 b1 b2 b3 = (65533, 1) := by
          unfold Go.Lib.decodeN; rw [if_neg a1, if_neg (by omega), if_neg (by omega), if_pos (by omega), if_neg (by omega)]
        rw [e, if_pos ⟨rfl, rfl⟩, if_neg (by omega)]; rfl
    · have e : Go.Lib.decodeN n b0 b1 b2 b3 = (65533, 1) := by
        unfold Go.Lib.decodeN; rw [if_neg a1, if_neg (by omega), if_neg (by omega), if_neg (by omega)]
      rw [e, if_pos ⟨rfl, rfl⟩, if_neg (by omega)]; rfl
  · rw [if_neg (show ¬ (b0 : Int) < 245 by omega)]
    have e : Go.Lib.decodeN n b0 b1 b2 b3 = (65533, 1) := by
      unfold Go.Lib.decodeN
      rw [if_neg a1, if_neg (by omega), if_neg (by omega)]
      by_cases q : b0 / 8 = 30 ∧ (1 < n ∧ b1 / 64 = 2) ∧ (2 < n ∧ b2 / 64 = 2) ∧ (3 < n ∧ b3 / 64 = 2)
      · rw [if_pos q, if_neg (by omega)]
      · rw [if_neg q]
    rw [e, if_pos ⟨rfl, rfl⟩]; rfl
theorem bt_getD (x : ByteArray) (j : Nat) : bt x (j : Int) = ((x.data.toList.getD j 0).toNat : Int) := by
  unfold bt
  rw [Int.toNat_natCast]
  by_cases h : j < x.size
  · have h2 : j < x.data.toList.length := by rw [data_length]; exact h
    rw [dif_pos h, List.getD_eq_getElem?_getD, List.getElem?_eq_getElem h2]; rfl
  · have h2 : ¬ j < x.data.toList.length := by rw [data_length]; exact h
    rw [dif_neg h, List.getD_eq_getElem?_getD, List.getElem?_eq_none (by omega)]; rfl
theorem runeD_eq (x : ByteArray) (h : 0 < x.size) : (runeD x.data.toList : Int) = runeLen x.size (bt x 0) (bt x 1) (bt x 2) (bt x 3) := by
  unfold runeD
  rw [Go.Lib.decodeL_N]
  have := runeN x.data.toList.length (x.data.toList.getD 0 0).toNat (x.data.toList.getD 1 0).toNat (x.data.toList.getD 2 0).toNat (x.data.toList.getD 3 0).toNat (UInt8.toNat_lt _) (UInt8.toNat_lt _) (UInt8.toNat_lt _) (UInt8.toNat_lt _) (by rw [data_length]; exact h)
  rw [this, data_length, ← bt_getD x 0, ← bt_getD x 1, ← bt_getD x 2, ← bt_getD x 3]; rfl
/-- How many bytes stand ahead of the first that is no UTF-8. -/
def brk : Nat → List UInt8 → Nat
  | 0, _ => 0
  | n + 1, l => if l = [] then 0 else if runeD l = 0 then 0 else runeD l + brk n (l.drop (runeD l))
def brkL (l : List UInt8) : Nat := brk l.length l
theorem runeD_le (l : List UInt8) (hne : l ≠ []) : runeD l ≤ l.length := by
  unfold runeD; split
  · omega
  · exact Go.Lib.decodeL_le l hne
theorem brk_le : ∀ (n : Nat) (l : List UInt8), brk n l ≤ l.length := by
  intro n
  induction n with
  | zero => intro l; simp [brk]
  | succ n ih =>
    intro l
    rw [brk]
    split
    · omega
    · rename_i hne
      split
      · omega
      · have h1 := runeD_le l hne
        have h2 := ih (l.drop (runeD l))
        rw [List.length_drop] at h2
        omega
theorem brk_more : ∀ (n m : Nat) (l : List UInt8), l.length ≤ n → l.length ≤ m → brk n l = brk m l := by
  intro n
  induction n with
  | zero => intro m l h _; have : l = [] := List.length_eq_zero_iff.1 (by omega); subst this; cases m <;> simp [brk]
  | succ n ih =>
    intro m l h hm
    cases m with
    | zero => have : l = [] := List.length_eq_zero_iff.1 (by omega); subst this; simp [brk]
    | succ m =>
      rw [brk, brk]
      by_cases hne : l = []
      · rw [if_pos hne, if_pos hne]
      · rw [if_neg hne, if_neg hne]
        by_cases h0 : runeD l = 0
        · rw [if_pos h0, if_pos h0]
        · rw [if_neg h0, if_neg h0, ih m _ (by rw [List.length_drop]; omega) (by rw [List.length_drop]; omega)]
theorem brkL_step (l : List UInt8) (hne : l ≠ []) : brkL l = if runeD l = 0 then 0 else runeD l + brkL (l.drop (runeD l)) := by
  unfold brkL
  cases hl : l.length with
  | zero => exact absurd (List.length_eq_zero_iff.1 hl) hne
  | succ n =>
    rw [brk, if_neg hne]
    by_cases h0 : runeD l = 0
    · rw [if_pos h0, if_pos h0]
    · rw [if_neg h0, if_neg h0, brk_more n _ _ (by rw [List.length_drop]; omega) (Nat.le_refl _)]
theorem data_extract (x : ByteArray) (i : Nat) : (x.extract i x.size).data.toList = x.data.toList.drop i := by
  rw [ByteArray.data_extract, Array.toList_extract, List.extract_eq_take_drop]
  exact List.take_of_length_le (by rw [List.length_drop, data_length]; omega)
end Go.Proofs.YtngedmioeodmfaaDoor.Pu
namespace Go.Proofs.YtngedmioeodmfaaDoor.Pu
open Go.RowKit Go.Proofs.YtngedmioeodmfaaDoor.Pr Go.Proofs.YtngedmioeodmfaaDoorW.PrintWords Go.Proofs.YtngedmioeodmfaaDoor.Lx
set_option linter.unusedVariables false
set_option linter.unusedSimpArgs false
theorem decodeGo_L (x : ByteArray) (h : 0 < x.size) : Go.Lib.decodeGo x = Go.Lib.decodeL x.data.toList := by
  unfold Go.Lib.decodeGo
  rw [if_neg (by omega)]
  cases x with | mk d => cases d with | mk l => rfl
def wrongN (l : List UInt8) : Nat := if brkL l = l.length then l.length + 1 else brkL l
theorem wrong_loop (x : ByteArray) (hx : x.size ≤ 1000000) (d : Nat) : ∀ i : Nat, i ≤ x.size → x.size - i ≤ d → Ev (fun k => lex_wrong.l0 k x (i : Int)) ((if i + brkL (x.data.toList.drop i) = x.size then x.size + 1 else i + brkL (x.data.toList.drop i) : Nat) : Int) := by
  have stop : ∀ i : Nat, i ≤ x.size → ¬ i < x.size → Ev (fun k => lex_wrong.l0 k x (i : Int)) ((if i + brkL (x.data.toList.drop i) = x.size then x.size + 1 else i + brkL (x.data.toList.drop i) : Nat) : Int) := by
    intro i hi hn
    have : x.data.toList.drop i = [] := List.drop_eq_nil_of_le (by rw [data_length]; omega)
    rw [this]
    have hz : brkL ([] : List UInt8) = 0 := rfl
    rw [hz, if_pos (by omega)]
    refine Ev.step (f := fun _ => some (wrap64 ((x.size : Int) + 1))) (fun k => ?_) ((Ev.now _).eq (by rw [w64 (by omega) (by omega)]; omega))
    simp only [lex_wrong.l0]
    rw [if_neg (by omega)]
  induction d with
  | zero => intro i hi hd; exact stop i hi (by omega)
  | succ d ih =>
    intro i hi hd
    by_cases hlt : i < x.size
    · have hsz : (x.extract i x.size).size = x.size - i := by rw [← data_length, data_extract, List.length_drop, data_length]
      have hne : x.data.toList.drop i ≠ [] := by
        intro e; have := congrArg List.length e; rw [List.length_drop, data_length] at this; simp at this; omega
      have hle := runeD_le _ hne
      rw [List.length_drop, data_length] at hle
      have hdec : Go.Lib.decodeGo (x.extract i x.size) = Go.Lib.decodeL (x.data.toList.drop i) := by rw [decodeGo_L _ (by omega), data_extract]
      have hle2 := Go.Lib.decodeL_le _ hne
      rw [List.length_drop, data_length] at hle2
      have hw := Go.Lib.decodeL_width (x.data.toList.drop i)
      have hb := brkL_step _ hne
      have hrd : runeD (x.data.toList.drop i) = if (Go.Lib.decodeL (x.data.toList.drop i)).1 = 65533 ∧ (Go.Lib.decodeL (x.data.toList.drop i)).2 = 1 then 0 else (Go.Lib.decodeL (x.data.toList.drop i)).2 := rfl
      have hbl := brk_le (x.data.toList.drop i).length (x.data.toList.drop i)
      refine Ev.step (fun k => ?_) (Ev.some_bind (o := utf8_DecodeRuneInString.f (x.extract i x.size)) (a := (((Go.Lib.decodeL (x.data.toList.drop i)).1 : Int), ((Go.Lib.decodeL (x.data.toList.drop i)).2 : Int))) (f := fun k bt => if bt.1 = 65533 then (if bt.2 = 1 then some (i : Int) else lex_wrong.l0 k x (wrap64 ((i : Int) + bt.2))) else lex_wrong.l0 k x (wrap64 ((i : Int) + bt.2))) (by rw [utf8_DecodeRuneInString.f, hdec]) ?_)
      · simp only [lex_wrong.l0]
        rw [if_pos (by omega), if_pos (by omega), if_pos (by omega), Int.toNat_natCast]
      · simp only
        by_cases h0 : (Go.Lib.decodeL (x.data.toList.drop i)).1 = 65533 ∧ (Go.Lib.decodeL (x.data.toList.drop i)).2 = 1
        · rw [if_pos h0] at hrd
          rw [hrd, if_pos rfl] at hb
          rw [hb, if_neg (by omega)]
          refine Ev.step (f := fun _ => some (i : Int)) (fun k => ?_) ((Ev.now _).eq (by omega))
          rw [if_pos (by omega), if_pos (by omega)]
        · rw [if_neg h0] at hrd
          have h1 : runeD (x.data.toList.drop i) ≠ 0 := by omega
          rw [if_neg h1] at hb
          have hi2 := ih (i + (Go.Lib.decodeL (x.data.toList.drop i)).2) (by omega) (by omega)
          rw [← List.drop_drop, ← hrd] at hi2
          rw [hb]
          have e : ∀ k, (if (((Go.Lib.decodeL (x.data.toList.drop i)).1 : Nat) : Int) = 65533 then (if (((Go.Lib.decodeL (x.data.toList.drop i)).2 : Nat) : Int) = 1 then some (i : Int) else lex_wrong.l0 k x (wrap64 ((i : Int) + (((Go.Lib.decodeL (x.data.toList.drop i)).2 : Nat) : Int)))) else lex_wrong.l0 k x (wrap64 ((i : Int) + (((Go.Lib.decodeL (x.data.toList.drop i)).2 : Nat) : Int)))) = lex_wrong.l0 k x ((i + runeD (x.data.toList.drop i) : Nat) : Int) := by
            intro k
            rw [w64 (by omega) (by omega), ← hrd, Int.natCast_add]
            split
            · split
              · omega
              · rfl
            · rfl
          simp only [e]
          rw [Nat.add_assoc] at hi2
          exact hi2
    · exact stop i hi hlt
theorem wrong_ev (x : ByteArray) (hx : x.size ≤ 1000000) : Ev (fun k => lex_wrong.f k x) ((wrongN x.data.toList : Nat) : Int) := by
  have := wrong_loop x hx x.size 0 (by omega) (by omega)
  simp only [Nat.zero_add, List.drop_zero] at this
  unfold wrongN
  rw [data_length]
  exact this
/-- What Tokens hands back. -/
def tokM (x : ByteArray) : List Tk × Int × Int :=
  if x.size > 3000 then ([], 2, 0) else
  match sm 0 .sk [] (bytesOf x) with
  | .bad j => ([], 8, min (wrongN x.data.toList : Int) (j : Int))
  | .good ts => if (wrongN x.data.toList : Int) ≤ (x.size : Int) then ([], 8, (wrongN x.data.toList : Int)) else (ts, 0, 0)
theorem tokens_ev (x : ByteArray) : Ev (fun k => lex_Tokens.f k x) (tokM x) := by
  unfold tokM lex_Tokens.f
  by_cases h : x.size > 3000
  · rw [if_pos h]
    refine Ev.const fun k => ?_
    rw [if_pos (by omega)]
  · rw [if_neg h]
    have e : ∀ k, (if (x.size : Int) > 3000 then some ([], 2, 0) else (lex_wrong.f k x).bind fun bad => some (tokRes x bad)) = (lex_wrong.f k x).bind fun bad => some (tokRes x bad) := fun k => if_neg (by omega)
    simp only [e]
    refine Ev.bind (wrong_ev x (by omega)) ((Ev.now _).eq ?_)
    first
    | (rw [tokRes_sm]; cases sm 0 .sk [] (bytesOf x) <;> rfl)
    | rw [tokRes_sm]
end Go.Proofs.YtngedmioeodmfaaDoor.Pu
namespace Go.Proofs.YtngedmioeodmfaaDoor.Pu
open Go.RowKit Go.Proofs.YtngedmioeodmfaaDoor.Pr Go.Proofs.YtngedmioeodmfaaDoorW.PrintWords Go.Proofs.YtngedmioeodmfaaDoor.Lx
set_option linter.unusedVariables false
set_option linter.unusedSimpArgs false
/-- The machine's state behind a row. -/
def rs : Nat → St → List Tk → List Int → One
  | _, st, ts, [] => .go st ts
  | i, st, ts, c :: l => match step i c st ts with
    | .bad j => .bad j
    | .go st' ts' => rs (i + 1) st' ts' l
def ends (n : Nat) : One → Out
  | .bad j => .bad j
  | .go st ts => fin n st ts
theorem sm_rs : ∀ l i st ts, sm i st ts l = ends (i + l.length) (rs i st ts l) := by
  intro l
  induction l with
  | nil => intro i st ts; rfl
  | cons c l ih =>
    intro i st ts
    rw [sm, rs]
    cases step i c st ts with
    | bad j => rfl
    | go st' ts' =>
      simp only
      rw [ih, List.length_cons, show i + 1 + l.length = i + (l.length + 1) by omega]
theorem rs_app : ∀ l1 i st ts l2, rs i st ts (l1 ++ l2) = (match rs i st ts l1 with
    | .bad j => .bad j
    | .go st' ts' => rs (i + l1.length) st' ts' l2) := by
  intro l1
  induction l1 with
  | nil => intro i st ts l2; rfl
  | cons c l ih =>
    intro i st ts l2
    rw [List.cons_append, rs, rs]
    cases step i c st ts with
    | bad j => rfl
    | go st' ts' =>
      simp only
      rw [ih, List.length_cons, show i + 1 + l.length = i + (l.length + 1) by omega]
theorem rs_app_go {l1 : List Int} {i : Nat} {st : St} {ts : List Tk} {st' : St} {ts' : List Tk} (h : rs i st ts l1 = .go st' ts') (l2 : List Int) : rs i st ts (l1 ++ l2) = rs (i + l1.length) st' ts' l2 := by
  rw [rs_app, h]
/-- All places further by n; tokens ahead. -/
def upT (n : Nat) (t : Tk) : Tk := ⟨t.f0, t.f1 + n, t.f2⟩
def upS (n : Nat) : St → St
  | .sk => .sk
  | .nt => .nt
  | .wd a acc => .wd (n + a) acc
  | .qt a acc => .qt (n + a) acc
  | .es a p acc => .es (n + a) (n + p) acc
def upO (n : Nat) (t0 : List Tk) : One → One
  | .bad j => .bad (n + j)
  | .go st ts => .go (upS n st) (t0 ++ ts.map (upT n))
theorem st1_up (n : Nat) (t0 : List Tk) (i : Nat) (c : Int) (ts : List Tk) : st1 (n + i) c (t0 ++ ts.map (upT n)) = upO n t0 (st1 i c ts) := by
  unfold st1
  repeat' split
  all_goals simp [upO, upS, upT]
  all_goals omega
theorem step_up (n : Nat) (t0 : List Tk) (i : Nat) (c : Int) (st : St) (ts : List Tk) : step (n + i) c (upS n st) (t0 ++ ts.map (upT n)) = upO n t0 (step i c st ts) := by
  cases st with
  | sk => exact st1_up n t0 i c ts
  | nt => simp only [step, upS]; split <;> rfl
  | wd a acc =>
    simp only [step, upS]
    split
    · rfl
    · have := st1_up n t0 i c (ts ++ [⟨1, a, strOfNums acc⟩])
      rw [← this]
      congr 1
      simp [upT]; omega
  | qt a acc =>
    simp only [step, upS]
    repeat' split
    all_goals simp [upO, upS, upT]
    omega
  | es a p acc =>
    simp only [step, upS]
    split <;> rfl
theorem rs_up (n : Nat) (t0 : List Tk) : ∀ l i st ts, rs (n + i) (upS n st) (t0 ++ ts.map (upT n)) l = upO n t0 (rs i st ts l) := by
  intro l
  induction l with
  | nil => intro i st ts; rfl
  | cons c l ih =>
    intro i st ts
    rw [rs, rs, step_up]
    cases step i c st ts with
    | bad j => rfl
    | go st' ts' => exact ih (i + 1) st' ts'
/-- What a token is written as. -/
def escL (l : List Int) : List Int := l.flatMap fun c => if c = 34 ∨ c = 92 then [92, c] else [c]
theorem escL_nil : escL [] = [] := rfl
theorem escL_cons (c : Int) (l : List Int) : escL (c :: l) = (if c = 34 ∨ c = 92 then [92, c] else [c]) ++ escL l := by simp [escL]
theorem escL_app (l m : List Int) : escL (l ++ m) = escL l ++ escL m := by simp [escL]
def wof (t : Tk) : List Int := if t.f0 = 2 then 34 :: (escL (bytesOf t.f2) ++ [34]) else bytesOf t.f2
def okT (t : Tk) : Prop :=
  (t.f0 = 1 ∧ ∃ c l, bytesOf t.f2 = c :: l ∧ pBlank c = false ∧ c ≠ 35 ∧ pLetter c = true ∧ ∀ x ∈ l, pWord x = true) ∨
  (t.f0 = 2 ∧ ∀ x ∈ bytesOf t.f2, x ≠ 10) ∨
  (∃ c, (c = 40 ∨ c = 41 ∨ c = 59) ∧ t.f0 = opIdx c ∧ bytesOf t.f2 = [c])
def Placed (bs : List Int) : Nat → List Tk → Prop
  | _, [] => True
  | e, t :: r => okT t ∧ ∃ a : Nat, t.f1 = (a : Int) ∧ e ≤ a ∧ (∃ rest, bs.drop a = wof t ++ rest) ∧ Placed bs (a + (wof t).length) r
theorem Placed.weak {bs : List Int} : ∀ {e e' : Nat} {ts : List Tk}, Placed bs e ts → e' ≤ e → Placed bs e' ts
  | _, _, [], _, _ => trivial
  | _, _, _ :: _, ⟨h1, a, h2, h3, h4, h5⟩, h => ⟨h1, a, h2, Nat.le_trans h h3, h4, h5⟩
def Rng (l : List Int) : Prop := ∀ x ∈ l, 0 ≤ x ∧ x ≤ 255
theorem opIdx_ne (c : Int) : opIdx c ≠ 2 := by unfold opIdx; repeat' split
                                               all_goals omega
/-- What has been read stands where it says. -/
def Inv (bs : List Int) (i : Nat) (l : List Int) : St → Prop
  | .sk => True
  | .nt => True
  | .wd a acc => bs.drop a = acc ++ l ∧ a + acc.length = i ∧ Rng acc ∧ ∃ c r, acc = c :: r ∧ pBlank c = false ∧ c ≠ 35 ∧ pLetter c = true ∧ ∀ x ∈ r, pWord x = true
  | .qt a acc => bs.drop a = (34 :: escL acc) ++ l ∧ a + 1 + (escL acc).length = i ∧ Rng acc ∧ ∀ x ∈ acc, x ≠ 10
  | .es a p acc => bs.drop a = (34 :: escL acc) ++ 92 :: l ∧ a + 1 + (escL acc).length + 1 = i ∧ Rng acc ∧ ∀ x ∈ acc, x ≠ 10
def begins (i : Nat) : St → Nat
  | .sk => i
  | .nt => i
  | .wd a _ => a
  | .qt a _ => a
  | .es a _ _ => a
theorem sm_placed (bs : List Int) : ∀ l i st ts out, bs.drop i = l → Rng l → Inv bs i l st → sm i st ts l = .good out → ∃ new, out = ts ++ new ∧ Placed bs (begins i st) new := by
  intro l
  induction l with
  | nil =>
    intro i st ts out hd hr hI e
    rw [sm] at e
    cases st with
    | sk => simp only [fin, Out.good.injEq] at e; exact ⟨[], by simp [e], trivial⟩
    | nt => simp only [fin, Out.good.injEq] at e; exact ⟨[], by simp [e], trivial⟩
    | wd a acc =>
      simp only [fin, Out.good.injEq] at e
      obtain ⟨h1, h2, h3, c, r, h4, h5⟩ := hI
      have hb := bytesOf_str acc h3
      have hw : wof (⟨1, a, strOfNums acc⟩ : Tk) = acc := by unfold wof; rw [if_neg (by simp)]; exact hb
      refine ⟨[⟨1, a, strOfNums acc⟩], e.symm, .inl ⟨rfl, c, r, by rw [hb, h4], h5⟩, a, rfl, Nat.le_refl _, ⟨[], by rw [hw]; exact h1⟩, trivial⟩
    | qt a acc => cases e
    | es a p acc => cases e
  | cons c l ih =>
    intro i st ts out hd hr hI e
    have hd1 : bs.drop (i + 1) = l := by
      rw [← List.drop_drop, hd]; rfl
    have hr1 : Rng l := fun x hx => hr x (List.mem_cons_of_mem _ hx)
    have hrc := hr c List.mem_cons_self
    rw [sm] at e
    -- from between tokens
    have base : ∀ ts, (match st1 i c ts with | .bad j => Out.bad j | .go st' ts' => sm (i + 1) st' ts' l) = .good out → ∃ new, out = ts ++ new ∧ Placed bs i new := by
      intro ts e
      unfold st1 at e
      by_cases p1 : pBlank c = true
      · rw [if_pos p1] at e
        obtain ⟨new, h1, h2⟩ := ih (i + 1) .sk ts out hd1 hr1 trivial e
        exact ⟨new, h1, h2.weak (Nat.le_succ _)⟩
      rw [if_neg p1] at e
      have p1' : pBlank c = false := by cases h : pBlank c with
        | true => exact absurd h p1
        | false => rfl
      by_cases p2 : c = 35
      · rw [if_pos p2] at e
        obtain ⟨new, h1, h2⟩ := ih (i + 1) .nt ts out hd1 hr1 trivial e
        exact ⟨new, h1, h2.weak (Nat.le_succ _)⟩
      rw [if_neg p2] at e
      by_cases p3 : pLetter c = true
      · rw [if_pos p3] at e
        obtain ⟨new, h1, h2⟩ := ih (i + 1) (.wd i [c]) ts out hd1 hr1 ⟨hd, rfl, by intro x hx; simp at hx; subst hx; exact hrc, c, [], rfl, p1', p2, p3, by simp⟩ e
        exact ⟨new, h1, h2⟩
      rw [if_neg p3] at e
      by_cases p4 : c = 34
      · rw [if_pos p4] at e
        obtain ⟨new, h1, h2⟩ := ih (i + 1) (.qt i []) ts out hd1 hr1 ⟨by rw [hd, p4]; rfl, rfl, (by intro x hx; cases hx), by simp⟩ e
        exact ⟨new, h1, h2⟩
      rw [if_neg p4] at e
      by_cases p5 : c = 40 ∨ c = 41 ∨ c = 59
      · rw [if_pos p5] at e
        obtain ⟨new, h1, h2⟩ := ih (i + 1) .sk _ out hd1 hr1 trivial e
        have hb : bytesOf (strOfNums [c]) = [c] := bytesOf_str [c] (by intro x hx; simp at hx; subst hx; exact hrc)
        have hw : wof (⟨opIdx c, i, strOfNums [c]⟩ : Tk) = [c] := by unfold wof; rw [if_neg (opIdx_ne c)]; exact hb
        refine ⟨⟨opIdx c, i, strOfNums [c]⟩ :: new, by rw [h1]; simp, .inr (.inr ⟨c, p5, rfl, hb⟩), i, rfl, Nat.le_refl _, ⟨l, by rw [hw]; exact hd⟩, ?_⟩
        rw [hw]; exact h2
      · rw [if_neg p5] at e; cases e
    cases st with
    | sk => exact base ts e
    | nt =>
      simp only [step] at e
      by_cases p : c = 10
      · rw [if_pos p] at e
        obtain ⟨new, h1, h2⟩ := ih (i + 1) .sk ts out hd1 hr1 trivial e
        exact ⟨new, h1, h2.weak (Nat.le_succ _)⟩
      · rw [if_neg p] at e
        obtain ⟨new, h1, h2⟩ := ih (i + 1) .nt ts out hd1 hr1 trivial e
        exact ⟨new, h1, h2.weak (Nat.le_succ _)⟩
    | wd a acc =>
      obtain ⟨h1, h2, h3, c0, r, h4, h5, h6, h7, h8⟩ := hI
      simp only [step] at e
      by_cases p : pWord c = true
      · rw [if_pos p] at e
        refine ih (i + 1) (.wd a (acc ++ [c])) ts out hd1 hr1 ⟨by rw [h1]; simp, by rw [List.length_append, List.length_singleton]; omega, ?_, c0, r ++ [c], by rw [h4]; rfl, h5, h6, h7, ?_⟩ e
        · intro x hx; rcases List.mem_append.1 hx with hx | hx
          · exact h3 x hx
          · simp at hx; subst hx; exact hrc
        · intro x hx; rcases List.mem_append.1 hx with hx | hx
          · exact h8 x hx
          · simp at hx; subst hx; exact p
      · rw [if_neg p] at e
        obtain ⟨new, hn1, hn2⟩ := base _ e
        have hb := bytesOf_str acc h3
        have hw : wof (⟨1, a, strOfNums acc⟩ : Tk) = acc := by unfold wof; rw [if_neg (by simp)]; exact hb
        refine ⟨⟨1, a, strOfNums acc⟩ :: new, by rw [hn1]; simp, .inl ⟨rfl, c0, r, by rw [hb, h4], h5, h6, h7, h8⟩, a, rfl, Nat.le_refl _, ⟨c :: l, by rw [hw]; exact h1⟩, ?_⟩
        rw [hw, h2]; exact hn2
    | qt a acc =>
      obtain ⟨h1, h2, h3, h4⟩ := hI
      simp only [step] at e
      by_cases p1 : c = 34
      · rw [if_pos p1] at e
        obtain ⟨new, hn1, hn2⟩ := ih (i + 1) .sk _ out hd1 hr1 trivial e
        have hb := bytesOf_str acc h3
        have hw : wof (⟨2, a, strOfNums acc⟩ : Tk) = 34 :: (escL acc ++ [34]) := by unfold wof; rw [if_pos rfl]; show 34 :: (escL (bytesOf (strOfNums acc)) ++ [34]) = _; rw [hb]
        refine ⟨⟨2, a, strOfNums acc⟩ :: new, by rw [hn1]; simp, .inr (.inl ⟨rfl, by show ∀ x ∈ bytesOf (strOfNums acc), x ≠ 10; rw [hb]; exact h4⟩), a, rfl, Nat.le_refl _, ⟨l, by rw [hw, h1, p1]; simp⟩, ?_⟩
        rw [hw]
        have : a + (34 :: (escL acc ++ [34])).length = i + 1 := by simp; omega
        rw [this]; exact hn2
      · rw [if_neg p1] at e
        by_cases p2 : c = 10
        · rw [if_pos p2] at e; cases e
        · rw [if_neg p2] at e
          by_cases p3 : c = 92
          · rw [if_pos p3] at e
            exact ih (i + 1) (.es a i acc) ts out hd1 hr1 ⟨by rw [h1, p3], by omega, h3, h4⟩ e
          · rw [if_neg p3] at e
            have he : escL (acc ++ [c]) = escL acc ++ [c] := by rw [escL_app, escL_cons, escL_nil, if_neg (by omega)]; rfl
            refine ih (i + 1) (.qt a (acc ++ [c])) ts out hd1 hr1 ⟨by rw [h1, he]; simp, by rw [he, List.length_append, List.length_singleton]; omega, ?_, ?_⟩ e
            · intro x hx; rcases List.mem_append.1 hx with hx | hx
              · exact h3 x hx
              · simp at hx; subst hx; exact hrc
            · intro x hx; rcases List.mem_append.1 hx with hx | hx
              · exact h4 x hx
              · simp at hx; subst hx; exact p2
    | es a p acc =>
      obtain ⟨h1, h2, h3, h4⟩ := hI
      simp only [step] at e
      by_cases p1 : c = 34 ∨ c = 92
      · rw [if_pos p1] at e
        have he : escL (acc ++ [c]) = escL acc ++ [92, c] := by rw [escL_app, escL_cons, escL_nil, if_pos p1]; rfl
        refine ih (i + 1) (.qt a (acc ++ [c])) ts out hd1 hr1 ⟨by rw [h1, he]; simp, by rw [he, List.length_append]; simp; omega, ?_, ?_⟩ e
        · intro x hx; rcases List.mem_append.1 hx with hx | hx
          · exact h3 x hx
          · simp at hx; subst hx; exact hrc
        · intro x hx; rcases List.mem_append.1 hx with hx | hx
          · exact h4 x hx
          · simp at hx; subst hx; omega
      · rw [if_neg p1] at e; cases e
/-- The tokens of a text stand where they say. -/
theorem placed (s : ByteArray) (ts : List Tk) (h : sm 0 .sk [] (bytesOf s) = .good ts) : Placed (bytesOf s) 0 ts := by
  obtain ⟨new, h1, h2⟩ := sm_placed (bytesOf s) (bytesOf s) 0 .sk [] ts rfl (bytesOf_range s) trivial h
  rw [h1]; exact h2
end Go.Proofs.YtngedmioeodmfaaDoor.Pu
namespace Go.Proofs.YtngedmioeodmfaaDoor.Pr
open Go.RowKit Go.Proofs.YtngedmioeodmfaaDoorW.PrintWords Go.Proofs.YtngedmioeodmfaaDoorW.PrintLast Go.Proofs.YtngedmioeodmfaaDoorW.PrintMore
attribute [local go_sem] max2_int min2_int max_two min_two max_three min_three max_four min_four   -- for this text's walks alone
set_option linter.unusedVariables false
set_option linter.unusedSimpArgs false
def parapetref1_In.l0 : Nat → ByteArray → List ByteArray → Int → Option (Bool)
  | 0, _, _, _ => none
  | k + 1, x0, x1, x5 => if x5 < (x1.length : Int) then (if 0 ≤ x5 then (if (rdOf ByteArray.empty x1 x5).toList = x0.toList then (some true) else (parapetref1_In.l0 k x0 x1 (wrap64 (x5 + 1)))) else (none)) else (some false)
def parapetref1_In.f (k : Nat) (a0 : ByteArray) (l1 : List ByteArray) : Option (Bool) := parapetref1_In.l0 k a0 l1 0
theorem parapetref1_In.mono_l : ∀ k, (∀ y0 y1 y2, LeO (parapetref1_In.l0 k y0 y1 y2) (parapetref1_In.l0 (k + 1) y0 y1 y2))
  | 0 => fun _ _ _ r h => by simp [parapetref1_In.l0] at h
  | k + 1 => by
    have ih0 := parapetref1_In.mono_l k
    · intro y0 y1 y2
      unfold parapetref1_In.l0
      repeat' first
      | (with_reducible exact ih0 _ _ _)
      | (with_reducible exact LeO.refl _)
      | (with_reducible exact LeO.none _)
      | (with_reducible refine LeO.ite ?_ ?_)
      | (with_reducible refine LeO.bind ?_ (fun _ => ?_))
      | exact ih0 _ _ _
      | exact LeO.none _
      | refine LeO.ite ?_ ?_
      | refine LeO.bind ?_ (fun _ => ?_)
theorem parapetref1_In.mono : ∀ a0 a1 k, LeO (parapetref1_In.f k a0 a1) (parapetref1_In.f (k + 1) a0 a1) := by
  intro a0 a1 k
  have ih0 := parapetref1_In.mono_l k
  unfold parapetref1_In.f
  repeat' first
      | (with_reducible exact ih0 _ _ _)
      | (with_reducible exact LeO.refl _)
      | (with_reducible exact LeO.none _)
      | (with_reducible refine LeO.ite ?_ ?_)
      | (with_reducible refine LeO.bind ?_ (fun _ => ?_))
      | exact ih0 _ _ _
      | exact LeO.none _
      | refine LeO.ite ?_ ?_
      | refine LeO.bind ?_ (fun _ => ?_)
set_option maxHeartbeats 8000000 in
set_option maxRecDepth 100000 in
theorem parapetref1_In.calls (k : Nat) (a0 : ByteArray) (A1 : Option Addr) (c1 : Nat) (l1 : List ByteArray) (r : Bool) (w : World) (hr1 : Kd.C Kd.string w A1 l1.length l1) (hc1 : l1.length ≤ c1) (h : parapetref1_In.f k a0 l1 = some r) :
    Calls Tryd.prog 26 #[.string a0, .slice A1 l1.length c1] w fun e w' => e = .returned (.bool r) ∧ Drawn0 w w' := by
  have HR1 := Aside0.mk hr1
  have HC1 := Aside0.mk hc1
  clear hr1 hc1
  have H : (parapetref1_In.l0 k a0 l1 0) = some r := h
  clear h
  have H' := Aside0.mk H
  clear H
  go_enter Tryd.func26, Tryd.ntmps26
  go_wp2
  go_loopg [5] k (fun kq v5 w' => ∃ (x5_1 : Int), v5 = .int .i64 x5_1 ∧ Aside0 (parapetref1_In.l0 kq a0 l1 x5_1 = some r) ∧ Aside0 (kq ≤ k) ∧ Drawn0 w w')
  case atStart => exact ⟨(0), (by first | rfl | (simp; done) | (simp [*]; done)), H', ⟨Nat.le_refl _⟩, by repeat (first | exact Drawn0.refl _ | apply Drawn0.step)⟩
  case round =>
    clear H'
    try clear c1
    try clear c2
    try clear p2
    obtain ⟨x5_1, rfl, HA, HK1, ⟨m1, rfl⟩⟩ := hrel
    cases gk with
    | zero => exact absurd HA.out (by simp [parapetref1_In.l0])
    | succ k1 =>
      have H := HA.out
      clear HA
      simp only [parapetref1_In.l0] at H
      by_cases c3 : x5_1 < (l1.length : Int)
      · rw [if_pos c3] at H
        have c3b0 : decide (x5_1 < (l1.length : Int)) = true := decide_eq_true c3
        clear c3
        by_cases c4 : 0 ≤ x5_1
        · rw [if_pos c4] at H
          have c4b0 : decide (0 ≤ x5_1) = true := decide_eq_true c4
          clear c4
          by_cases c5 : (rdOf ByteArray.empty l1 x5_1).toList = a0.toList
          · rw [if_pos c5] at H
            have c5b0 : ((rdOf ByteArray.empty l1 x5_1).toList == a0.toList) = true := beq_iff_eq.mpr c5
            have c5b1 : ((rdOf ByteArray.empty l1 x5_1).toList != a0.toList) = false := bne_eq_false_iff_eq.mpr c5
            clear c5
            obtain rfl := Option.some.inj H
            have p415 : 0 ≤ (x5_1 : Int) := of_decide_eq_true (by first | (with_reducible assumption) | assumption)
            have q415 : x5_1 < (l1.length : Int) := of_decide_eq_true (by first | (with_reducible assumption) | assumption)
            obtain ⟨ad415, e415, hx415_0⟩ := Kd.at_string HR1.out x5_1 p415 q415
            cases e415
            replace p415 := eq_true p415
            replace q415 := eq_true q415
            go_wp2
            go_ret
            exact ⟨by first | rfl | (simp; done) | (simp [*]; done), by repeat (first | exact Drawn0.refl _ | apply Drawn0.step)⟩
          · rw [if_neg c5] at H
            have c5b0 : ((rdOf ByteArray.empty l1 x5_1).toList == a0.toList) = false := beq_eq_false_iff_ne.mpr c5
            have c5b1 : ((rdOf ByteArray.empty l1 x5_1).toList != a0.toList) = true := bne_iff_ne.mpr c5
            have H' := Aside0.mk H
            clear H
            have p415 : 0 ≤ (x5_1 : Int) := of_decide_eq_true (by first | (with_reducible assumption) | assumption)
            have q415 : x5_1 < (l1.length : Int) := of_decide_eq_true (by first | (with_reducible assumption) | assumption)
            obtain ⟨ad415, e415, hx415_0⟩ := Kd.at_string HR1.out x5_1 p415 q415
            cases e415
            replace p415 := eq_true p415
            replace q415 := eq_true q415
            go_wp2
            go_roundg k1
            case measure => have := HK1.out; omega
            case rel => exact ⟨(wrap64 (x5_1 + 1)), (by first | rfl | (simp; done) | (simp [*]; done)), H', ⟨by have := HK1.out; omega⟩, by repeat (first | exact Drawn0.refl _ | apply Drawn0.step)⟩
        · rw [if_neg c4] at H
          exact absurd H (by simp)
      · rw [if_neg c3] at H
        have c3b0 : decide (x5_1 < (l1.length : Int)) = false := decide_eq_false c3
        clear c3
        obtain rfl := Option.some.inj H
        go_wp2
        go_ret
        exact ⟨by first | rfl | (simp; done) | (simp [*]; done), by repeat (first | exact Drawn0.refl _ | apply Drawn0.step)⟩
def lex_Quote.l0 : Nat → ByteArray → List Int → Int → Int → Option (ByteArray)
  | 0, _, _, _, _ => none
  | k + 1, x0, x3, x7, x8 => if x8 < x7 then (if 0 ≤ x8 then (if x8 < (x0.size : Int) then (if (bt x0 x8) = 34 then (if x3.length < 140737488355328 then ((some (x3 ++ [92] : List Int)).bind fun y419 => (if y419.length < 140737488355328 then (lex_Quote.l0 k x0 (y419 ++ [bt x0 x8]) x7 (wrap64 (x8 + 1))) else (none))) else (none)) else (if (bt x0 x8) = 92 then (if x3.length < 140737488355328 then ((some (x3 ++ [92] : List Int)).bind fun y425 => (if y425.length < 140737488355328 then (lex_Quote.l0 k x0 (y425 ++ [bt x0 x8]) x7 (wrap64 (x8 + 1))) else (none))) else (none)) else (if x3.length < 140737488355328 then (lex_Quote.l0 k x0 (x3 ++ [bt x0 x8]) x7 (wrap64 (x8 + 1))) else (none)))) else (none)) else (none)) else (if x3.length < 140737488355328 then (some (strOfNums (x3 ++ [34]))) else (none))
def lex_Quote.f (k : Nat) (a0 : ByteArray) : Option (ByteArray) := lex_Quote.l0 k a0 (([34] : List Int)) (a0.size : Int) 0
theorem lex_Quote.mono_l : ∀ k, (∀ y0 y1 y2 y3, LeO (lex_Quote.l0 k y0 y1 y2 y3) (lex_Quote.l0 (k + 1) y0 y1 y2 y3))
  | 0 => fun _ _ _ _ r h => by simp [lex_Quote.l0] at h
  | k + 1 => by
    have ih0 := lex_Quote.mono_l k
    · intro y0 y1 y2 y3
      unfold lex_Quote.l0
      repeat' first
      | (with_reducible exact ih0 _ _ _ _)
      | (with_reducible exact LeO.refl _)
      | (with_reducible exact LeO.none _)
      | (with_reducible refine LeO.ite ?_ ?_)
      | (with_reducible refine LeO.bind ?_ (fun _ => ?_))
      | exact ih0 _ _ _ _
      | exact LeO.none _
      | refine LeO.ite ?_ ?_
      | refine LeO.bind ?_ (fun _ => ?_)
theorem lex_Quote.mono : ∀ a0 k, LeO (lex_Quote.f k a0) (lex_Quote.f (k + 1) a0) := by
  intro a0 k
  have ih0 := lex_Quote.mono_l k
  unfold lex_Quote.f
  repeat' first
      | (with_reducible exact ih0 _ _ _ _)
      | (with_reducible exact LeO.refl _)
      | (with_reducible exact LeO.none _)
      | (with_reducible refine LeO.ite ?_ ?_)
      | (with_reducible refine LeO.bind ?_ (fun _ => ?_))
      | exact ih0 _ _ _ _
      | exact LeO.none _
      | refine LeO.ite ?_ ?_
      | refine LeO.bind ?_ (fun _ => ?_)
set_option maxHeartbeats 8000000 in
set_option maxRecDepth 100000 in
theorem lex_Quote.calls (k : Nat) (a0 : ByteArray) (r : ByteArray) (w : World) (h : lex_Quote.f k a0 = some r) :
    Calls Tryd.prog 38 #[.string a0] w fun e w' => e = .returned (.string r) ∧ Below w.heap.size w w' := by
  have HB := Aside0.mk (Below.refl w.heap.size w)
  have H : (lex_Quote.l0 k a0 (([34] : List Int)) (a0.size : Int) 0) = some r := h
  clear h
  obtain ⟨y416, hy416⟩ : ∃ y_ : List Int, y_ = (([34] : List Int)) := ⟨_, rfl⟩
  replace H : (lex_Quote.l0 k a0 y416 (a0.size : Int) 0) = some r := by first | (rw [hy416]; with_reducible exact H) | (have H2_ := (Option.bind_some _ _).symm.trans H; rw [hy416]; with_reducible exact H2_) | (have H2_ := (Option.bind_some _ _).symm.trans H; with_reducible exact H2_) | with_reducible exact H | (rw [hy416]; exact H) | exact H
  have Ny416 := Aside0.mk hy416
  clear hy416
  have H' := Aside0.mk H
  clear H
  go_enter Tryd.func38, Tryd.ntmps38
  go_wp2_with (first | ((with_reducible refine gate_dst (N := 5) rfl ?_); refine Kd.R_lit (Kd.int .u8) _ 5 ?hg (N := 5) ?hd (xs := ([34] : List Int)) (inner := [.int .u8 34]) (ok := fun _ => True) (okp := fun _ => True) ?hr ?hp (fun _ hk => hk) trivial (Below.refl _ _) (Nat.le_refl _) (by simp) ?_; (case hd => rfl); (case hg => rfl); (case hr => first | (go_simp; done) | (go_simp; rfl)); (case hp => exact (Reps.one (show Kd.M (Kd.int .u8) _ _ _ 34 [.int .u8 34] from rfl) (Reps.none _ _))); intro v417 w2 ho3 hb hg_ hnew_; clear hg_ hnew_; (first | rw [← Ny416.out] at ho3 | (simp only [Int.reduceToNat] at ho3; rw [← Ny416.out] at ho3)); have n0_ := Aside0.mk (Kd.R_lower ho3 (below_size (by repeat (first | (with_reducible first | exact HB.out | apply below_alloc | apply pw_below_drewN | apply below_drew1) | exact HB.out)))); have n1_ := Aside0.mk (below_step (by repeat (first | (with_reducible first | exact HB.out | apply below_alloc | apply pw_below_drewN | apply below_drew1) | exact HB.out)) hb); clear HB; have HO418 := n0_; have HB := n1_; clear n0_ n1_; clear hb ho3))
  go_loopg [3, 8] k (fun kq v3 v8 w' => ∃ (x3_1 : List Int) (x8_1 : Int), v8 = .int .i64 x8_1 ∧ Aside0 (lex_Quote.l0 kq a0 x3_1 (a0.size : Int) x8_1 = some r) ∧ Aside0 (kq ≤ k) ∧ Aside0 (Kd.R (Kd.int .u8) 5 w' w.heap.size (fun _ => True) v3 x3_1) ∧ Aside0 (Below w.heap.size w w'))
  case atStart => exact ⟨(y416), (0), (by first | rfl | (simp; done) | (simp [*]; done)), H', ⟨Nat.le_refl _⟩, ⟨by (with_reducible repeat (first | apply Kd.R_alloc | apply Kd.R_drewN | apply Kd.R_drew)); exact HO418.out⟩, ⟨by repeat (first | (with_reducible first | exact HB.out | apply below_alloc | apply pw_below_drewN | apply below_drew1) | exact HB.out)⟩⟩
  case round =>
    clear H'
    try clear p2
    try clear c3
    obtain ⟨x3_1, x8_1, rfl, HA, HK1, HO_3, HB⟩ := hrel
    cases gk with
    | zero => exact absurd HA.out (by simp [lex_Quote.l0])
    | succ k1 =>
      have H := HA.out
      clear HA
      simp only [lex_Quote.l0] at H
      by_cases c4 : x8_1 < (a0.size : Int)
      · rw [if_pos c4] at H
        have c4b0 : decide (x8_1 < (a0.size : Int)) = true := decide_eq_true c4
        clear c4
        by_cases c5 : 0 ≤ x8_1
        · rw [if_pos c5] at H
          have c5b0 : decide (0 ≤ x8_1) = true := decide_eq_true c5
          clear c5
          by_cases c6 : x8_1 < (a0.size : Int)
          · rw [if_pos c6] at H
            have c6b0 : decide (x8_1 < (a0.size : Int)) = true := decide_eq_true c6
            clear c6
            by_cases c8 : (bt a0 x8_1) = 34
            · rw [if_pos c8] at H
              have c8b0 : ((bt a0 x8_1) == 34) = true := beq_iff_eq.mpr c8
              have c8b1 : ((bt a0 x8_1) != 34) = false := bne_eq_false_iff_eq.mpr c8
              clear c8
              by_cases c9 : x3_1.length < 140737488355328
              · rw [if_pos c9] at H
                have LMc9 := Aside0.mk c9
                clear c9
                obtain ⟨y419, hy419⟩ : ∃ y_ : List Int, y_ = (x3_1 ++ [92]) := ⟨_, rfl⟩
                replace H : (if y419.length < 140737488355328 then (lex_Quote.l0 k1 a0 (y419 ++ [bt a0 x8_1]) (a0.size : Int) (wrap64 (x8_1 + 1))) else (none)) = some r := by first | (rw [hy419]; with_reducible exact H) | (have H2_ := (Option.bind_some _ _).symm.trans H; rw [hy419]; with_reducible exact H2_) | (have H2_ := (Option.bind_some _ _).symm.trans H; with_reducible exact H2_) | with_reducible exact H | (rw [hy419]; exact H) | exact H
                have Ny419 := Aside0.mk hy419
                clear hy419
                by_cases c11 : y419.length < 140737488355328
                · rw [if_pos c11] at H
                  have LMc11 := Aside0.mk c11
                  clear c11
                  obtain ⟨y422, hy422⟩ : ∃ y_ : List Int, y_ = (y419 ++ [bt a0 x8_1]) := ⟨_, rfl⟩
                  replace H : (lex_Quote.l0 k1 a0 y422 (a0.size : Int) (wrap64 (x8_1 + 1))) = some r := by first | (rw [hy422]; with_reducible exact H) | (have H2_ := (Option.bind_some _ _).symm.trans H; rw [hy422]; with_reducible exact H2_) | (have H2_ := (Option.bind_some _ _).symm.trans H; with_reducible exact H2_) | with_reducible exact H | (rw [hy422]; exact H) | exact H
                  have Ny422 := Aside0.mk hy422
                  clear hy422
                  have H' := Aside0.mk H
                  clear H
                  have p7 : 0 ≤ (x8_1 : Int) := of_decide_eq_true (by first | (with_reducible assumption) | assumption)
                  have q7 : x8_1 < (a0.size : Int) := of_decide_eq_true (by first | (with_reducible assumption) | assumption)
                  have hx7 := bt_at a0 x8_1
                  replace p7 := eq_true p7
                  replace q7 := eq_true q7
                  go_wp2_with (first | ((with_reducible refine gate_builtin (b := .append) (xs := #[.tmp 21, .tmp 22]) rfl ?_); at_builtin; refine Kd.R_append (Kd.int .u8) (w0 := w) w.heap.size rfl (.tmp 21) (.tmp 22) 100 5 (.int .u8 0) 1 rfl Tryd.underlying100 info5 rfl (by decide) (by omega) u3 x3_1 92 [.int .u8 92] (fun _ => True) (fun _ => False) rfl rfl ?aP (fun _ hk => hk.elim) ?aF ?aO ?aB ?aS ?aL ?_; (case aP => exact rfl); (case aB => exact (by repeat (first | (with_reducible first | exact HB.out | apply below_alloc | apply pw_below_drewN | apply below_drew1) | exact HB.out))); (case aF => exact (fun _ _ => trivial)); (case aO => exact (by (with_reducible repeat (first | apply Kd.R_alloc | apply Kd.R_drewN | apply Kd.R_drew)); exact HO_3.out)); (case aS => exact (below_size (by repeat (first | (with_reducible first | exact HB.out | apply below_alloc | apply pw_below_drewN | apply below_drew1) | exact HB.out)))); (case aL => have := LMc9.out; omega); intro v420 w12 ho hb hg hat; rw [← Ny419.out] at ho; have n0_ := Aside0.mk (hb); have n1_ := Aside0.mk (ho); clear HB; clear HO_3; have HB := n0_; have HO421 := n1_; clear n0_ n1_; clear ho hb hg hat; have p10 : 0 ≤ (x8_1 : Int) := of_decide_eq_true (by first | (with_reducible assumption) | assumption); have q10 : x8_1 < (a0.size : Int) := of_decide_eq_true (by first | (with_reducible assumption) | assumption); have hx10 := bt_at a0 x8_1; replace p10 := eq_true p10; replace q10 := eq_true q10) | ((with_reducible refine gate_builtin (b := .append) (xs := #[.tmp 24, .tmp 28]) rfl ?_); at_builtin; refine Kd.R_append (Kd.int .u8) (w0 := w) w.heap.size rfl (.tmp 24) (.tmp 28) 100 5 (.int .u8 0) 1 rfl Tryd.underlying100 info5 rfl (by decide) (by omega) v420 y419 (bt a0 x8_1) [.int .u8 (bt a0 x8_1)] (fun _ => True) (fun _ => False) rfl rfl ?aP (fun _ hk => hk.elim) ?aF ?aO ?aB ?aS ?aL ?_; (case aP => exact rfl); (case aB => exact (by repeat (first | (with_reducible first | exact HB.out | apply below_alloc | apply pw_below_drewN | apply below_drew1) | exact HB.out))); (case aF => exact (fun _ _ => trivial)); (case aO => exact (by (with_reducible repeat (first | apply Kd.R_alloc | apply Kd.R_drewN | apply Kd.R_drew)); exact HO421.out)); (case aS => exact (below_size (by repeat (first | (with_reducible first | exact HB.out | apply below_alloc | apply pw_below_drewN | apply below_drew1) | exact HB.out)))); (case aL => have := LMc11.out; omega); intro v423 w13 ho hb hg hat; rw [← Ny422.out] at ho; have n0_ := Aside0.mk (hb); have n1_ := Aside0.mk (ho); clear HB; clear HO421; have HB := n0_; have HO424 := n1_; clear n0_ n1_; clear ho hb hg hat))
                  go_roundg k1
                  case measure => have := HK1.out; omega
                  case rel => exact ⟨(y422), (wrap64 (x8_1 + 1)), (by first | rfl | (simp; done) | (simp [*]; done)), H', ⟨by have := HK1.out; omega⟩, ⟨by (with_reducible repeat (first | apply Kd.R_alloc | apply Kd.R_drewN | apply Kd.R_drew)); exact HO424.out⟩, ⟨by repeat (first | (with_reducible first | exact HB.out | apply below_alloc | apply pw_below_drewN | apply below_drew1) | exact HB.out)⟩⟩
                · rw [if_neg c11] at H
                  exact absurd H (by simp)
              · rw [if_neg c9] at H
                exact absurd H (by simp)
            · rw [if_neg c8] at H
              have c8b0 : ((bt a0 x8_1) == 34) = false := beq_eq_false_iff_ne.mpr c8
              have c8b1 : ((bt a0 x8_1) != 34) = true := bne_iff_ne.mpr c8
              by_cases c15 : (bt a0 x8_1) = 92
              · rw [if_pos c15] at H
                have c15b0 : ((bt a0 x8_1) == 92) = true := beq_iff_eq.mpr c15
                have c15b1 : ((bt a0 x8_1) != 92) = false := bne_eq_false_iff_eq.mpr c15
                clear c15
                by_cases c16 : x3_1.length < 140737488355328
                · rw [if_pos c16] at H
                  have LMc16 := Aside0.mk c16
                  clear c16
                  obtain ⟨y425, hy425⟩ : ∃ y_ : List Int, y_ = (x3_1 ++ [92]) := ⟨_, rfl⟩
                  replace H : (if y425.length < 140737488355328 then (lex_Quote.l0 k1 a0 (y425 ++ [bt a0 x8_1]) (a0.size : Int) (wrap64 (x8_1 + 1))) else (none)) = some r := by first | (rw [hy425]; with_reducible exact H) | (have H2_ := (Option.bind_some _ _).symm.trans H; rw [hy425]; with_reducible exact H2_) | (have H2_ := (Option.bind_some _ _).symm.trans H; with_reducible exact H2_) | with_reducible exact H | (rw [hy425]; exact H) | exact H
                  have Ny425 := Aside0.mk hy425
                  clear hy425
                  by_cases c18 : y425.length < 140737488355328
                  · rw [if_pos c18] at H
                    have LMc18 := Aside0.mk c18
                    clear c18
                    obtain ⟨y428, hy428⟩ : ∃ y_ : List Int, y_ = (y425 ++ [bt a0 x8_1]) := ⟨_, rfl⟩
                    replace H : (lex_Quote.l0 k1 a0 y428 (a0.size : Int) (wrap64 (x8_1 + 1))) = some r := by first | (rw [hy428]; with_reducible exact H) | (have H2_ := (Option.bind_some _ _).symm.trans H; rw [hy428]; with_reducible exact H2_) | (have H2_ := (Option.bind_some _ _).symm.trans H; with_reducible exact H2_) | with_reducible exact H | (rw [hy428]; exact H) | exact H
                    have Ny428 := Aside0.mk hy428
                    clear hy428
                    have H' := Aside0.mk H
                    clear H
                    have p7 : 0 ≤ (x8_1 : Int) := of_decide_eq_true (by first | (with_reducible assumption) | assumption)
                    have q7 : x8_1 < (a0.size : Int) := of_decide_eq_true (by first | (with_reducible assumption) | assumption)
                    have hx7 := bt_at a0 x8_1
                    replace p7 := eq_true p7
                    replace q7 := eq_true q7
                    have p14 : 0 ≤ (x8_1 : Int) := of_decide_eq_true (by first | (with_reducible assumption) | assumption)
                    have q14 : x8_1 < (a0.size : Int) := of_decide_eq_true (by first | (with_reducible assumption) | assumption)
                    have hx14 := bt_at a0 x8_1
                    replace p14 := eq_true p14
                    replace q14 := eq_true q14
                    go_wp2_with (first | ((with_reducible refine gate_builtin (b := .append) (xs := #[.tmp 21, .tmp 22]) rfl ?_); at_builtin; refine Kd.R_append (Kd.int .u8) (w0 := w) w.heap.size rfl (.tmp 21) (.tmp 22) 100 5 (.int .u8 0) 1 rfl Tryd.underlying100 info5 rfl (by decide) (by omega) u3 x3_1 92 [.int .u8 92] (fun _ => True) (fun _ => False) rfl rfl ?aP (fun _ hk => hk.elim) ?aF ?aO ?aB ?aS ?aL ?_; (case aP => exact rfl); (case aB => exact (by repeat (first | (with_reducible first | exact HB.out | apply below_alloc | apply pw_below_drewN | apply below_drew1) | exact HB.out))); (case aF => exact (fun _ _ => trivial)); (case aO => exact (by (with_reducible repeat (first | apply Kd.R_alloc | apply Kd.R_drewN | apply Kd.R_drew)); exact HO_3.out)); (case aS => exact (below_size (by repeat (first | (with_reducible first | exact HB.out | apply below_alloc | apply pw_below_drewN | apply below_drew1) | exact HB.out)))); (case aL => have := LMc16.out; omega); intro v426 w19 ho hb hg hat; rw [← Ny425.out] at ho; have n0_ := Aside0.mk (hb); have n1_ := Aside0.mk (ho); clear HB; clear HO_3; have HB := n0_; have HO427 := n1_; clear n0_ n1_; clear ho hb hg hat; have p17 : 0 ≤ (x8_1 : Int) := of_decide_eq_true (by first | (with_reducible assumption) | assumption); have q17 : x8_1 < (a0.size : Int) := of_decide_eq_true (by first | (with_reducible assumption) | assumption); have hx17 := bt_at a0 x8_1; replace p17 := eq_true p17; replace q17 := eq_true q17) | ((with_reducible refine gate_builtin (b := .append) (xs := #[.tmp 24, .tmp 28]) rfl ?_); at_builtin; refine Kd.R_append (Kd.int .u8) (w0 := w) w.heap.size rfl (.tmp 24) (.tmp 28) 100 5 (.int .u8 0) 1 rfl Tryd.underlying100 info5 rfl (by decide) (by omega) v426 y425 (bt a0 x8_1) [.int .u8 (bt a0 x8_1)] (fun _ => True) (fun _ => False) rfl rfl ?aP (fun _ hk => hk.elim) ?aF ?aO ?aB ?aS ?aL ?_; (case aP => exact rfl); (case aB => exact (by repeat (first | (with_reducible first | exact HB.out | apply below_alloc | apply pw_below_drewN | apply below_drew1) | exact HB.out))); (case aF => exact (fun _ _ => trivial)); (case aO => exact (by (with_reducible repeat (first | apply Kd.R_alloc | apply Kd.R_drewN | apply Kd.R_drew)); exact HO427.out)); (case aS => exact (below_size (by repeat (first | (with_reducible first | exact HB.out | apply below_alloc | apply pw_below_drewN | apply below_drew1) | exact HB.out)))); (case aL => have := LMc18.out; omega); intro v429 w20 ho hb hg hat; rw [← Ny428.out] at ho; have n0_ := Aside0.mk (hb); have n1_ := Aside0.mk (ho); clear HB; clear HO427; have HB := n0_; have HO430 := n1_; clear n0_ n1_; clear ho hb hg hat))
                    go_roundg k1
                    case measure => have := HK1.out; omega
                    case rel => exact ⟨(y428), (wrap64 (x8_1 + 1)), (by first | rfl | (simp; done) | (simp [*]; done)), H', ⟨by have := HK1.out; omega⟩, ⟨by (with_reducible repeat (first | apply Kd.R_alloc | apply Kd.R_drewN | apply Kd.R_drew)); exact HO430.out⟩, ⟨by repeat (first | (with_reducible first | exact HB.out | apply below_alloc | apply pw_below_drewN | apply below_drew1) | exact HB.out)⟩⟩
                  · rw [if_neg c18] at H
                    exact absurd H (by simp)
                · rw [if_neg c16] at H
                  exact absurd H (by simp)
              · rw [if_neg c15] at H
                have c15b0 : ((bt a0 x8_1) == 92) = false := beq_eq_false_iff_ne.mpr c15
                have c15b1 : ((bt a0 x8_1) != 92) = true := bne_iff_ne.mpr c15
                by_cases c22 : x3_1.length < 140737488355328
                · rw [if_pos c22] at H
                  have LMc22 := Aside0.mk c22
                  clear c22
                  obtain ⟨y431, hy431⟩ : ∃ y_ : List Int, y_ = (x3_1 ++ [bt a0 x8_1]) := ⟨_, rfl⟩
                  replace H : (lex_Quote.l0 k1 a0 y431 (a0.size : Int) (wrap64 (x8_1 + 1))) = some r := by first | (rw [hy431]; with_reducible exact H) | (have H2_ := (Option.bind_some _ _).symm.trans H; rw [hy431]; with_reducible exact H2_) | (have H2_ := (Option.bind_some _ _).symm.trans H; with_reducible exact H2_) | with_reducible exact H | (rw [hy431]; exact H) | exact H
                  have Ny431 := Aside0.mk hy431
                  clear hy431
                  have H' := Aside0.mk H
                  clear H
                  have p7 : 0 ≤ (x8_1 : Int) := of_decide_eq_true (by first | (with_reducible assumption) | assumption)
                  have q7 : x8_1 < (a0.size : Int) := of_decide_eq_true (by first | (with_reducible assumption) | assumption)
                  have hx7 := bt_at a0 x8_1
                  replace p7 := eq_true p7
                  replace q7 := eq_true q7
                  have p14 : 0 ≤ (x8_1 : Int) := of_decide_eq_true (by first | (with_reducible assumption) | assumption)
                  have q14 : x8_1 < (a0.size : Int) := of_decide_eq_true (by first | (with_reducible assumption) | assumption)
                  have hx14 := bt_at a0 x8_1
                  replace p14 := eq_true p14
                  replace q14 := eq_true q14
                  have p21 : 0 ≤ (x8_1 : Int) := of_decide_eq_true (by first | (with_reducible assumption) | assumption)
                  have q21 : x8_1 < (a0.size : Int) := of_decide_eq_true (by first | (with_reducible assumption) | assumption)
                  have hx21 := bt_at a0 x8_1
                  replace p21 := eq_true p21
                  replace q21 := eq_true q21
                  go_wp2_with (first | ((with_reducible refine gate_builtin (b := .append) (xs := #[.tmp 24, .tmp 28]) rfl ?_); at_builtin; refine Kd.R_append (Kd.int .u8) (w0 := w) w.heap.size rfl (.tmp 24) (.tmp 28) 100 5 (.int .u8 0) 1 rfl Tryd.underlying100 info5 rfl (by decide) (by omega) u3 x3_1 (bt a0 x8_1) [.int .u8 (bt a0 x8_1)] (fun _ => True) (fun _ => False) rfl rfl ?aP (fun _ hk => hk.elim) ?aF ?aO ?aB ?aS ?aL ?_; (case aP => exact rfl); (case aB => exact (by repeat (first | (with_reducible first | exact HB.out | apply below_alloc | apply pw_below_drewN | apply below_drew1) | exact HB.out))); (case aF => exact (fun _ _ => trivial)); (case aO => exact (by (with_reducible repeat (first | apply Kd.R_alloc | apply Kd.R_drewN | apply Kd.R_drew)); exact HO_3.out)); (case aS => exact (below_size (by repeat (first | (with_reducible first | exact HB.out | apply below_alloc | apply pw_below_drewN | apply below_drew1) | exact HB.out)))); (case aL => have := LMc22.out; omega); intro v432 w23 ho hb hg hat; rw [← Ny431.out] at ho; have n0_ := Aside0.mk (hb); have n1_ := Aside0.mk (ho); clear HB; clear HO_3; have HB := n0_; have HO433 := n1_; clear n0_ n1_; clear ho hb hg hat))
                  go_roundg k1
                  case measure => have := HK1.out; omega
                  case rel => exact ⟨(y431), (wrap64 (x8_1 + 1)), (by first | rfl | (simp; done) | (simp [*]; done)), H', ⟨by have := HK1.out; omega⟩, ⟨by (with_reducible repeat (first | apply Kd.R_alloc | apply Kd.R_drewN | apply Kd.R_drew)); exact HO433.out⟩, ⟨by repeat (first | (with_reducible first | exact HB.out | apply below_alloc | apply pw_below_drewN | apply below_drew1) | exact HB.out)⟩⟩
                · rw [if_neg c22] at H
                  exact absurd H (by simp)
          · rw [if_neg c6] at H
            exact absurd H (by simp)
        · rw [if_neg c5] at H
          exact absurd H (by simp)
      · rw [if_neg c4] at H
        have c4b0 : decide (x8_1 < (a0.size : Int)) = false := decide_eq_false c4
        clear c4
        by_cases c24 : x3_1.length < 140737488355328
        · rw [if_pos c24] at H
          have LMc24 := Aside0.mk c24
          clear c24
          obtain ⟨y434, hy434⟩ : ∃ y_ : List Int, y_ = (x3_1 ++ [34]) := ⟨_, rfl⟩
          replace H : (some (strOfNums y434)) = some r := by first | (rw [hy434]; with_reducible exact H) | (have H2_ := (Option.bind_some _ _).symm.trans H; rw [hy434]; with_reducible exact H2_) | (have H2_ := (Option.bind_some _ _).symm.trans H; with_reducible exact H2_) | with_reducible exact H | (rw [hy434]; exact H) | exact H
          have Ny434 := Aside0.mk hy434
          clear hy434
          obtain rfl := Option.some.inj H
          go_wp2_with (first | ((with_reducible refine gate_builtin (b := .append) (xs := #[.tmp 31, .tmp 32]) rfl ?_); at_builtin; refine Kd.R_append (Kd.int .u8) (w0 := w) w.heap.size rfl (.tmp 31) (.tmp 32) 100 5 (.int .u8 0) 1 rfl Tryd.underlying100 info5 rfl (by decide) (by omega) u3 x3_1 34 [.int .u8 34] (fun _ => True) (fun _ => False) rfl rfl ?aP (fun _ hk => hk.elim) ?aF ?aO ?aB ?aS ?aL ?_; (case aP => exact rfl); (case aB => exact (by repeat (first | (with_reducible first | exact HB.out | apply below_alloc | apply pw_below_drewN | apply below_drew1) | exact HB.out))); (case aF => exact (fun _ _ => trivial)); (case aO => exact (by (with_reducible repeat (first | apply Kd.R_alloc | apply Kd.R_drewN | apply Kd.R_drew)); exact HO_3.out)); (case aS => exact (below_size (by repeat (first | (with_reducible first | exact HB.out | apply below_alloc | apply pw_below_drewN | apply below_drew1) | exact HB.out)))); (case aL => have := LMc24.out; omega); intro v435 w25 ho hb hg hat; rw [← Ny434.out] at ho; have n0_ := Aside0.mk (hb); have n1_ := Aside0.mk (ho); clear HB; clear HO_3; have HB := n0_; have HO436 := n1_; clear n0_ n1_; clear ho hb hg hat; have hcv26 := own_string (P := Tryd.prog) Tryd.underlying100 Tryd.underlying5 Tryd.underlying9 (Kd.own_of_R HO436.out); have hcv26q := fun (q_ : Nat) => own_string (P := Tryd.prog) Tryd.underlying100 Tryd.underlying5 Tryd.underlying9 (Kd.own_of_R (Kd.R_drewN HO436.out q_))))
          go_ret
          exact ⟨by first | rfl | (simp [errW_none, errW_some] <;> rfl) | (simp [*, errW_none, errW_some] <;> rfl), by repeat (first | (with_reducible first | exact HB.out | apply below_alloc | apply pw_below_drewN | apply below_drew1) | exact HB.out)⟩
        · rw [if_neg c24] at H
          exact absurd H (by simp)
end Go.Proofs.YtngedmioeodmfaaDoor.Pr
namespace Go.Proofs.YtngedmioeodmfaaDoor.Pu
open Go.RowKit Go.Proofs.YtngedmioeodmfaaDoor.Pr Go.Proofs.YtngedmioeodmfaaDoorW.PrintWords Go.Proofs.YtngedmioeodmfaaDoor.Lx
set_option linter.unusedVariables false
set_option linter.unusedSimpArgs false
theorem runeD_ascii (c : UInt8) (l : List UInt8) (h : c.toNat < 128) : runeD (c :: l) = 1 := by
  have := runeD_eq ⟨(c :: l).toArray⟩ (by simp [ByteArray.size])
  have e : bt ⟨(c :: l).toArray⟩ 0 = (c.toNat : Int) := by rw [show (0 : Int) = ((0 : Nat) : Int) from rfl, bt_getD]; rfl
  rw [e] at this
  unfold runeLen at this
  rw [if_pos (by omega)] at this
  have e2 : runeD (c :: l) = runeD (⟨(c :: l).toArray⟩ : ByteArray).data.toList := rfl
  rw [e2]; omega
theorem brkL_ascii (c : UInt8) (l : List UInt8) (h : c.toNat < 128) : brkL (c :: l) = 1 + brkL l := by
  rw [brkL_step _ (by simp), runeD_ascii c l h, if_neg (by omega)]
  rfl
theorem brkL_all_ascii : ∀ l : List UInt8, (∀ c ∈ l, c.toNat < 128) → brkL l = l.length := by
  intro l
  induction l with
  | nil => intro _; rfl
  | cons c l ih =>
    intro h
    rw [brkL_ascii c l (h c List.mem_cons_self), ih (fun x hx => h x (List.mem_cons_of_mem _ hx)), List.length_cons]; omega
theorem data_str (xs : List Int) : (strOfNums xs).data.toList = xs.map fun n => n.toNat.toUInt8 := by rw [strOfNums_data]
theorem tokM_good (x : ByteArray) (h : x.size ≤ 3000) (hv : brkL x.data.toList = x.size) {ts : List Tk} (hs : sm 0 .sk [] (bytesOf x) = .good ts) : tokM x = (ts, 0, 0) := by
  unfold tokM
  rw [if_neg (by omega), hs]
  simp only
  unfold wrongN
  rw [data_length, if_pos hv, if_neg (by omega)]
end Go.Proofs.YtngedmioeodmfaaDoor.Pu
namespace Go.Proofs.YtngedmioeodmfaaDoor.Pu
open Go.RowKit Go.Proofs.YtngedmioeodmfaaDoor.Pr Go.Proofs.YtngedmioeodmfaaDoorW.PrintWords Go.Proofs.YtngedmioeodmfaaDoor.Lx
set_option linter.unusedVariables false
set_option linter.unusedSimpArgs false
def g (l : List UInt8) (j : Nat) : Int := ((l.getD j 0).toNat : Int)
theorem runeD_list (l : List UInt8) (h : l ≠ []) : (runeD l : Int) = runeLen l.length (g l 0) (g l 1) (g l 2) (g l 3) := by
  have hp : 0 < l.length := List.length_pos_iff.2 h
  have := runeD_eq ⟨l.toArray⟩ (by simpa [ByteArray.size] using hp)
  have e0 := bt_getD ⟨l.toArray⟩ 0
  have e1 := bt_getD ⟨l.toArray⟩ 1
  have e2 := bt_getD ⟨l.toArray⟩ 2
  have e3 := bt_getD ⟨l.toArray⟩ 3
  have hs : ((ByteArray.mk l.toArray).size : Int) = l.length := by simp [ByteArray.size]
  rw [show (1 : Int) = ((1 : Nat) : Int) from rfl, show (2 : Int) = ((2 : Nat) : Int) from rfl, show (3 : Int) = ((3 : Nat) : Int) from rfl, show (0 : Int) = ((0 : Nat) : Int) from rfl, e0, e1, e2, e3, hs] at this
  exact this
theorem g_out (l : List UInt8) (j : Nat) (h : l.length ≤ j) : g l j = 0 := by
  unfold g
  rw [List.getD_eq_getElem?_getD, List.getElem?_eq_none h]; rfl
theorem g_left (A B : List UInt8) (j : Nat) (h : j < A.length) : g (A ++ B) j = g A j := by
  unfold g
  rw [List.getD_eq_getElem?_getD, List.getD_eq_getElem?_getD, List.getElem?_append_left h]
theorem runeD_ext (A B : List UInt8) (hA : A ≠ []) (h : runeD A ≠ 0) : runeD (A ++ B) = runeD A := by
  have hp : 0 < A.length := List.length_pos_iff.2 hA
  have e1 := runeD_list A hA
  have e2 := runeD_list (A ++ B) (by simp [hA])
  rw [List.length_append] at e2
  have hb := List.length_pos_iff.2 hA
  have h0 := g_left A B 0
  have h1 := g_left A B 1
  have h2 := g_left A B 2
  have h3 := g_left A B 3
  have o1 := g_out A 1
  have o2 := g_out A 2
  have o3 := g_out A 3
  generalize g (A ++ B) 0 = y0 at *
  generalize g (A ++ B) 1 = y1 at *
  generalize g (A ++ B) 2 = y2 at *
  generalize g (A ++ B) 3 = y3 at *
  generalize g A 0 = x0 at *
  generalize g A 1 = x1 at *
  generalize g A 2 = x2 at *
  generalize g A 3 = x3 at *
  generalize runeD (A ++ B) = r2 at *
  generalize runeD A = r1 at *
  generalize A.length = n at *
  generalize B.length = m at *
  have h0' := h0 hp
  subst h0'
  by_cases n1 : 1 < n
  · have h1' := h1 n1
    subst h1'
    by_cases n2 : 2 < n
    · have h2' := h2 n2
      subst h2'
      by_cases n3 : 3 < n
      · have h3' := h3 n3
        subst h3'
        unfold runeLen at e1 e2
        (repeat' split at e1) <;> (repeat' split at e2) <;> omega
      · have o := o3 (by omega)
        subst o
        unfold runeLen at e1 e2
        (repeat' split at e1) <;> (repeat' split at e2) <;> omega
    · have o := o2 (by omega)
      subst o
      unfold runeLen at e1 e2
      (repeat' split at e1) <;> (repeat' split at e2) <;> omega
  · have o := o1 (by omega)
    subst o
    unfold runeLen at e1 e2
    (repeat' split at e1) <;> (repeat' split at e2) <;> omega
theorem brkL_le (l : List UInt8) : brkL l ≤ l.length := brk_le _ _
theorem brkL_app : ∀ n (A B : List UInt8), A.length ≤ n → brkL A = A.length → brkL (A ++ B) = A.length + brkL B := by
  intro n
  induction n with
  | zero =>
    intro A B h _
    have : A = [] := List.length_eq_zero_iff.1 (by omega)
    subst this
    simp
  | succ n ih =>
    intro A B h hv
    by_cases hA : A = []
    · subst hA; simp
    · have hp : 0 < A.length := List.length_pos_iff.2 hA
      rw [brkL_step A hA] at hv
      by_cases h0 : runeD A = 0
      · rw [if_pos h0] at hv; omega
      · rw [if_neg h0] at hv
        have hle := runeD_le A hA
        have hd : (A.drop (runeD A)).length = A.length - runeD A := List.length_drop
        rw [brkL_step (A ++ B) (by simp [hA]), runeD_ext A B hA h0, if_neg h0, List.drop_append_of_le_length hle, ih (A.drop (runeD A)) B (by omega) (by omega)]
        omega
/-- A row of numbers as bytes is well formed. -/
def toU (l : List Int) : List UInt8 := l.map fun n => n.toNat.toUInt8
def V (l : List Int) : Prop := brkL (toU l) = l.length
theorem toU_app (a b : List Int) : toU (a ++ b) = toU a ++ toU b := by simp [toU]
theorem toU_len (l : List Int) : (toU l).length = l.length := by simp [toU]
theorem toU_bytes (x : ByteArray) : toU (bytesOf x) = x.data.toList := by
  have := congrArg (fun y : ByteArray => y.data.toList) (str_bytesOf x)
  simp only [data_str] at this
  exact this
theorem V_bytes (x : ByteArray) : V (bytesOf x) ↔ brkL x.data.toList = x.size := by
  unfold V; rw [toU_bytes, bytesOf_length]
theorem asc {c : Int} (h0 : 0 ≤ c) (h1 : c < 128) : (c.toNat.toUInt8).toNat < 128 := by
  simp; omega
theorem V_nil : V [] := rfl
theorem V_app {A B : List Int} (hA : V A) (hB : V B) : V (A ++ B) := by
  unfold V at *
  rw [toU_app, brkL_app _ _ _ (Nat.le_refl _) (by rw [toU_len]; exact hA), toU_len, hB, List.length_append]
theorem V_ascii (l : List Int) (h : ∀ c ∈ l, 0 ≤ c ∧ c < 128) : V l := by
  unfold V
  rw [brkL_all_ascii, toU_len]
  intro c hc
  obtain ⟨n, hn, rfl⟩ := List.mem_map.1 hc
  exact asc (h n hn).1 (h n hn).2
theorem bytesOf_app (a b : ByteArray) : bytesOf (a ++ b) = bytesOf a ++ bytesOf b := by
  unfold bytesOf
  simp [ByteArray.data_append]
theorem tokM_of (x : ByteArray) (h : x.size ≤ 3000) (hv : V (bytesOf x)) {ts : List Tk} (hs : sm 0 .sk [] (bytesOf x) = .good ts) : tokM x = (ts, 0, 0) := tokM_good x h ((V_bytes x).1 hv) hs
end Go.Proofs.YtngedmioeodmfaaDoor.Pu
namespace Go.Proofs.YtngedmioeodmfaaDoor.Pu
open Go.RowKit Go.Proofs.YtngedmioeodmfaaDoor.Pr Go.Proofs.YtngedmioeodmfaaDoorW.PrintWords Go.Proofs.YtngedmioeodmfaaDoor.Lx
set_option linter.unusedVariables false
set_option linter.unusedSimpArgs false
theorem escL_ge (l : List Int) : l.length ≤ (escL l).length := by
  induction l with
  | nil => simp [escL]
  | cons c l ih =>
    rw [escL_cons, List.length_append, List.length_cons]
    split
    all_goals simp
    all_goals omega
theorem wof_pos {t : Tk} (h : okT t) : 1 ≤ (wof t).length := by
  unfold wof
  rcases h with ⟨h1, c, l, h2, _⟩ | ⟨h1, _⟩ | ⟨c, _, h1, h2⟩
  · rw [if_neg (by omega), h2]; simp
  · rw [if_pos h1]; simp
  · rw [if_neg (by rw [h1]; exact opIdx_ne c), h2]; simp
theorem Placed.len {bs : List Int} : ∀ {e : Nat} {ts : List Tk}, Placed bs e ts → e ≤ bs.length → ts.length + e ≤ bs.length
  | e, [], _, h => by simpa using h
  | e, t :: r, ⟨hok, a, ha, hea, ⟨rest, hr⟩, hp⟩, h => by
    have h1 := wof_pos hok
    have h2 := congrArg List.length hr
    rw [List.length_drop, List.length_append] at h2
    have := Placed.len hp (by omega)
    rw [List.length_cons]; omega
theorem tokM_cases (x : ByteArray) : (∃ ts, tokM x = (ts, 0, 0) ∧ sm 0 .sk [] (bytesOf x) = .good ts ∧ V (bytesOf x) ∧ x.size ≤ 3000) ∨ (∃ j : Nat, tokM x = ([], 8, (j : Int)) ∧ j ≤ x.size) ∨ (tokM x = ([], 2, 0) ∧ x.size > 3000) := by
  unfold tokM
  by_cases h : x.size > 3000
  · rw [if_pos h]; exact .inr (.inr ⟨rfl, h⟩)
  · rw [if_neg h]
    have hw : (wrongN x.data.toList ≤ x.size) ∨ (wrongN x.data.toList = x.size + 1 ∧ brkL x.data.toList = x.size) := by
      unfold wrongN
      rw [data_length]
      split
      · rename_i q; exact .inr ⟨rfl, q⟩
      · have := brkL_le x.data.toList; rw [data_length] at this; exact .inl this
    cases hs : sm 0 .sk [] (bytesOf x) with
    | bad j =>
      have hj : j ≤ x.size := sm_bad_le x x.size 0 .sk [] j (by omega) (by omega) (fun _ _ _ e => by cases e) hs
      refine .inr (.inl ⟨min (wrongN x.data.toList) j, ?_, by omega⟩)
      simp only; congr 2; omega
    | good ts =>
      simp only
      rcases hw with hw | ⟨hw, hv⟩
      · rw [if_pos (by omega)]; exact .inr (.inl ⟨wrongN x.data.toList, rfl, hw⟩)
      · rw [if_neg (by omega)]; exact .inl ⟨ts, rfl, rfl, (V_bytes x).2 hv, by omega⟩
end Go.Proofs.YtngedmioeodmfaaDoor.Pu
namespace Go.Proofs.YtngedmioeodmfaaDoor.Pu
open Go.RowKit Go.Proofs.YtngedmioeodmfaaDoor.Pr Go.Proofs.YtngedmioeodmfaaDoorW.PrintWords Go.Proofs.YtngedmioeodmfaaDoor.Lx
set_option linter.unusedVariables false
set_option linter.unusedSimpArgs false
def key (t : Tk) : Int × ByteArray := (t.f0, t.f2)
theorem Placed.all {bs : List Int} : ∀ {e : Nat} {ts : List Tk}, Placed bs e ts → ∀ t ∈ ts, okT t ∧ ∃ (a : Nat) (rest : List Int), bs.drop a = wof t ++ rest
  | _, [], _, t, h => by cases h
  | _, x :: r, ⟨hok, a, _, _, ⟨rest, hr⟩, hp⟩, t, h => by
    rcases List.mem_cons.1 h with rfl | h
    · exact ⟨hok, a, rest, hr⟩
    · exact Placed.all hp t h
end Go.Proofs.YtngedmioeodmfaaDoor.Pu
namespace Go.Proofs.YtngedmioeodmfaaDoor.Pu
open Go.RowKit Go.Proofs.YtngedmioeodmfaaDoor.Pr Go.Proofs.YtngedmioeodmfaaDoorW.PrintWords Go.Proofs.YtngedmioeodmfaaDoor.Lx
set_option linter.unusedVariables false
set_option linter.unusedSimpArgs false
theorem w10 : pBlank 10 = true ∧ pWord 10 = false := by decide +kernel
end Go.Proofs.YtngedmioeodmfaaDoor.Pu
