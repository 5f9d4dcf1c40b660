/- 15 texts of the proof, put together, less what is not used; what a tool printed stands among them. -/
import Derived.Lib.ValidLaws
import Derived.Lib.TrimUEq
import Derived.Lib.MapLaws
import Derived.KernelRfl
import Derived.Test.YtngedmioeodmfaaDoorMTe2
set_option maxRecDepth 100000
namespace Go.Proofs
open Go.RowKit
theorem sTe3_0 {p_ : Prop} (h_ : p_ := by
 exact ⟨by first | rfl | (simp; done) | (simp [*]; done), by repeat (first | exact Drawn0.refl _ | apply Drawn0.step)⟩) : p_ := h_
theorem sTe3_1 {p_ : Prop} (h_ : p_ := by
 exact ⟨by first | rfl | (simp [errW_none, errW_some] <;> rfl) | (simp [*, errW_none, errW_some] <;> rfl), by repeat (first | (with_reducible first | exact HI0.out | apply IsS67.alloc | apply IsS67.drewN | apply IsS67.drew | apply IsS67.set_1 | apply IsS67.set_2 | apply IsS67.set_3 | apply IsS67.set_4) | exact HI0.out), by repeat (first | (with_reducible first | exact HB.out | apply below_alloc | apply pw_below_drewN | apply below_drew1 | refine below_set ?_ (IsS67.ge HI0.out)) | exact HB.out), by repeat (first | (with_reducible first | exact HK.out | apply KeepBut.set_ | apply keep_drewN | apply keep_drew | apply keep_alloc) | exact HK.out)⟩) : p_ := h_
theorem sTe3_2 {p_ : Prop} (h_ : p_ := by
 have e : Go.Lib.decodeN n b0 b1 b2 b3 = (65533, 1) := by
  unfold Go.Lib.decodeN; rw [if_neg a1, if_neg (by omega), if_neg (by omega), if_neg (by omega)]
 rw [e, if_pos ⟨rfl, rfl⟩, if_neg (by omega)]; rfl) : p_ := h_
theorem sTe3_3 {p_ : Prop} (h_ : p_ := by
 exact ⟨by first | rfl | (simp [errW_none, errW_some] <;> rfl) | (simp [*, errW_none, errW_some] <;> rfl), by repeat (first | (with_reducible first | exact HB.out | apply below_alloc | apply pw_below_drewN | apply below_drew1) | exact HB.out)⟩) : p_ := h_
end Go.Proofs
namespace Go.Proofs.YtngedmioeodmfaaDoor.Pu
open Go.RowKit Go.Proofs.YtngedmioeodmfaaDoor.Pr Go.Proofs.YtngedmioeodmfaaDoorW.PrintWords Go.Proofs.YtngedmioeodmfaaDoor.Lx
inductive St where
 | sk : St
 | nt : St
 | wd (a : Nat) (acc : List Int) : St
 | qt (a : Nat) (acc : List Int) : St
 | es (a : Nat) (p : Nat) (acc : List Int) : St
inductive Out where
 | bad (j : Nat) : Out
 | good (ts : List Tk) : Out
inductive One where
 | bad (j : Nat) : One
 | go (st : St) (ts : List Tk) : One
def fin (n : Nat) : St → List Tk → Out
 | .sk, ts => .good ts
 | .nt, ts => .good ts
 | .wd a acc, ts => .good (ts ++ [⟨1, a, strOfNums acc⟩])
 | .qt _ _, _ => .bad n
 | .es _ _ _, _ => .bad n
def st1 (i : Nat) (c : Int) (ts : List Tk) : One :=
 if pBlank c = true then .go .sk ts
 else if c = 35 then .go .nt ts
 else if pLetter c = true then .go (.wd i [c]) ts
 else if c = 34 then .go (.qt i []) ts
 else if c = 40 ∨ c = 41 ∨ c = 59 then .go .sk (ts ++ [⟨opIdx c, i, strOfNums [c]⟩])
 else .bad i
def step (i : Nat) (c : Int) : St → List Tk → One
 | .sk, ts => st1 i c ts
 | .nt, ts => if c = 10 then .go .sk ts else .go .nt ts
 | .wd a acc, ts => if pWord c = true then .go (.wd a (acc ++ [c])) ts else st1 i c (ts ++ [⟨1, a, strOfNums acc⟩])
 | .qt a acc, ts => if c = 34 then .go .sk (ts ++ [⟨2, a, strOfNums acc⟩]) else if c = 10 then .bad i else if c = 92 then .go (.es a i acc) ts else .go (.qt a (acc ++ [c])) ts
 | .es a p acc, ts => if c = 34 ∨ c = 92 then .go (.qt a (acc ++ [c])) ts else .bad p
def sm : Nat → St → List Tk → List Int → Out
 | i, st, ts, [] => fin i st ts
 | i, st, ts, c :: l => match step i c st ts with
  | .bad j => .bad j
  | .go st' ts' => sm (i + 1) st' ts' l
def cast : List Tk × Option Nat → Out
 | (ts, none) => .good ts
 | (_, some j) => .bad j
def dr (s : ByteArray) (i : Nat) : List Int := (bytesOf s).drop i
theorem dr_cons (s : ByteArray) (i : Nat) (h : i < s.size) : dr s i = bt s (i : Int) :: dr s (i + 1) := bt_drop s i h
theorem dr_nil (s : ByteArray) (i : Nat) (h : ¬ i < s.size) : dr s i = [] := List.drop_eq_nil_of_le (by rw [bytesOf_length]; omega)
theorem sm_go (s : ByteArray) (i : Nat) (h : i < s.size) (st : St) (ts : List Tk) (st' : St) (ts' : List Tk) (e : step i (bt s (i : Int)) st ts = .go st' ts') : sm i st ts (dr s i) = sm (i + 1) st' ts' (dr s (i + 1)) := by
 rw [dr_cons s i h, sm, e]
theorem sm_bad (s : ByteArray) (i : Nat) (h : i < s.size) (st : St) (ts : List Tk) (j : Nat) (e : step i (bt s (i : Int)) st ts = .bad j) : sm i st ts (dr s i) = .bad j := by
 rw [dr_cons s i h, sm, e]
theorem sm_row (s : ByteArray) (p : Int → Bool) (st : St) (hst : ∀ i c ts, p c = true → step i c st ts = .go st ts) : ∀ d i ts, sm i st ts (dr s i) = sm (rowEnd s p d i) st ts (dr s (rowEnd s p d i)) := by
 intro d
 induction d with
 | zero => intro i ts; rfl
 | succ d ih =>
  intro i ts
  rw [rowEnd]
  by_cases q : i < s.size ∧ p (bt s i) = true
  ·rw [if_pos q, ← ih (i + 1) ts]
   exact sm_go s i q.1 _ _ _ _ (hst _ _ _ q.2)
  ·rw [if_neg q]
theorem sm_blanks (s : ByteArray) (i : Nat) (ts : List Tk) : sm i .sk ts (dr s i) = sm (bEnd s i) .sk ts (dr s (bEnd s i)) := by
 refine sm_row s pBlank .sk ?_ _ i ts
 intro i c ts h
 simp only [step, st1, h, if_true]
theorem rowEnd_not (s : ByteArray) (p : Int → Bool) : ∀ d i, s.size - i ≤ d → ¬ (rowEnd s p d i < s.size ∧ p (bt s (rowEnd s p d i)) = true) := by
 intro d
 induction d with
 | zero => intro i h; rw [rowEnd]; omega
 | succ d ih =>
  intro i h
  rw [rowEnd]
  split
  ·exact ih (i + 1) (by omega)
  ·rename_i q; exact q
theorem nt_all : ∀ c : Fin 256, pNN (c.val : Int) = true ∨ (c.val : Int) = 10 := by decide +kernel
theorem bt_fin (s : ByteArray) (i : Int) : ∃ q : Fin 256, (q.val : Int) = bt s i := by
 have hr := bt_range s i
 exact ⟨⟨(bt s i).toNat, by omega⟩, by simp; omega⟩
theorem sm_notes (s : ByteArray) (i : Nat) (h : i < s.size) (hc : bt s (i : Int) = 35) (ts : List Tk) : sm i .sk ts (dr s i) = sm (nEnd s i) .sk ts (dr s (nEnd s i)) := by
 have e1 : sm i .sk ts (dr s i) = sm (i + 1) .nt ts (dr s (i + 1)) := sm_go s i h _ _ _ _ (by simp only [step, st1, hc]; rfl)
 have e2 : nEnd s i = rowEnd s pNN (s.size - (i + 1)) (i + 1) := rowEnd_go s pNN i h (by rw [hc]; rfl)
 rw [e1, e2, sm_row s pNN .nt ?_ (s.size - (i + 1)) (i + 1) ts]
 ·have hn := rowEnd_not s pNN (s.size - (i + 1)) (i + 1) (Nat.le_refl _)
  generalize rowEnd s pNN (s.size - (i + 1)) (i + 1) = r at hn ⊢
  by_cases q : r < s.size
  ·obtain ⟨c, hc2⟩ := bt_fin s (r : Int)
   have h10 : bt s (r : Int) = 10 := by
    rcases nt_all c with h | h
    ·exact absurd ⟨q, by rw [← hc2]; exact h⟩ hn
    ·rw [← hc2]; exact h
   rw [sm_go s r q .nt ts .sk ts (by simp only [step, h10, if_true]), sm_go s r q .sk ts .sk ts (by simp only [step, st1, h10]; rfl)]
  ·rw [dr_nil s r q]; rfl
 ·intro i c ts h
  simp only [step]
  rw [if_neg]
  intro e; rw [e] at h; cases h
theorem sm_btw2 (s : ByteArray) : ∀ d i ts, sm i .sk ts (dr s i) = sm (btw2 s d i) .sk ts (dr s (btw2 s d i)) := by
 intro d
 induction d with
 | zero => intro i ts; rfl
 | succ d ih =>
  intro i ts
  rw [btw2]
  split
  ·rename_i q
   rw [sm_notes s i q.1 q.2, sm_blanks, ih]
  ·rfl
theorem sm_btw (s : ByteArray) (i : Nat) (ts : List Tk) : sm i .sk ts (dr s i) = sm (btw s i) .sk ts (dr s (btw s i)) := by
 rw [sm_blanks]
 exact sm_btw2 s _ _ ts
theorem btw2_not (s : ByteArray) : ∀ d i, i ≤ s.size → s.size - i ≤ d → ¬ (i < s.size ∧ pBlank (bt s i) = true) → btw2 s d i < s.size → pBlank (bt s (btw2 s d i)) = false ∧ bt s (btw2 s d i) ≠ 35 := by
 intro d
 induction d with
 | zero => intro i hi h _ hl; rw [btw2] at hl; omega
 | succ d ih =>
  intro i hi h hb
  rw [btw2]
  split
  ·rename_i q
   have h1 := nEnd_lt s i q.1 q.2
   have h2 := nEnd_le s i hi
   have h3 := bEnd_le s (nEnd s i) h2.2
   exact ih (bEnd s (nEnd s i)) h3.2 (by omega) (rowEnd_not s pBlank _ _ (Nat.le_refl _))
  ·rename_i q
   intro hl
   constructor
   ·cases hx : pBlank (bt s i) with
    | true => exact absurd ⟨hl, hx⟩ hb
    | false => rfl
   ·intro e; exact q ⟨hl, e⟩
theorem btw_not (s : ByteArray) (i : Nat) (hi : i ≤ s.size) (h : btw s i < s.size) : pBlank (bt s (btw s i)) = false ∧ bt s (btw s i) ≠ 35 :=
 btw2_not s _ _ (bEnd_le s i hi).2 (Nat.le_refl _) (rowEnd_not s pBlank _ _ (Nat.le_refl _)) h
theorem strOfNums_inj_bytes (s : ByteArray) (xs : List Int) (h : bytesOf s = xs) : strOfNums xs = s := by rw [← h]; exact str_bytesOf s
theorem bytesOf_ext (s : ByteArray) (i j : Nat) : bytesOf (s.extract i j) = ((bytesOf s).take j).drop i := by
 unfold bytesOf
 rw [ByteArray.data_extract, Array.toList_extract, List.extract_eq_take_drop, List.map_take, List.map_drop, List.drop_take]
theorem sm_word (s : ByteArray) (a : Nat) : ∀ d i acc ts, sm i (.wd a acc) ts (dr s i) = sm (rowEnd s pWord d i) (.wd a (acc ++ ((bytesOf s).take (rowEnd s pWord d i)).drop i)) ts (dr s (rowEnd s pWord d i)) := by
 intro d
 induction d with
 | zero =>
  intro i acc ts
  rw [rowEnd, List.drop_eq_nil_of_le (by rw [List.length_take]; omega), List.append_nil]
 | succ d ih =>
  intro i acc ts
  rw [rowEnd]
  by_cases q : i < s.size ∧ pWord (bt s i) = true
  ·rw [if_pos q]
   rw [sm_go s i q.1 _ _ (.wd a (acc ++ [bt s (i : Int)])) ts (by simp only [step, q.2, if_true])]
   rw [ih (i + 1)]
   have hr : i + 1 ≤ rowEnd s pWord d (i + 1) := by
    have := rowEnd_le s pWord d (i + 1) (by omega); omega
   congr 2
   generalize rowEnd s pWord d (i + 1) = r at hr ⊢
   rw [List.append_assoc]
   congr 1
   have hl : i < ((bytesOf s).take r).length := by rw [List.length_take, bytesOf_length]; omega
   rw [List.drop_eq_getElem_cons hl]
   congr 1
   rw [List.getElem_take, ← rd_bytesOf, rd, Int.toNat_natCast, List.getD_eq_getElem?_getD, List.getElem?_eq_getElem (by rw [bytesOf_length]; exact q.1)]
   rfl
  ·rw [if_neg q, List.drop_eq_nil_of_le (by rw [List.length_take]; omega), List.append_nil]
theorem sm_tok_word (s : ByteArray) (i : Nat) (h : i < s.size) (hb : pBlank (bt s i) = false) (h35 : bt s (i : Int) ≠ 35) (hl : pLetter (bt s i) = true) (ts : List Tk) :
  sm i .sk ts (dr s i) = sm (wEnd s i) .sk (ts ++ [⟨1, i, s.extract i (wEnd s i)⟩]) (dr s (wEnd s i)) := by
 obtain ⟨c, hc⟩ := bt_fin s (i : Int)
 have hw : pWord (bt s (i : Int)) = true := by rw [← hc]; exact letter_word c (by rw [hc]; exact hl)
 have e : wEnd s i = rowEnd s pWord (s.size - (i + 1)) (i + 1) := rowEnd_go s pWord i h hw
 rw [sm_go s i h .sk ts (.wd i [bt s (i : Int)]) ts (by simp only [step, st1, hb, hl, if_true]; rw [if_neg h35]; rfl), sm_word s i (s.size - (i + 1)) (i + 1), ← e]
 have hle := wEnd_le s i (by omega)
 have hlt := wEnd_lt s i h hl
 have hst : strOfNums ([bt s (i : Int)] ++ ((bytesOf s).take (wEnd s i)).drop (i + 1)) = s.extract i (wEnd s i) := by
  apply strOfNums_inj_bytes
  rw [bytesOf_ext]
  have hl : i < ((bytesOf s).take (wEnd s i)).length := by rw [List.length_take, bytesOf_length]; omega
  rw [List.drop_eq_getElem_cons hl]
  show _ :: _ = _ :: _
  congr 1
  rw [List.getElem_take, ← rd_bytesOf, rd, Int.toNat_natCast, List.getD_eq_getElem?_getD, List.getElem?_eq_getElem (by rw [bytesOf_length]; exact h)]
  rfl
 have hn : ¬ (wEnd s i < s.size ∧ pWord (bt s (wEnd s i)) = true) := rowEnd_not s pWord _ _ (Nat.le_refl _)
 by_cases q : wEnd s i < s.size
 ·have hn2 : pWord (bt s (wEnd s i)) = false := by
   cases hx : pWord (bt s (wEnd s i)) with
   | true => exact absurd ⟨q, hx⟩ hn
   | false => rfl
  rw [dr_cons s _ q, sm, sm]
  simp only [step, hn2, hst]
  rfl
 ·rw [dr_nil s _ q, sm, sm]
  simp only [fin, hst]
theorem sm_quo (s : ByteArray) (a : Nat) (ts : List Tk) : ∀ d i out, i ≤ s.size → s.size - i ≤ d → sm i (.qt a out) ts (dr s i) =
    (match quo s d i out with
     | (o, j, true) => sm j .sk (ts ++ [⟨2, a, strOfNums o⟩]) (dr s j)
     | (_, j, false) => .bad j) := by
  intro d
  induction d using Nat.strongRecOn with
  | _ d ih =>
    intro i out hi hd
    cases d with
    | zero => rw [dr_nil s i (by omega), quo]; rfl
    | succ d =>
      rw [quo]
      by_cases q : i < s.size
      · rw [if_pos q]
        by_cases h34 : bt s (i : Int) = 34
        · rw [if_pos h34]
          exact sm_go s i q _ _ _ _ (by simp only [step, h34, if_true])
        · rw [if_neg h34]
          by_cases h10 : bt s (i : Int) = 10
          · rw [if_pos h10]
            exact sm_bad s i q _ _ _ (by simp only [step]; rw [if_neg h34, if_pos h10])
          · rw [if_neg h10]
            by_cases h92 : bt s (i : Int) = 92
            · rw [if_pos h92]
              rw [sm_go s i q _ _ (.es a i out) ts (by simp only [step]; rw [if_neg h34, if_neg h10, if_pos h92])]
              by_cases he : i + 1 = s.size
              · rw [if_pos he, dr_nil s (i + 1) (by omega)]; rfl
              · rw [if_neg he]
                have q2 : i + 1 < s.size := by omega
                by_cases hq : bt s ((i + 1 : Nat) : Int) = 34 ∨ bt s ((i + 1 : Nat) : Int) = 92
                · rw [if_pos hq, sm_go s (i + 1) q2 _ _ (.qt a (out ++ [bt s ((i + 1 : Nat) : Int)])) ts (by simp only [step]; rw [if_pos hq])]
                  exact ih d (by omega) (i + 2) _ (by omega) (by omega)
                · rw [if_neg hq]
                  exact sm_bad s (i + 1) q2 _ _ _ (by simp only [step]; rw [if_neg hq])
            · rw [if_neg h92, sm_go s i q _ _ (.qt a (out ++ [bt s (i : Int)])) ts (by simp only [step]; rw [if_neg h34, if_neg h10, if_neg h92])]
              exact ih d (by omega) (i + 1) _ (by omega) (by omega)
      · rw [if_neg q, dr_nil s i q]
        have : i = s.size := by omega
        rfl
theorem sm_run (s : ByteArray) : ∀ d i ts, s.size - i ≤ d → i ≤ s.size → (i < s.size → pBlank (bt s i) = false ∧ bt s (i : Int) ≠ 35) → cast (runF s d i ts) = sm i .sk ts (dr s i) := by
 intro d
 induction d with
 | zero => intro i ts h hi _; rw [runF, dr_nil s i (by omega)]; rfl
 | succ d ih =>
  intro i ts h hi hb
  rw [runF]
  by_cases q : i < s.size
  ·rw [if_pos q]
   obtain ⟨hb1, hb2⟩ := hb q
   have go : ∀ t j, tokE s i = some (t, j, true) → cast (runF s d (btw s j) (ts ++ [t])) = sm j .sk (ts ++ [t]) (dr s j) := by
    intro t j e
    have hj := tokE_ge s i q e
    have hbl := btw_le s j hj.2
    rw [sm_btw s j]
    exact ih (btw s j) _ (by omega) hbl.2 (btw_not s j hj.2)
   cases e : tokE s i with
   | none =>
    simp only
    unfold tokE at e
    split at e
    ·cases e
    ·rename_i n1
     split at e
     ·cases e
     ·rename_i n2
      split at e
      ·cases e
      ·rename_i n3
       refine (sm_bad s i q _ _ _ ?_).symm
       simp only [step, st1]
       rw [hb1, if_neg (by simp), if_neg hb2, if_neg n1, if_neg n2, if_neg n3]
   | some x =>
    obtain ⟨t, j, ok⟩ := x
    have e0 := e
    unfold tokE at e
    split at e
    ·rename_i hl
     simp only [Option.some.injEq, Prod.mk.injEq] at e
     obtain ⟨rfl, rfl, rfl⟩ := e
     simp only
     rw [go _ _ e0, sm_tok_word s i q hb1 hb2 hl]
    ·rename_i n1
     split at e
     ·rename_i h34
      simp only [Option.some.injEq, Prod.mk.injEq] at e
      obtain ⟨rfl, rfl, rfl⟩ := e
      have e1 : sm i .sk ts (dr s i) = sm (i + 1) (.qt i []) ts (dr s (i + 1)) := sm_go s i q _ _ _ _ (by simp only [step, st1]; rw [hb1, if_neg (by simp), if_neg hb2, if_neg n1, if_pos h34])
      rw [e1, sm_quo s i ts (s.size - (i + 1)) (i + 1) [] (by omega) (Nat.le_refl _)]
      have hqe : quo s (s.size - (i + 1)) (i + 1) [] = quoE s (i + 1) [] := rfl
      rw [hqe]
      obtain ⟨o, j, b, hq⟩ : ∃ o j b, quoE s (i + 1) [] = (o, j, b) := ⟨_, _, _, rfl⟩
      rw [hq] at e0 ⊢
      cases b with
      | true => simp only; rw [go _ _ e0]
      | false => rfl
     ·rename_i n2
      split at e
      ·rename_i h3
       simp only [Option.some.injEq, Prod.mk.injEq] at e
       obtain ⟨rfl, rfl, rfl⟩ := e
       simp only
       rw [go _ _ e0]
       have hx : s.extract i (i + 1) = strOfNums [bt s (i : Int)] := by
        refine (strOfNums_inj_bytes _ _ ?_).symm
        rw [bytesOf_ext]
        have hl : i < ((bytesOf s).take (i + 1)).length := by rw [List.length_take, bytesOf_length]; omega
        rw [List.drop_eq_getElem_cons hl, List.drop_eq_nil_of_le (by rw [List.length_take]; omega)]
        congr 1
        rw [List.getElem_take, ← rd_bytesOf, rd, Int.toNat_natCast, List.getD_eq_getElem?_getD, List.getElem?_eq_getElem (by rw [bytesOf_length]; exact q)]
        rfl
       rw [hx]
       exact (sm_go s i q _ _ _ _ (by simp only [step, st1]; rw [hb1, if_neg (by simp), if_neg hb2, if_neg n1, if_neg n2, if_pos h3])).symm
      ·cases e
  ·rw [if_neg q, dr_nil s i q]; rfl
theorem run_sm (s : ByteArray) : cast (run s (btw s 0) []) = sm 0 .sk [] (bytesOf s) := by
 have h := btw_le s 0 (Nat.zero_le _)
 have := sm_run s (s.size - btw s 0) (btw s 0) [] (Nat.le_refl _) h.2 (btw_not s 0 (Nat.zero_le _))
 rw [← sm_btw s 0] at this
 exact this
theorem sm_bad_le (s : ByteArray) : ∀ d i st ts j, s.size - i ≤ d → i ≤ s.size → (∀ a p acc, st = .es a p acc → p ≤ s.size) → sm i st ts (dr s i) = .bad j → j ≤ s.size := by
  intro d
  induction d with
  | zero =>
    intro i st ts j h hi he e
    rw [dr_nil s i (by omega), sm] at e
    cases st <;> simp [fin] at e <;> omega
  | succ d ih =>
    intro i st ts j h hi he e
    by_cases q : i < s.size
    · rw [dr_cons s i q, sm] at e
      cases hs : step i (bt s (i : Int)) st ts with
      | bad j' =>
        rw [hs] at e
        simp only [Out.bad.injEq] at e
        subst e
        cases st with
        | sk => simp only [step, st1] at hs; repeat' split at hs
                all_goals simp at hs; try omega
        | nt => simp only [step] at hs; split at hs <;> simp at hs
        | wd a acc => simp only [step, st1] at hs; repeat' split at hs
                      all_goals simp at hs; try omega
        | qt a acc => simp only [step] at hs; repeat' split at hs
                      all_goals simp at hs; try omega
        | es a p acc => simp only [step] at hs; repeat' split at hs
                        all_goals simp at hs; try (have := he a p acc rfl; omega)
      | go st' ts' =>
        rw [hs] at e
        have hes : ∀ a p acc, st' = .es a p acc → p ≤ s.size := by
          intro a p acc e2
          subst e2
          cases st with
          | sk => simp only [step, st1] at hs; repeat' split at hs
                  all_goals simp at hs
          | nt => simp only [step] at hs; split at hs <;> simp at hs
          | wd a acc => simp only [step, st1] at hs; repeat' split at hs
                        all_goals simp at hs
          | qt a acc => simp only [step] at hs; repeat' split at hs
                        all_goals simp at hs; try omega
          | es a p acc => simp only [step] at hs; repeat' split at hs
                          all_goals simp at hs
        exact ih (i + 1) st' ts' j (by omega) (by omega) hes e
    · rw [dr_nil s i q, sm] at e
      cases st <;> simp [fin] at e <;> omega
theorem tokRes_sm (s : ByteArray) (bad : Int) : tokRes s bad = (match sm 0 .sk [] (bytesOf s) with
  | .bad j => ([], 8, min bad (j : Int))
  | .good ts => if bad ≤ (s.size : Int) then ([], 8, bad) else (ts, 0, 0)) := by
 have h := run_sm s
 unfold tokRes
 obtain ⟨ts, o, hr⟩ : ∃ ts o, run s (btw s 0) [] = (ts, o) := ⟨_, _, rfl⟩
 rw [hr] at h
 cases o with
 | none => rw [← h, hr]; rfl
 | some j =>
  rw [← h, hr]
  have hj : j ≤ s.size := sm_bad_le s s.size 0 .sk [] j (by omega) (by omega) (fun _ _ _ e => by cases e) (by rw [← show bytesOf s = dr s 0 from rfl] ; exact h.symm)
  simp only [cast]
  rw [if_pos (by omega)]
end Go.Proofs.YtngedmioeodmfaaDoor.Pu
namespace Go.Proofs.YtngedmioeodmfaaDoor.Pr
open Go.RowKit Go.Proofs.YtngedmioeodmfaaDoorW.PrintWords Go.Proofs.YtngedmioeodmfaaDoorW.PrintLast Go.Proofs.YtngedmioeodmfaaDoorW.PrintMore
attribute [local go_sem] max2_int min2_int max_two min_two max_three min_three max_four min_four
def lex_Tokens.f (k : Nat) (a0 : ByteArray) : Option (List (S40) × Int × Int) := if (a0.size : Int) > 3000 then some ([], 2, 0) else (lex_wrong.f k a0).bind fun bad => some (Go.Proofs.YtngedmioeodmfaaDoor.Lx.tokRes a0 bad)
theorem lex_Tokens.calls (k : Nat) (a0 : ByteArray) (r1 : List (S40)) (r2 : Int) (r3 : Int) (w : World) (hL : Laid w) (h : lex_Tokens.f k a0 = some (r1, r2, r3)) :
  Calls Tryd.prog 15 #[.string a0] w fun e w' => ∃ v0_ : Value, e = .returned (.tuple #[v0_, .agg #[.int .i64 r2, .int .i64 r3]]) ∧ Kd.R k40 40 w' w.heap.size (fun _ => True) v0_ r1 ∧ Below w.heap.size w w' := by
 unfold lex_Tokens.f at h
 by_cases hs : (a0.size : Int) > 3000
 ·rw [if_pos hs] at h
  simp only [Option.some.injEq, Prod.mk.injEq] at h
  obtain ⟨rfl, rfl, rfl⟩ := h
  refine (Go.Proofs.YtngedmioeodmfaaDoor.Lx.tokens_big a0 w (by omega)).mono ?_
  rintro e w' ⟨rfl, hb⟩
  exact ⟨_, rfl, Kd.R_nil _ _ _ _ _, hb⟩
 ·rw [if_neg hs] at h
  obtain ⟨bad, hw, hr⟩ := Option.bind_eq_some_iff.mp h
  exact Go.Proofs.YtngedmioeodmfaaDoor.Lx.tokens_calls a0 k bad w hL (by omega) hw r1 r2 r3 (Option.some.inj hr)
end Go.Proofs.YtngedmioeodmfaaDoor.Pr
namespace Go.Proofs.YtngedmioeodmfaaDoor.Pr
open Go.RowKit Go.Proofs.YtngedmioeodmfaaDoorW.PrintWords Go.Proofs.YtngedmioeodmfaaDoorW.PrintLast Go.Proofs.YtngedmioeodmfaaDoorW.PrintMore
attribute [local go_sem] max2_int min2_int max_two min_two max_three min_three max_four min_four
mutual
def parapetref9_runeAt.j2 : Nat → ByteArray → Int → Int → Int → Option (Int)
 | 0, _, _, _, _ => none
 | k + 1, x0, x4, x5, x6 => if (x0.size : Int) < x4 then (some 0) else (parapetref9_runeAt.l0 k x0 x4 x5 x6 1)
def parapetref9_runeAt.l0 : Nat → ByteArray → Int → Int → Int → Int → Option (Int)
 | 0, _, _, _, _, _ => none
 | k + 1, x0, x4, x5, x6, x7 => if x7 < x4 then (if 0 ≤ x7 then (if x7 < (x0.size : Int) then (if (Go.bits .and .u8 (bt x0 x7) 192) = 128 then (parapetref9_runeAt.l0 k x0 x4 (Go.bits .or .i64 (wrap64 (x5 * 64)) (wrap64 (Go.bits .and .u8 (bt x0 x7) 63))) x6 (wrap64 (x7 + 1))) else (some 0)) else (none)) else (none)) else (if x5 < x6 then (some 0) else (if x5 > 1114111 then (some 0) else (if x5 ≥ 55296 then (if x5 ≤ 57343 then (some 0) else (some x4)) else (some x4))))
def parapetref9_runeAt.j0 : Nat → ByteArray → Int → Int → Bool → Option (Int)
 | 0, _, _, _, _ => none
 | k + 1, x0, x3, x5, x15 => if x15 = true then (parapetref9_runeAt.j2 k x0 2 (Go.bits .and .i64 x5 31) 128) else (if x3 ≥ 224 then (parapetref9_runeAt.j1 k x0 x3 x5 (decide (x3 < 240))) else (parapetref9_runeAt.j1 k x0 x3 x5 false))
def parapetref9_runeAt.j1 : Nat → ByteArray → Int → Int → Bool → Option (Int)
 | 0, _, _, _, _ => none
 | k + 1, x0, x3, x5, x24 => if x24 = true then (parapetref9_runeAt.j2 k x0 3 (Go.bits .and .i64 x5 15) 2048) else (if x3 ≥ 240 then (if x3 < 245 then (parapetref9_runeAt.j2 k x0 4 (Go.bits .and .i64 x5 7) 65536) else (some 0)) else (some 0))
end
def parapetref9_runeAt.f (k : Nat) (a0 : ByteArray) : Option (Int) := if 0 < (a0.size : Int) then (if (bt a0 0) < 128 then (some 1) else (if (bt a0 0) ≥ 194 then (parapetref9_runeAt.j0 k a0 (bt a0 0) (wrap64 (bt a0 0)) (decide ((bt a0 0) < 224))) else (parapetref9_runeAt.j0 k a0 (bt a0 0) (wrap64 (bt a0 0)) false))) else (none)
set_option maxHeartbeats 8000000 in
set_option maxRecDepth 100000 in
theorem parapetref9_runeAt.calls (k : Nat) (a0 : ByteArray) (r : Int) (w : World) (h : parapetref9_runeAt.f k a0 = some r) :
  Calls Tryd.prog 73 #[.string a0] w fun e w' => e = .returned (.int .i64 r) ∧ Drawn0 w w' := by
 have H : (if 0 < (a0.size : Int) then (if (bt a0 0) < 128 then (some 1) else (if (bt a0 0) ≥ 194 then (parapetref9_runeAt.j0 k a0 (bt a0 0) (wrap64 (bt a0 0)) (decide ((bt a0 0) < 224))) else (parapetref9_runeAt.j0 k a0 (bt a0 0) (wrap64 (bt a0 0)) false))) else (none)) = some r := h
 clear h
 by_cases c2 : 0 < (a0.size : Int)
 ·rw [if_pos c2] at H
  have c2b0 : decide (0 < (a0.size : Int)) = true := decide_eq_true c2
  have c2b1 : decide (0 < a0.size) = true := decide_eq_true (by omega)
  clear c2
  have HC4 := Aside0.mk H
  clear H
  have p3 : 0 ≤ (0 : Int) := (by omega)
  have q3 : 0 < a0.size := (by have : (0 : Int) < (a0.size : Int) := of_decide_eq_true (by first | (with_reducible assumption) | assumption); omega)
  have hx3 : ∀ h : 0 < a0.size, ((a0[0]'h).toNat : Int) = bt a0 0 := bt_at a0 0
  clear p3
  have qi3 : (0 < (a0.size : Int)) = True := eq_true (of_decide_eq_true (by first | (with_reducible assumption) | assumption))
  replace q3 := eq_true q3
  go_enter Tryd.func73, Tryd.ntmps73
  go_upto_block 0 with (fail)
  go_cut [4, 5, 6] (fun v4 v5 v6 wc => ∃ (kq : Nat) (x4_3 : Int) (x5_3 : Int) (x6_3 : Int), v4 = .int .i64 x4_3 ∧ v5 = .int .i64 x5_3 ∧ v6 = .int .i64 x6_3 ∧ Aside0 (parapetref9_runeAt.j2 kq a0 x4_3 x5_3 x6_3 = some r) ∧ Aside0 (kq ≤ k) ∧ Drawn0 w wc)
  case first =>
   have H := HC4.out
   clear HC4
   by_cases c5 : (bt a0 0) < 128
   ·rw [if_pos c5] at H
    have c5b0 : decide ((bt a0 0) < 128) = true := decide_eq_true c5
    clear c5
    (first | rw [c5b0] | (simp only [i64_w, i32_w]; rw [c5b0]) | skip)
    obtain rfl := Option.some.inj H
    go_wp2
    go_ret
    exact sTe3_0
   ·rw [if_neg c5] at H
    have c5b0 : decide ((bt a0 0) < 128) = false := decide_eq_false c5
    clear c5
    (first | rw [c5b0] | (simp only [i64_w, i32_w]; rw [c5b0]) | skip)
    have HC6 := Aside0.mk H
    clear H
    go_upto_region 8 with (fail)
    go_cut [15] (fun v15 wc => ∃ (kq : Nat) (x15_5 : Bool), v15 = .bool x15_5 ∧ Aside0 (parapetref9_runeAt.j0 kq a0 (bt a0 0) (wrap64 (bt a0 0)) x15_5 = some r) ∧ Aside0 (kq ≤ k) ∧ Drawn0 w wc)
    case first =>
     have H := HC6.out
     clear HC6
     by_cases c7 : (bt a0 0) ≥ 194
     ·rw [if_pos c7] at H
      have c7b0 : decide (194 ≤ (bt a0 0)) = true := decide_eq_true c7
      clear c7
      (first | rw [c7b0] | (simp only [i64_w, i32_w]; rw [c7b0]) | skip)
      have H' := Aside0.mk H
      clear H
      go_wp2
      go_meet
      case rel => exact ⟨_, (decide ((bt a0 0) < 224)), (by first | rfl | (simp; done) | (simp [*]; done)), H', ⟨by first | omega | exact Nat.le_refl _⟩, by repeat (first | exact Drawn0.refl _ | apply Drawn0.step)⟩
     ·rw [if_neg c7] at H
      have c7b0 : decide (194 ≤ (bt a0 0)) = false := decide_eq_false c7
      clear c7
      (first | rw [c7b0] | (simp only [i64_w, i32_w]; rw [c7b0]) | skip)
      have H' := Aside0.mk H
      clear H
      go_wp2
      go_meet
      case rel => exact ⟨_, (false), (by first | rfl | (simp; done) | (simp [*]; done)), H', ⟨by first | omega | exact Nat.le_refl _⟩, by repeat (first | exact Drawn0.refl _ | apply Drawn0.step)⟩
    case rest =>
     clear HC6
     try clear c2
     try clear c2b0
     try clear c2b1
     try clear p2
     try clear p3
     try clear q3
     try clear hx3
     try clear qi3
     try clear c5
     try clear c5b0
     try clear p6
     try clear c7
     try clear c7b0
     try clear p3
     try clear q3
     obtain ⟨kq, x15_5, rfl, HA, HJ5, ⟨mc5, rfl⟩⟩ := hcut
     cases kq with
     | zero => exact absurd HA.out (by simp [parapetref9_runeAt.j0])
     | succ kj5 =>
      have H := HA.out
      clear HA
      simp only [parapetref9_runeAt.j0] at H
      by_cases c8 : x15_5 = true
      ·subst c8
       have H1 : (parapetref9_runeAt.j2 kj5 a0 2 (Go.bits .and .i64 (wrap64 (bt a0 0)) 31) 128) = some r := by rw [if_pos rfl] at H; exact H
       clear H
       have H := H1
       clear H1
       have H' := Aside0.mk H
       clear H
       go_wp2
       go_meet
       case rel => exact ⟨_, (2), (Go.bits .and .i64 (wrap64 (bt a0 0)) 31), (128), (by first | rfl | (simp; done) | (simp [*]; done)), (by first | rfl | (simp; done) | (simp [*]; done)), (by first | rfl | (simp; done) | (simp [*]; done)), H', ⟨by have := HJ5.out; first | omega | exact Nat.le_refl _⟩, by repeat (first | exact Drawn0.refl _ | apply Drawn0.step)⟩
      ·replace c8 := Bool.eq_false_iff.mpr c8
       subst c8
       have H1 : (if (bt a0 0) ≥ 224 then (parapetref9_runeAt.j1 kj5 a0 (bt a0 0) (wrap64 (bt a0 0)) (decide ((bt a0 0) < 240))) else (parapetref9_runeAt.j1 kj5 a0 (bt a0 0) (wrap64 (bt a0 0)) false)) = some r := by rw [if_neg (show ¬ (false = true) by decide)] at H; exact H
       clear H
       have H := H1
       clear H1
       have HC9 := Aside0.mk H
       clear H
       go_upto_region 12 with (fail)
       go_cut [24] (fun v24 wc => ∃ (kq : Nat) (x24_8 : Bool), v24 = .bool x24_8 ∧ Aside0 (parapetref9_runeAt.j1 kq a0 (bt a0 0) (wrap64 (bt a0 0)) x24_8 = some r) ∧ Aside0 (kq ≤ kj5) ∧ Drawn0 w wc)
       case first =>
        have H := HC9.out
        clear HC9
        by_cases c10 : (bt a0 0) ≥ 224
        ·rw [if_pos c10] at H
         have c10b0 : decide (224 ≤ (bt a0 0)) = true := decide_eq_true c10
         clear c10
         (first | rw [c10b0] | (simp only [i64_w, i32_w]; rw [c10b0]) | skip)
         have H' := Aside0.mk H
         clear H
         go_wp2
         go_meet
         case rel => exact ⟨_, (decide ((bt a0 0) < 240)), (by first | rfl | (simp; done) | (simp [*]; done)), H', ⟨by have := HJ5.out; first | omega | exact Nat.le_refl _⟩, by repeat (first | exact Drawn0.refl _ | apply Drawn0.step)⟩
        ·rw [if_neg c10] at H
         have c10b0 : decide (224 ≤ (bt a0 0)) = false := decide_eq_false c10
         clear c10
         (first | rw [c10b0] | (simp only [i64_w, i32_w]; rw [c10b0]) | skip)
         have H' := Aside0.mk H
         clear H
         go_wp2
         go_meet
         case rel => exact ⟨_, (false), (by first | rfl | (simp; done) | (simp [*]; done)), H', ⟨by have := HJ5.out; first | omega | exact Nat.le_refl _⟩, by repeat (first | exact Drawn0.refl _ | apply Drawn0.step)⟩
       case rest =>
        clear HC9
        try clear c1
        try clear c2
        try clear c2b0
        try clear c2b1
        try clear p2
        try clear p3
        try clear q3
        try clear hx3
        try clear qi3
        try clear c5
        try clear c5b0
        try clear p6
        try clear c7
        try clear c7b0
        try clear c8
        try clear c10
        try clear c10b0
        try clear p2
        try clear p3
        try clear p6
        try clear q3
        obtain ⟨kq, x24_8, rfl, HA, HJ8, ⟨mc8, rfl⟩⟩ := hcut
        cases kq with
        | zero => exact absurd HA.out (by simp [parapetref9_runeAt.j1])
        | succ kj8 =>
         have H := HA.out
         clear HA
         simp only [parapetref9_runeAt.j1] at H
         by_cases c11 : x24_8 = true
         ·subst c11
          have H1 : (parapetref9_runeAt.j2 kj8 a0 3 (Go.bits .and .i64 (wrap64 (bt a0 0)) 15) 2048) = some r := by rw [if_pos rfl] at H; exact H
          clear H
          have H := H1
          clear H1
          have H' := Aside0.mk H
          clear H
          go_wp2
          go_meet
          case rel => exact ⟨_, (3), (Go.bits .and .i64 (wrap64 (bt a0 0)) 15), (2048), (by first | rfl | (simp; done) | (simp [*]; done)), (by first | rfl | (simp; done) | (simp [*]; done)), (by first | rfl | (simp; done) | (simp [*]; done)), H', ⟨by have := HJ5.out; have := HJ8.out; first | omega | exact Nat.le_refl _⟩, by repeat (first | exact Drawn0.refl _ | apply Drawn0.step)⟩
         ·replace c11 := Bool.eq_false_iff.mpr c11
          subst c11
          have H1 : (if (bt a0 0) ≥ 240 then (if (bt a0 0) < 245 then (parapetref9_runeAt.j2 kj8 a0 4 (Go.bits .and .i64 (wrap64 (bt a0 0)) 7) 65536) else (some 0)) else (some 0)) = some r := by rw [if_neg (show ¬ (false = true) by decide)] at H; exact H
          clear H
          have H := H1
          clear H1
          by_cases c12 : (bt a0 0) ≥ 240
          ·rw [if_pos c12] at H
           have c12b0 : decide (240 ≤ (bt a0 0)) = true := decide_eq_true c12
           clear c12
           by_cases c13 : (bt a0 0) < 245
           ·rw [if_pos c13] at H
            have c13b0 : decide ((bt a0 0) < 245) = true := decide_eq_true c13
            clear c13
            have H' := Aside0.mk H
            clear H
            go_wp2
            go_meet
            case rel => exact ⟨_, (4), (Go.bits .and .i64 (wrap64 (bt a0 0)) 7), (65536), (by first | rfl | (simp; done) | (simp [*]; done)), (by first | rfl | (simp; done) | (simp [*]; done)), (by first | rfl | (simp; done) | (simp [*]; done)), H', ⟨by have := HJ5.out; have := HJ8.out; first | omega | exact Nat.le_refl _⟩, by repeat (first | exact Drawn0.refl _ | apply Drawn0.step)⟩
           ·rw [if_neg c13] at H
            have c13b0 : decide ((bt a0 0) < 245) = false := decide_eq_false c13
            clear c13
            obtain rfl := Option.some.inj H
            go_wp2
            go_ret
            exact sTe3_0
          ·rw [if_neg c12] at H
           have c12b0 : decide (240 ≤ (bt a0 0)) = false := decide_eq_false c12
           clear c12
           obtain rfl := Option.some.inj H
           go_wp2
           go_ret
           exact sTe3_0
  case rest =>
   clear HC4
   try clear c1
   try clear c2
   try clear c2b0
   try clear c2b1
   try clear p2
   try clear p3
   try clear q3
   try clear hx3
   try clear qi3
   try clear c5
   try clear c5b0
   try clear p6
   try clear c7
   try clear c7b0
   try clear c8
   try clear c10
   try clear c10b0
   try clear c11
   try clear c12
   try clear c12b0
   try clear c13
   try clear c13b0
   try clear p2
   try clear p3
   try clear p6
   try clear q3
   obtain ⟨kq, x4_3, x5_3, x6_3, rfl, rfl, rfl, HA, HJ3, ⟨mc3, rfl⟩⟩ := hcut
   cases kq with
   | zero => exact absurd HA.out (by simp [parapetref9_runeAt.j2])
   | succ kj3 =>
    have H := HA.out
    clear HA
    simp only [parapetref9_runeAt.j2] at H
    by_cases c14 : (a0.size : Int) < x4_3
    ·rw [if_pos c14] at H
     have c14b0 : decide ((a0.size : Int) < x4_3) = true := decide_eq_true c14
     clear c14
     obtain rfl := Option.some.inj H
     go_wp2
     go_ret
     exact sTe3_0
    ·rw [if_neg c14] at H
     have c14b0 : decide ((a0.size : Int) < x4_3) = false := decide_eq_false c14
     clear c14
     have H' := Aside0.mk H
     clear H
     go_wp2
     go_loopg [5, 7] kj3 (fun kq v5 v7 w' => ∃ (x5_2 : Int) (x7_2 : Int), v5 = .int .i64 x5_2 ∧ v7 = .int .i64 x7_2 ∧ Aside0 (parapetref9_runeAt.l0 kq a0 x4_3 x5_2 x6_3 x7_2 = some r) ∧ Aside0 (kq ≤ kj3) ∧ Drawn0 w w')
     case atStart => exact ⟨(x5_3), (1), (by first | rfl | (simp; done) | (simp [*]; done)), (by first | rfl | (simp; done) | (simp [*]; done)), H', ⟨Nat.le_refl _⟩, by repeat (first | exact Drawn0.refl _ | apply Drawn0.step)⟩
     case round =>
      clear H'
      try clear c1
      try clear c2
      try clear c2b0
      try clear c2b1
      try clear p2
      try clear c3
      try clear p3
      try clear q3
      try clear hx3
      try clear qi3
      try clear c5
      try clear c5b0
      try clear p6
      try clear c7
      try clear c7b0
      try clear c8
      try clear c10
      try clear c10b0
      try clear c11
      try clear c12
      try clear c12b0
      try clear c13
      try clear c13b0
      try clear c14
      try clear c14b0
      try clear p2
      try clear p3
      try clear p6
      try clear q3
      obtain ⟨x5_2, x7_2, rfl, rfl, HA, HK2, ⟨m2, rfl⟩⟩ := hrel
      cases gk with
      | zero => exact absurd HA.out (by simp [parapetref9_runeAt.l0])
      | succ k2 =>
       have H := HA.out
       clear HA
       simp only [parapetref9_runeAt.l0] at H
       by_cases c15 : x7_2 < x4_3
       ·rw [if_pos c15] at H
        have c15b0 : decide (x7_2 < x4_3) = true := decide_eq_true c15
        clear c15
        by_cases c16 : 0 ≤ x7_2
        ·rw [if_pos c16] at H
         have c16b0 : decide (0 ≤ x7_2) = true := decide_eq_true c16
         clear c16
         by_cases c17 : x7_2 < (a0.size : Int)
         ·rw [if_pos c17] at H
          have c17b0 : decide (x7_2 < (a0.size : Int)) = true := decide_eq_true c17
          clear c17
          by_cases c19 : (Go.bits .and .u8 (bt a0 x7_2) 192) = 128
          ·rw [if_pos c19] at H
           have c19b0 : ((Go.bits .and .u8 (bt a0 x7_2) 192) == 128) = true := beq_iff_eq.mpr c19
           have c19b1 : ((Go.bits .and .u8 (bt a0 x7_2) 192) != 128) = false := bne_eq_false_iff_eq.mpr c19
           clear c19
           have H' := Aside0.mk H
           clear H
           have p18 : 0 ≤ (x7_2 : Int) := of_decide_eq_true (by first | (with_reducible assumption) | assumption)
           have q18 : x7_2 < (a0.size : Int) := of_decide_eq_true (by first | (with_reducible assumption) | assumption)
           have hx18 := bt_at a0 x7_2
           replace p18 := eq_true p18
           replace q18 := eq_true q18
           have p20 : 0 ≤ (x7_2 : Int) := of_decide_eq_true (by first | (with_reducible assumption) | assumption)
           have q20 : x7_2 < (a0.size : Int) := of_decide_eq_true (by first | (with_reducible assumption) | assumption)
           have hx20 := bt_at a0 x7_2
           replace p20 := eq_true p20
           replace q20 := eq_true q20
           go_wp2
           go_roundg k2
           case measure => have := HJ3.out; have := HK2.out; omega
           case rel => exact ⟨(Go.bits .or .i64 (wrap64 (x5_2 * 64)) (wrap64 (Go.bits .and .u8 (bt a0 x7_2) 63))), (wrap64 (x7_2 + 1)), (by first | rfl | (simp; done) | (simp [*]; done)), (by first | rfl | (simp; done) | (simp [*]; done)), H', ⟨by have := HJ3.out; have := HK2.out; omega⟩, by repeat (first | exact Drawn0.refl _ | apply Drawn0.step)⟩
          ·rw [if_neg c19] at H
           have c19b0 : ((Go.bits .and .u8 (bt a0 x7_2) 192) == 128) = false := beq_eq_false_iff_ne.mpr c19
           have c19b1 : ((Go.bits .and .u8 (bt a0 x7_2) 192) != 128) = true := bne_iff_ne.mpr c19
           obtain rfl := Option.some.inj H
           have p18 : 0 ≤ (x7_2 : Int) := of_decide_eq_true (by first | (with_reducible assumption) | assumption)
           have q18 : x7_2 < (a0.size : Int) := of_decide_eq_true (by first | (with_reducible assumption) | assumption)
           have hx18 := bt_at a0 x7_2
           replace p18 := eq_true p18
           replace q18 := eq_true q18
           go_wp2
           go_ret
           exact sTe3_0
         ·rw [if_neg c17] at H
          exact absurd H (by simp)
        ·rw [if_neg c16] at H
         exact absurd H (by simp)
       ·rw [if_neg c15] at H
        have c15b0 : decide (x7_2 < x4_3) = false := decide_eq_false c15
        clear c15
        by_cases c21 : x5_2 < x6_3
        ·rw [if_pos c21] at H
         have c21b0 : decide (x5_2 < x6_3) = true := decide_eq_true c21
         clear c21
         obtain rfl := Option.some.inj H
         go_wp2
         go_ret
         exact sTe3_0
        ·rw [if_neg c21] at H
         have c21b0 : decide (x5_2 < x6_3) = false := decide_eq_false c21
         clear c21
         by_cases c22 : x5_2 > 1114111
         ·rw [if_pos c22] at H
          have c22b0 : decide (1114111 < x5_2) = true := decide_eq_true c22
          clear c22
          obtain rfl := Option.some.inj H
          go_wp2
          go_ret
          exact sTe3_0
         ·rw [if_neg c22] at H
          have c22b0 : decide (1114111 < x5_2) = false := decide_eq_false c22
          clear c22
          by_cases c23 : x5_2 ≥ 55296
          ·rw [if_pos c23] at H
           have c23b0 : decide (55296 ≤ x5_2) = true := decide_eq_true c23
           clear c23
           by_cases c24 : x5_2 ≤ 57343
           ·rw [if_pos c24] at H
            have c24b0 : decide (x5_2 ≤ 57343) = true := decide_eq_true c24
            clear c24
            obtain rfl := Option.some.inj H
            go_wp2
            go_ret
            exact sTe3_0
           ·rw [if_neg c24] at H
            have c24b0 : decide (x5_2 ≤ 57343) = false := decide_eq_false c24
            clear c24
            obtain rfl := Option.some.inj H
            go_wp2
            go_ret
            exact sTe3_0
          ·rw [if_neg c23] at H
           have c23b0 : decide (55296 ≤ x5_2) = false := decide_eq_false c23
           clear c23
           obtain rfl := Option.some.inj H
           go_wp2
           go_ret
           exact sTe3_0
 ·rw [if_neg c2] at H
  exact absurd H (by simp)
def parapetref9_Broken.l0 : Nat → ByteArray → Int → Option (Int)
 | 0, _, _ => none
 | k + 1, x0, x3 => if x3 < (x0.size : Int) then (if 0 ≤ x3 then (if x3 ≤ (x0.size : Int) then ((parapetref9_runeAt.f k (x0.extract (x3 : Int).toNat x0.size)).bind fun t300 => (if t300 = 0 then (some x3) else (parapetref9_Broken.l0 k x0 (wrap64 (x3 + t300))))) else (none)) else (none)) else (some (x0.size : Int))
def parapetref9_Broken.f (k : Nat) (a0 : ByteArray) : Option (Int) := parapetref9_Broken.l0 k a0 0
set_option maxHeartbeats 8000000 in
set_option maxRecDepth 100000 in
theorem parapetref9_Broken.calls (k : Nat) (a0 : ByteArray) (r : Int) (w : World) (h : parapetref9_Broken.f k a0 = some r) :
  Calls Tryd.prog 51 #[.string a0] w fun e w' => e = .returned (.int .i64 r) ∧ Drawn0 w w' := by
 have H : (parapetref9_Broken.l0 k a0 0) = some r := h
 clear h
 have H' := Aside0.mk H
 clear H
 go_enter Tryd.func51, Tryd.ntmps51
 go_wp2
 go_loopg [3] k (fun kq v3 w' => ∃ (x3_1 : Int), v3 = .int .i64 x3_1 ∧ Aside0 (parapetref9_Broken.l0 kq a0 x3_1 = some r) ∧ Aside0 (kq ≤ k) ∧ Drawn0 w w')
 case atStart => exact ⟨(0), (by first | rfl | (simp; done) | (simp [*]; done)), H', ⟨Nat.le_refl _⟩, by repeat (first | exact Drawn0.refl _ | apply Drawn0.step)⟩
 case round =>
  clear H'
  obtain ⟨x3_1, rfl, HA, HK1, ⟨m1, rfl⟩⟩ := hrel
  cases gk with
  | zero => exact absurd HA.out (by simp [parapetref9_Broken.l0])
  | succ k1 =>
   have H := HA.out
   clear HA
   simp only [parapetref9_Broken.l0] at H
   by_cases c2 : x3_1 < (a0.size : Int)
   ·rw [if_pos c2] at H
    have c2b0 : decide (x3_1 < (a0.size : Int)) = true := decide_eq_true c2
    clear c2
    by_cases c3 : 0 ≤ x3_1
    ·rw [if_pos c3] at H
     have c3b0 := eq_true c3
     have c3b1 : decide (0 ≤ x3_1) = true := decide_eq_true c3
     clear c3
     by_cases c4 : x3_1 ≤ (a0.size : Int)
     ·rw [if_pos c4] at H
      have c4b0 := eq_true c4
      have c4b1 : decide (x3_1 ≤ (a0.size : Int)) = true := decide_eq_true c4
      clear c4
      replace H := Option.bind_eq_some_iff.mp H
      obtain ⟨t300, A50, H⟩ := H
      replace H : (if t300 = 0 then (some x3_1) else (parapetref9_Broken.l0 k1 a0 (wrap64 (x3_1 + t300)))) = some r := H
      have A5 := Aside0.mk A50
      clear A50
      by_cases c6 : t300 = 0
      ·rw [if_pos c6] at H
       have c6b0 : (t300 == 0) = true := beq_iff_eq.mpr c6
       have c6b1 : (t300 != 0) = false := bne_eq_false_iff_eq.mpr c6
       clear c6
       obtain rfl := Option.some.inj H
       go_wp2_with (first | ((with_reducible refine gate_callee (f := 73) rfl ?_); refine goesL_ (some 12) rfl rfl Tryd.func73 (by kernel_rfl) rfl #[.string (a0.extract (x3_1 : Int).toNat a0.size)] rfl (by (try simp only [List.map_toArray, List.map_cons, List.map_nil]); first | done | rfl | (simp only [List.length_drop, List.length_take]; rfl)) ?_; (with_reducible refine (parapetref9_runeAt.calls k1 (a0.extract (x3_1 : Int).toNat a0.size) t300 _ A5.out).mono ?_); rintro e w' ⟨rfl, ⟨nd, rfl⟩⟩; refine ⟨_, rfl, ?_⟩))
       go_ret
       exact sTe3_0
      ·rw [if_neg c6] at H
       have c6b0 : (t300 == 0) = false := beq_eq_false_iff_ne.mpr c6
       have c6b1 : (t300 != 0) = true := bne_iff_ne.mpr c6
       have H' := Aside0.mk H
       clear H
       go_wp2_with (first | ((with_reducible refine gate_callee (f := 73) rfl ?_); refine goesL_ (some 12) rfl rfl Tryd.func73 (by kernel_rfl) rfl #[.string (a0.extract (x3_1 : Int).toNat a0.size)] rfl (by (try simp only [List.map_toArray, List.map_cons, List.map_nil]); first | done | rfl | (simp only [List.length_drop, List.length_take]; rfl)) ?_; (with_reducible refine (parapetref9_runeAt.calls k1 (a0.extract (x3_1 : Int).toNat a0.size) t300 _ A5.out).mono ?_); rintro e w' ⟨rfl, ⟨nd, rfl⟩⟩; refine ⟨_, rfl, ?_⟩))
       go_roundg k1
       case measure => have := HK1.out; omega
       case rel => exact ⟨(wrap64 (x3_1 + t300)), (by first | rfl | (simp; done) | (simp [*]; done)), H', ⟨by have := HK1.out; omega⟩, by repeat (first | exact Drawn0.refl _ | apply Drawn0.step)⟩
     ·rw [if_neg c4] at H
      exact absurd H (by simp)
    ·rw [if_neg c3] at H
     exact absurd H (by simp)
   ·rw [if_neg c2] at H
    have c2b0 : decide (x3_1 < (a0.size : Int)) = false := decide_eq_false c2
    clear c2
    obtain rfl := Option.some.inj H
    go_wp2
    go_ret
    exact sTe3_0
def parapetref1_Letter.f (a0 : Int) : Option (Bool) := if a0 ≥ 97 then (if a0 ≤ 122 then (some true) else (if a0 ≥ 65 then (some (decide (a0 ≤ 90))) else (some false))) else (if a0 ≥ 65 then (some (decide (a0 ≤ 90))) else (some false))
set_option maxHeartbeats 8000000 in
set_option maxRecDepth 100000 in
theorem parapetref1_Letter.calls (a0 : Int) (r : Bool) (w : World) (h : parapetref1_Letter.f a0 = some r) :
  Calls Tryd.prog 84 #[.int .u8 a0] w fun e w' => e = .returned (.bool r) ∧ Drawn0 w w' := by
 have H : (if a0 ≥ 97 then (if a0 ≤ 122 then (some true) else (if a0 ≥ 65 then (some (decide (a0 ≤ 90))) else (some false))) else (if a0 ≥ 65 then (some (decide (a0 ≤ 90))) else (some false))) = some r := h
 clear h
 by_cases c2 : a0 ≥ 97
 ·rw [if_pos c2] at H
  have c2b0 : decide (97 ≤ a0) = true := decide_eq_true c2
  clear c2
  by_cases c3 : a0 ≤ 122
  ·rw [if_pos c3] at H
   have c3b0 : decide (a0 ≤ 122) = true := decide_eq_true c3
   clear c3
   obtain rfl := Option.some.inj H
   go_enter Tryd.func84, Tryd.ntmps84
   go_wp2
   go_ret
   exact sTe3_0
  ·rw [if_neg c3] at H
   have c3b0 : decide (a0 ≤ 122) = false := decide_eq_false c3
   clear c3
   by_cases c4 : a0 ≥ 65
   ·rw [if_pos c4] at H
    have c4b0 : decide (65 ≤ a0) = true := decide_eq_true c4
    clear c4
    obtain rfl := Option.some.inj H
    go_enter Tryd.func84, Tryd.ntmps84
    go_wp2
    go_ret
    exact sTe3_0
   ·rw [if_neg c4] at H
    have c4b0 : decide (65 ≤ a0) = false := decide_eq_false c4
    clear c4
    obtain rfl := Option.some.inj H
    go_enter Tryd.func84, Tryd.ntmps84
    go_wp2
    go_ret
    exact sTe3_0
 ·rw [if_neg c2] at H
  have c2b0 : decide (97 ≤ a0) = false := decide_eq_false c2
  clear c2
  by_cases c5 : a0 ≥ 65
  ·rw [if_pos c5] at H
   have c5b0 : decide (65 ≤ a0) = true := decide_eq_true c5
   clear c5
   obtain rfl := Option.some.inj H
   go_enter Tryd.func84, Tryd.ntmps84
   go_wp2
   go_ret
   exact sTe3_0
  ·rw [if_neg c5] at H
   have c5b0 : decide (65 ≤ a0) = false := decide_eq_false c5
   clear c5
   obtain rfl := Option.some.inj H
   go_enter Tryd.func84, Tryd.ntmps84
   go_wp2
   go_ret
   exact sTe3_0
def parapetref1_Digit.f (a0 : Int) : Option (Bool) := if a0 ≥ 48 then (some (decide (a0 ≤ 57))) else (some false)
set_option maxHeartbeats 8000000 in
set_option maxRecDepth 100000 in
theorem parapetref1_Digit.calls (a0 : Int) (r : Bool) (w : World) (h : parapetref1_Digit.f a0 = some r) :
  Calls Tryd.prog 85 #[.int .u8 a0] w fun e w' => e = .returned (.bool r) ∧ Drawn0 w w' := by
 have H : (if a0 ≥ 48 then (some (decide (a0 ≤ 57))) else (some false)) = some r := h
 clear h
 by_cases c2 : a0 ≥ 48
 ·rw [if_pos c2] at H
  have c2b0 : decide (48 ≤ a0) = true := decide_eq_true c2
  clear c2
  obtain rfl := Option.some.inj H
  go_enter Tryd.func85, Tryd.ntmps85
  go_wp2
  go_ret
  exact sTe3_0
 ·rw [if_neg c2] at H
  have c2b0 : decide (48 ≤ a0) = false := decide_eq_false c2
  clear c2
  obtain rfl := Option.some.inj H
  go_enter Tryd.func85, Tryd.ntmps85
  go_wp2
  go_ret
  exact sTe3_0
end Go.Proofs.YtngedmioeodmfaaDoor.Pr
namespace Go.Proofs.YtngedmioeodmfaaDoor.Pu
open Go.RowKit Go.Proofs.YtngedmioeodmfaaDoor.Pr Go.Proofs.YtngedmioeodmfaaDoorW.PrintWords
def runeLen (n b0 b1 b2 b3 : Int) : Int :=
 if b0 < 128 then 1
 else if b0 < 194 then 0
 else if b0 < 224 then (if 2 ≤ n ∧ 128 ≤ b1 ∧ b1 < 192 then 2 else 0)
 else if b0 < 240 then (if 3 ≤ n ∧ 128 ≤ b1 ∧ b1 < 192 ∧ 128 ≤ b2 ∧ b2 < 192 ∧ 2048 ≤ (b0 % 16 * 64 + b1 % 64) * 64 + b2 % 64 ∧ ¬ (55296 ≤ (b0 % 16 * 64 + b1 % 64) * 64 + b2 % 64 ∧ (b0 % 16 * 64 + b1 % 64) * 64 + b2 % 64 ≤ 57343) then 3 else 0)
 else if b0 < 245 then (if 4 ≤ n ∧ 128 ≤ b1 ∧ b1 < 192 ∧ 128 ≤ b2 ∧ b2 < 192 ∧ 128 ≤ b3 ∧ b3 < 192 ∧ 65536 ≤ ((b0 % 8 * 64 + b1 % 64) * 64 + b2 % 64) * 64 + b3 % 64 ∧ ((b0 % 8 * 64 + b1 % 64) * 64 + b2 % 64) * 64 + b3 % 64 ≤ 1114111 then 4 else 0)
 else 0
theorem byte_facts : ∀ c : Fin 256, (Go.bits .and .u8 (c.val : Int) 192 = 128 ↔ (128 ≤ (c.val : Int) ∧ (c.val : Int) < 192)) ∧ wrap64 (Go.bits .and .u8 (c.val : Int) 63) = (c.val : Int) % 64 ∧ Go.bits .and .i64 (wrap64 (c.val : Int)) 31 = (c.val : Int) % 32 ∧ Go.bits .and .i64 (wrap64 (c.val : Int)) 15 = (c.val : Int) % 16 ∧ Go.bits .and .i64 (wrap64 (c.val : Int)) 7 = (c.val : Int) % 8 := by decide +kernel
theorem byte_fact {c : Int} (h0 : 0 ≤ c) (h1 : c ≤ 255) : (Go.bits .and .u8 c 192 = 128 ↔ (128 ≤ c ∧ c < 192)) ∧ wrap64 (Go.bits .and .u8 c 63) = c % 64 ∧ Go.bits .and .i64 (wrap64 c) 31 = c % 32 ∧ Go.bits .and .i64 (wrap64 c) 15 = c % 16 ∧ Go.bits .and .i64 (wrap64 c) 7 = c % 8 := by
 obtain ⟨q, rfl⟩ : ∃ q : Fin 256, (q.val : Int) = c := ⟨⟨c.toNat, by omega⟩, by simp; omega⟩
 exact byte_facts q
theorem l0_yes (x : ByteArray) (n u least j : Int) (hj : j < n) (h0 : 0 ≤ j) (hs : j < x.size) (hb : j ≤ 10) (hu : 0 ≤ u) (hu2 : u < 1048576) (hc : 128 ≤ bt x j ∧ bt x j < 192) {r : Int}
  (h : Ev (fun k => parapetref9_runeAt.l0 k x n (u * 64 + bt x j % 64) least (j + 1)) r) : Ev (fun k => parapetref9_runeAt.l0 k x n u least j) r := by
 have hr := bt_range x j
 have hf := byte_fact hr.1 hr.2
 refine Ev.step (fun k => ?_) h
 simp only [parapetref9_runeAt.l0]
 rw [if_pos hj, if_pos h0, if_pos hs, if_pos (hf.1.2 hc), hf.2.1, w64 (by omega) (by omega), w64 (by omega) (by omega), i64_join 6 (u * 64) (bt x j % 64) (by omega) (by omega) (by omega) (by omega) (by omega) (by omega)]
theorem l0_no (x : ByteArray) (n u least j : Int) (hj : j < n) (h0 : 0 ≤ j) (hs : j < x.size) (hc : ¬ (128 ≤ bt x j ∧ bt x j < 192)) : Ev (fun k => parapetref9_runeAt.l0 k x n u least j) 0 := by
 have hr := bt_range x j
 have hf := byte_fact hr.1 hr.2
 refine Ev.step (fun k => ?_) (Ev.now 0)
 simp only [parapetref9_runeAt.l0]
 rw [if_pos hj, if_pos h0, if_pos hs, if_neg (fun h => hc (hf.1.1 h))]
theorem l0_end (x : ByteArray) (n u least : Int) : Ev (fun k => parapetref9_runeAt.l0 k x n u least n) (if least ≤ u ∧ u ≤ 1114111 ∧ ¬ (55296 ≤ u ∧ u ≤ 57343) then n else 0) := by
 refine Ev.step (fun k => ?_) (Ev.now _)
 simp only [parapetref9_runeAt.l0]
 rw [if_neg (by omega)]
 by_cases h1 : u < least
 ·rw [if_pos h1, if_neg (by omega)]
 ·rw [if_neg h1]
  by_cases h2 : u > 1114111
  ·rw [if_pos h2, if_neg (by omega)]
  ·rw [if_neg h2]
   by_cases h3 : u ≥ 55296
   ·rw [if_pos h3]
    by_cases h4 : u ≤ 57343
    ·rw [if_pos h4, if_neg (by omega)]
    ·rw [if_neg h4, if_pos (by omega)]
   ·rw [if_neg h3, if_pos (by omega)]
theorem j2_short (x : ByteArray) (n u least : Int) (h : (x.size : Int) < n) : Ev (fun k => parapetref9_runeAt.j2 k x n u least) 0 := by
 refine Ev.step (fun k => ?_) (Ev.now 0)
 simp only [parapetref9_runeAt.j2]
 rw [if_pos h]
theorem j2_long (x : ByteArray) (n u least : Int) (h : ¬ (x.size : Int) < n) {r : Int} (e : Ev (fun k => parapetref9_runeAt.l0 k x n u least 1) r) : Ev (fun k => parapetref9_runeAt.j2 k x n u least) r := by
 refine Ev.step (fun k => ?_) e
 simp only [parapetref9_runeAt.j2]
 rw [if_neg h]
theorem rune_two (x : ByteArray) (u : Int) (hu : 0 ≤ u) (hu2 : u < 32) : Ev (fun k => parapetref9_runeAt.j2 k x 2 u 128) (if 2 ≤ (x.size : Int) ∧ 128 ≤ bt x 1 ∧ bt x 1 < 192 ∧ 128 ≤ u * 64 + bt x 1 % 64 then 2 else 0) := by
 by_cases hs : (x.size : Int) < 2
 ·exact (j2_short x 2 u 128 hs).eq (by rw [if_neg (by omega)])
 ·refine j2_long x 2 u 128 hs ?_
  by_cases c1 : 128 ≤ bt x 1 ∧ bt x 1 < 192
  ·exact l0_yes x 2 u 128 1 (by omega) (by omega) (by omega) (by omega) hu (by omega) c1 ((l0_end x 2 _ 128).eq (by
    by_cases q : 128 ≤ u * 64 + bt x 1 % 64
    ·rw [if_pos (by omega), if_pos (by omega)]
    ·rw [if_neg (by omega), if_neg (by omega)]))
  ·exact (l0_no x 2 u 128 1 (by omega) (by omega) (by omega) c1).eq (by rw [if_neg (by omega)])
theorem rune_three (x : ByteArray) (u : Int) (hu : 0 ≤ u) (hu2 : u < 16) : Ev (fun k => parapetref9_runeAt.j2 k x 3 u 2048) (if 3 ≤ (x.size : Int) ∧ 128 ≤ bt x 1 ∧ bt x 1 < 192 ∧ 128 ≤ bt x 2 ∧ bt x 2 < 192 ∧ 2048 ≤ (u * 64 + bt x 1 % 64) * 64 + bt x 2 % 64 ∧ ¬ (55296 ≤ (u * 64 + bt x 1 % 64) * 64 + bt x 2 % 64 ∧ (u * 64 + bt x 1 % 64) * 64 + bt x 2 % 64 ≤ 57343) then 3 else 0) := by
 by_cases hs : (x.size : Int) < 3
 ·exact (j2_short x 3 u 2048 hs).eq (by rw [if_neg (by omega)])
 ·refine j2_long x 3 u 2048 hs ?_
  by_cases c1 : 128 ≤ bt x 1 ∧ bt x 1 < 192
  ·refine l0_yes x 3 u 2048 1 (by omega) (by omega) (by omega) (by omega) hu (by omega) c1 ?_
   by_cases c2 : 128 ≤ bt x 2 ∧ bt x 2 < 192
   ·refine l0_yes x 3 _ 2048 2 (by omega) (by omega) (by omega) (by omega) (by omega) (by omega) c2 ((l0_end x 3 _ 2048).eq ?_)
    have hv : (u * 64 + bt x 1 % 64) * 64 + bt x 2 % 64 ≤ 65535 := by omega
    generalize (u * 64 + bt x 1 % 64) * 64 + bt x 2 % 64 = v at *
    by_cases q : 2048 ≤ v ∧ ¬ (55296 ≤ v ∧ v ≤ 57343)
    ·rw [if_pos ⟨q.1, by omega, q.2⟩, if_pos ⟨by omega, c1.1, c1.2, c2.1, c2.2, q.1, q.2⟩]
    ·rw [if_neg (fun h => q ⟨h.1, h.2.2⟩), if_neg (fun h => q ⟨h.2.2.2.2.2.1, h.2.2.2.2.2.2⟩)]
   ·exact (l0_no x 3 _ 2048 2 (by omega) (by omega) (by omega) c2).eq (by rw [if_neg (by omega)])
  ·exact (l0_no x 3 u 2048 1 (by omega) (by omega) (by omega) c1).eq (by rw [if_neg (by omega)])
theorem rune_four (x : ByteArray) (u : Int) (hu : 0 ≤ u) (hu2 : u < 8) : Ev (fun k => parapetref9_runeAt.j2 k x 4 u 65536) (if 4 ≤ (x.size : Int) ∧ 128 ≤ bt x 1 ∧ bt x 1 < 192 ∧ 128 ≤ bt x 2 ∧ bt x 2 < 192 ∧ 128 ≤ bt x 3 ∧ bt x 3 < 192 ∧ 65536 ≤ ((u * 64 + bt x 1 % 64) * 64 + bt x 2 % 64) * 64 + bt x 3 % 64 ∧ ((u * 64 + bt x 1 % 64) * 64 + bt x 2 % 64) * 64 + bt x 3 % 64 ≤ 1114111 then 4 else 0) := by
 by_cases hs : (x.size : Int) < 4
 ·exact (j2_short x 4 u 65536 hs).eq (by rw [if_neg (by omega)])
 ·refine j2_long x 4 u 65536 hs ?_
  by_cases c1 : 128 ≤ bt x 1 ∧ bt x 1 < 192
  ·refine l0_yes x 4 u 65536 1 (by omega) (by omega) (by omega) (by omega) hu (by omega) c1 ?_
   by_cases c2 : 128 ≤ bt x 2 ∧ bt x 2 < 192
   ·refine l0_yes x 4 _ 65536 2 (by omega) (by omega) (by omega) (by omega) (by omega) (by omega) c2 ?_
    by_cases c3 : 128 ≤ bt x 3 ∧ bt x 3 < 192
    ·refine l0_yes x 4 _ 65536 3 (by omega) (by omega) (by omega) (by omega) (by omega) (by omega) c3 ((l0_end x 4 _ 65536).eq ?_)
     generalize ((u * 64 + bt x 1 % 64) * 64 + bt x 2 % 64) * 64 + bt x 3 % 64 = v at *
     by_cases q : 65536 ≤ v ∧ v ≤ 1114111
     ·rw [if_pos ⟨q.1, q.2, by omega⟩, if_pos ⟨by omega, c1.1, c1.2, c2.1, c2.2, c3.1, c3.2, q.1, q.2⟩]
     ·rw [if_neg (fun h => q ⟨h.1, h.2.1⟩), if_neg (fun h => q ⟨h.2.2.2.2.2.2.2.1, h.2.2.2.2.2.2.2.2⟩)]
    ·exact (l0_no x 4 _ 65536 3 (by omega) (by omega) (by omega) c3).eq (by rw [if_neg (by omega)])
   ·exact (l0_no x 4 _ 65536 2 (by omega) (by omega) (by omega) c2).eq (by rw [if_neg (by omega)])
  ·exact (l0_no x 4 u 65536 1 (by omega) (by omega) (by omega) c1).eq (by rw [if_neg (by omega)])
theorem rune_ev (x : ByteArray) (h : 0 < x.size) : Ev (fun k => parapetref9_runeAt.f k x) (runeLen x.size (bt x 0) (bt x 1) (bt x 2) (bt x 3)) := by
 have hr := bt_range x 0
 have hf := byte_fact hr.1 hr.2
 unfold parapetref9_runeAt.f runeLen
 simp only [show (0 : Int) < (x.size : Int) from by omega, if_true]
 by_cases a1 : bt x 0 < 128
 ·simp only [a1, if_true]; exact Ev.now 1
 ·simp only [a1, if_false]
  have j0F : ∀ r : Int, Ev (fun k => if bt x 0 ≥ 224 then parapetref9_runeAt.j1 k x (bt x 0) (wrap64 (bt x 0)) (decide (bt x 0 < 240)) else parapetref9_runeAt.j1 k x (bt x 0) (wrap64 (bt x 0)) false) r → Ev (fun k => parapetref9_runeAt.j0 k x (bt x 0) (wrap64 (bt x 0)) false) r := by
   intro r h
   refine Ev.step (fun k => ?_) h
   simp only [parapetref9_runeAt.j0, Bool.false_eq_true, if_false]
  have j1F : ∀ r : Int, Ev (fun k => if bt x 0 ≥ 240 then (if bt x 0 < 245 then parapetref9_runeAt.j2 k x 4 (Go.bits .and .i64 (wrap64 (bt x 0)) 7) 65536 else some 0) else some 0) r → Ev (fun k => parapetref9_runeAt.j1 k x (bt x 0) (wrap64 (bt x 0)) false) r := by
   intro r h
   refine Ev.step (fun k => ?_) h
   simp only [parapetref9_runeAt.j1, Bool.false_eq_true, if_false]
  by_cases a2 : bt x 0 < 194
  ·simp only [a2, if_true, show ¬ bt x 0 ≥ 194 from by omega, if_false]
   apply j0F
   simp only [show ¬ bt x 0 ≥ 224 from by omega, if_false]
   apply j1F
   simp only [show ¬ bt x 0 ≥ 240 from by omega, if_false]
   exact Ev.now 0
  ·simp only [a2, if_false, show bt x 0 ≥ 194 from by omega, if_true]
   by_cases a3 : bt x 0 < 224
   ·simp only [a3, if_true, decide_true]
    refine Ev.step (f := fun k => parapetref9_runeAt.j2 k x 2 (bt x 0 % 32) 128) (fun k => ?_) ((rune_two x (bt x 0 % 32) (by omega) (by omega)).eq ?_)
    ·simp only [parapetref9_runeAt.j0, if_true]
     rw [hf.2.2.1]
    ·by_cases q : 2 ≤ (x.size : Int) ∧ 128 ≤ bt x 1 ∧ bt x 1 < 192
     ·rw [if_pos q, if_pos ⟨q.1, q.2.1, q.2.2, by omega⟩]
     ·rw [if_neg q, if_neg (fun h => q ⟨h.1, h.2.1, h.2.2.1⟩)]
   ·simp only [a3, if_false, decide_false]
    apply j0F
    simp only [show bt x 0 ≥ 224 from by omega, if_true]
    by_cases a4 : bt x 0 < 240
    ·simp only [a4, if_true, decide_true]
     refine Ev.step (f := fun k => parapetref9_runeAt.j2 k x 3 (bt x 0 % 16) 2048) (fun k => ?_) (rune_three x (bt x 0 % 16) (by omega) (by omega))
     simp only [parapetref9_runeAt.j1, if_true]
     rw [hf.2.2.2.1]
    ·simp only [a4, if_false, decide_false]
     apply j1F
     simp only [show bt x 0 ≥ 240 from by omega, if_true]
     by_cases a5 : bt x 0 < 245
     ·simp only [a5, if_true]
      rw [hf.2.2.2.2]
      exact rune_four x (bt x 0 % 8) (by omega) (by omega)
     ·simp only [a5, if_false]; exact Ev.now 0
def runeD (l : List UInt8) : Nat := if (Go.Lib.decodeL l).1 = 65533 ∧ (Go.Lib.decodeL l).2 = 1 then 0 else (Go.Lib.decodeL l).2
theorem runeN (n b0 b1 b2 b3 : Nat) (h1 : b1 < 256) (h2 : b2 < 256) (h3 : b3 < 256) (h0 : b0 < 256) (hn : 0 < n) :
  ((if (Go.Lib.decodeN n b0 b1 b2 b3).1 = 65533 ∧ (Go.Lib.decodeN n b0 b1 b2 b3).2 = 1 then 0 else (Go.Lib.decodeN n b0 b1 b2 b3).2 : Nat) : Int) = runeLen n b0 b1 b2 b3 := by
 unfold runeLen
 by_cases a1 : b0 < 128
 ·have e : Go.Lib.decodeN n b0 b1 b2 b3 = (b0, 1) := by unfold Go.Lib.decodeN; rw [if_pos a1]
  rw [e, if_neg (by simp only; omega), if_pos (by omega)]; rfl
 rw [if_neg (show ¬ (b0 : Int) < 128 by omega)]
 by_cases a2 : b0 < 194
 ·have e : Go.Lib.decodeN n b0 b1 b2 b3 = (65533, 1) := by
   unfold Go.Lib.decodeN
   rw [if_neg a1]
   by_cases q : b0 / 32 = 6 ∧ (1 < n ∧ b1 / 64 = 2)
   ·rw [if_pos q, if_neg (by omega)]
   ·rw [if_neg q, if_neg (by omega), if_neg (by omega)]
  rw [e, if_pos ⟨rfl, rfl⟩, if_pos (by omega)]; rfl
 rw [if_neg (show ¬ (b0 : Int) < 194 by omega)]
 by_cases a3 : b0 < 224
 ·rw [if_pos (show (b0 : Int) < 224 by omega)]
  by_cases q : 2 ≤ n ∧ 128 ≤ b1 ∧ b1 < 192
  ·have e : Go.Lib.decodeN n b0 b1 b2 b3 = (b0 % 32 * 64 + b1 % 64, 2) := by
    unfold Go.Lib.decodeN; rw [if_neg a1, if_pos (by omega), if_pos (by omega)]
   rw [e, if_neg (by simp), if_pos (by omega)]; rfl
  ·exact sTe3_2
 rw [if_neg (show ¬ (b0 : Int) < 224 by omega)]
 by_cases a4 : b0 < 240
 ·rw [if_pos (show (b0 : Int) < 240 by omega)]
  by_cases q : 3 ≤ n ∧ 128 ≤ b1 ∧ b1 < 192 ∧ 128 ≤ b2 ∧ b2 < 192
  ·by_cases q2 : 2048 ≤ b0 % 16 * 4096 + b1 % 64 * 64 + b2 % 64 ∧ ¬ (55296 ≤ b0 % 16 * 4096 + b1 % 64 * 64 + b2 % 64 ∧ b0 % 16 * 4096 + b1 % 64 * 64 + b2 % 64 ≤ 57343)
   ·have e : Go.Lib.decodeN n b0 b1 b2 b3 = (b0 % 16 * 4096 + b1 % 64 * 64 + b2 % 64, 3) := by
     unfold Go.Lib.decodeN; rw [if_neg a1, if_neg (by omega), if_pos (by omega), if_pos (by omega)]
    rw [e, if_neg (by simp), if_pos (by omega)]; rfl
   ·have e : Go.Lib.decodeN n b0 b1 b2 b3 = (65533, 1) := by
     unfold Go.Lib.decodeN; rw [if_neg a1, if_neg (by omega), if_pos (by omega), if_neg (by omega)]
    rw [e, if_pos ⟨rfl, rfl⟩, if_neg (by omega)]; rfl
  ·exact sTe3_2
 rw [if_neg (show ¬ (b0 : Int) < 240 by omega)]
 by_cases a5 : b0 < 245
 ·rw [if_pos (show (b0 : Int) < 245 by omega)]
  by_cases q : 4 ≤ n ∧ 128 ≤ b1 ∧ b1 < 192 ∧ 128 ≤ b2 ∧ b2 < 192 ∧ 128 ≤ b3 ∧ b3 < 192
  ·by_cases q2 : 65536 ≤ b0 % 8 * 262144 + b1 % 64 * 4096 + b2 % 64 * 64 + b3 % 64 ∧ b0 % 8 * 262144 + b1 % 64 * 4096 + b2 % 64 * 64 + b3 % 64 ≤ 1114111
   ·have e : Go.Lib.decodeN n b0 b1 b2 b3 = (b0 % 8 * 262144 + b1 % 64 * 4096 + b2 % 64 * 64 + b3 % 64, 4) := by
     unfold Go.Lib.decodeN; rw [if_neg a1, if_neg (by omega), if_neg (by omega), if_pos (by omega), if_pos (by omega)]
    rw [e, if_neg (by simp), if_pos (by omega)]; rfl
   ·have e : Go.Lib.decodeN n b0 b1 b2 b3 = (65533, 1) := by
     unfold Go.Lib.decodeN; rw [if_neg a1, if_neg (by omega), if_neg (by omega), if_pos (by omega), if_neg (by omega)]
    rw [e, if_pos ⟨rfl, rfl⟩, if_neg (by omega)]; rfl
  ·exact sTe3_2
 ·rw [if_neg (show ¬ (b0 : Int) < 245 by omega)]
  have e : Go.Lib.decodeN n b0 b1 b2 b3 = (65533, 1) := by
   unfold Go.Lib.decodeN
   rw [if_neg a1, if_neg (by omega), if_neg (by omega)]
   by_cases q : b0 / 8 = 30 ∧ (1 < n ∧ b1 / 64 = 2) ∧ (2 < n ∧ b2 / 64 = 2) ∧ (3 < n ∧ b3 / 64 = 2)
   ·rw [if_pos q, if_neg (by omega)]
   ·rw [if_neg q]
  rw [e, if_pos ⟨rfl, rfl⟩]; rfl
theorem bt_getD (x : ByteArray) (j : Nat) : bt x (j : Int) = ((x.data.toList.getD j 0).toNat : Int) := by
 unfold bt
 rw [Int.toNat_natCast]
 by_cases h : j < x.size
 ·have h2 : j < x.data.toList.length := by rw [data_length]; exact h
  rw [dif_pos h, List.getD_eq_getElem?_getD, List.getElem?_eq_getElem h2]; rfl
 ·have h2 : ¬ j < x.data.toList.length := by rw [data_length]; exact h
  rw [dif_neg h, List.getD_eq_getElem?_getD, List.getElem?_eq_none (by omega)]; rfl
theorem runeD_eq (x : ByteArray) (h : 0 < x.size) : (runeD x.data.toList : Int) = runeLen x.size (bt x 0) (bt x 1) (bt x 2) (bt x 3) := by
 unfold runeD
 rw [Go.Lib.decodeL_N]
 have := runeN x.data.toList.length (x.data.toList.getD 0 0).toNat (x.data.toList.getD 1 0).toNat (x.data.toList.getD 2 0).toNat (x.data.toList.getD 3 0).toNat (UInt8.toNat_lt _) (UInt8.toNat_lt _) (UInt8.toNat_lt _) (UInt8.toNat_lt _) (by rw [data_length]; exact h)
 rw [this, data_length, ← bt_getD x 0, ← bt_getD x 1, ← bt_getD x 2, ← bt_getD x 3]; rfl
def brk : Nat → List UInt8 → Nat
 | 0, _ => 0
 | n + 1, l => if l = [] then 0 else if runeD l = 0 then 0 else runeD l + brk n (l.drop (runeD l))
def brkL (l : List UInt8) : Nat := brk l.length l
theorem runeD_le (l : List UInt8) (hne : l ≠ []) : runeD l ≤ l.length := by
 unfold runeD; split
 ·omega
 ·exact Go.Lib.decodeL_le l hne
theorem brk_le : ∀ (n : Nat) (l : List UInt8), brk n l ≤ l.length := by
 intro n
 induction n with
 | zero => intro l; simp [brk]
 | succ n ih =>
  intro l
  rw [brk]
  split
  ·omega
  ·rename_i hne
   split
   ·omega
   ·have h1 := runeD_le l hne
    have h2 := ih (l.drop (runeD l))
    rw [List.length_drop] at h2
    omega
theorem brk_more : ∀ (n m : Nat) (l : List UInt8), l.length ≤ n → l.length ≤ m → brk n l = brk m l := by
 intro n
 induction n with
 | zero => intro m l h _; have : l = [] := List.length_eq_zero_iff.1 (by omega); subst this; cases m <;> simp [brk]
 | succ n ih =>
  intro m l h hm
  cases m with
  | zero => have : l = [] := List.length_eq_zero_iff.1 (by omega); subst this; simp [brk]
  | succ m =>
   rw [brk, brk]
   by_cases hne : l = []
   ·rw [if_pos hne, if_pos hne]
   ·rw [if_neg hne, if_neg hne]
    by_cases h0 : runeD l = 0
    ·rw [if_pos h0, if_pos h0]
    ·rw [if_neg h0, if_neg h0, ih m _ (by rw [List.length_drop]; omega) (by rw [List.length_drop]; omega)]
theorem brkL_step (l : List UInt8) (hne : l ≠ []) : brkL l = if runeD l = 0 then 0 else runeD l + brkL (l.drop (runeD l)) := by
 unfold brkL
 cases hl : l.length with
 | zero => exact absurd (List.length_eq_zero_iff.1 hl) hne
 | succ n =>
  rw [brk, if_neg hne]
  by_cases h0 : runeD l = 0
  ·rw [if_pos h0, if_pos h0]
  ·rw [if_neg h0, if_neg h0, brk_more n _ _ (by rw [List.length_drop]; omega) (Nat.le_refl _)]
theorem data_extract (x : ByteArray) (i : Nat) : (x.extract i x.size).data.toList = x.data.toList.drop i := by
 rw [ByteArray.data_extract, Array.toList_extract, List.extract_eq_take_drop]
 exact List.take_of_length_le (by rw [List.length_drop, data_length]; omega)
theorem broken_loop (x : ByteArray) (hx : x.size ≤ 1000000) (d : Nat) : ∀ i : Nat, i ≤ x.size → x.size - i ≤ d → Ev (fun k => parapetref9_Broken.l0 k x (i : Int)) ((i + brkL (x.data.toList.drop i) : Nat) : Int) := by
 induction d with
 | zero =>
  intro i hi hd
  have : x.data.toList.drop i = [] := List.drop_eq_nil_of_le (by rw [data_length]; omega)
  rw [this]
  refine Ev.step (f := fun _ => some (x.size : Int)) (fun k => ?_) ((Ev.now _).eq (by simp only [brkL, List.length_nil, brk]; omega))
  simp only [parapetref9_Broken.l0]
  rw [if_neg (by omega)]
 | succ d ih =>
  intro i hi hd
  by_cases hlt : i < x.size
  ·have hsz : (x.extract i x.size).size = x.size - i := by rw [← data_length, data_extract, List.length_drop, data_length]
   have hne : x.data.toList.drop i ≠ [] := by
    intro e; have := congrArg List.length e; rw [List.length_drop, data_length] at this; simp at this; omega
   have hr := rune_ev (x.extract i x.size) (by omega)
   rw [← runeD_eq _ (by omega), data_extract] at hr
   have hle := runeD_le _ hne
   rw [List.length_drop, data_length] at hle
   rw [brkL_step _ hne]
   refine Ev.step (fun k => ?_) (Ev.bind hr (f := fun k t => if t = 0 then some (i : Int) else parapetref9_Broken.l0 k x (wrap64 ((i : Int) + t))) ?_)
   ·simp only [parapetref9_Broken.l0]
    rw [if_pos (by omega), if_pos (by omega), if_pos (by omega), Int.toNat_natCast]
   ·by_cases h0 : runeD (x.data.toList.drop i) = 0
    ·simp only [h0, if_true]
     simp only [Int.natCast_zero, if_true]
     exact (Ev.now _).eq (by omega)
    ·have h1 : ¬ ((runeD (x.data.toList.drop i) : Nat) : Int) = 0 := by omega
     simp only [h1, h0, if_false]
     rw [w64 (by omega) (by omega), show (i : Int) + ((runeD (x.data.toList.drop i) : Nat) : Int) = ((i + runeD (x.data.toList.drop i) : Nat) : Int) from by omega]
     refine (ih _ (by omega) (by omega)).eq ?_
     rw [List.drop_drop]
     omega
  ·have : x.data.toList.drop i = [] := List.drop_eq_nil_of_le (by rw [data_length]; omega)
   rw [this]
   refine Ev.step (f := fun _ => some (x.size : Int)) (fun k => ?_) ((Ev.now _).eq (by simp only [brkL, List.length_nil, brk]; omega))
   simp only [parapetref9_Broken.l0]
   rw [if_neg (by omega)]
theorem broken_ev (x : ByteArray) (hx : x.size ≤ 1000000) : Ev (fun k => parapetref9_Broken.f k x) ((brkL x.data.toList : Nat) : Int) := by
 have := broken_loop x hx x.size 0 (by omega) (by omega)
 simpa [parapetref9_Broken.f] using this
end Go.Proofs.YtngedmioeodmfaaDoor.Pu
namespace Go.Proofs.YtngedmioeodmfaaDoor.Pu
open Go.RowKit Go.Proofs.YtngedmioeodmfaaDoor.Pr Go.Proofs.YtngedmioeodmfaaDoorW.PrintWords Go.Proofs.YtngedmioeodmfaaDoor.Lx
theorem decodeGo_L (x : ByteArray) (h : 0 < x.size) : Go.Lib.decodeGo x = Go.Lib.decodeL x.data.toList := by
 unfold Go.Lib.decodeGo
 rw [if_neg (by omega)]
 cases x with | mk d => cases d with | mk l => rfl
def wrongN (l : List UInt8) : Nat := if brkL l = l.length then l.length + 1 else brkL l
theorem wrong_loop (x : ByteArray) (hx : x.size ≤ 1000000) (d : Nat) : ∀ i : Nat, i ≤ x.size → x.size - i ≤ d → Ev (fun k => lex_wrong.l0 k x (i : Int)) ((if i + brkL (x.data.toList.drop i) = x.size then x.size + 1 else i + brkL (x.data.toList.drop i) : Nat) : Int) := by
 have stop : ∀ i : Nat, i ≤ x.size → ¬ i < x.size → Ev (fun k => lex_wrong.l0 k x (i : Int)) ((if i + brkL (x.data.toList.drop i) = x.size then x.size + 1 else i + brkL (x.data.toList.drop i) : Nat) : Int) := by
  intro i hi hn
  have : x.data.toList.drop i = [] := List.drop_eq_nil_of_le (by rw [data_length]; omega)
  rw [this]
  have hz : brkL ([] : List UInt8) = 0 := rfl
  rw [hz, if_pos (by omega)]
  refine Ev.step (f := fun _ => some (wrap64 ((x.size : Int) + 1))) (fun k => ?_) ((Ev.now _).eq (by rw [w64 (by omega) (by omega)]; omega))
  simp only [lex_wrong.l0]
  rw [if_neg (by omega)]
 induction d with
 | zero => intro i hi hd; exact stop i hi (by omega)
 | succ d ih =>
  intro i hi hd
  by_cases hlt : i < x.size
  ·have hsz : (x.extract i x.size).size = x.size - i := by rw [← data_length, data_extract, List.length_drop, data_length]
   have hne : x.data.toList.drop i ≠ [] := by
    intro e; have := congrArg List.length e; rw [List.length_drop, data_length] at this; simp at this; omega
   have hle := runeD_le _ hne
   rw [List.length_drop, data_length] at hle
   have hdec : Go.Lib.decodeGo (x.extract i x.size) = Go.Lib.decodeL (x.data.toList.drop i) := by rw [decodeGo_L _ (by omega), data_extract]
   have hle2 := Go.Lib.decodeL_le _ hne
   rw [List.length_drop, data_length] at hle2
   have hw := Go.Lib.decodeL_width (x.data.toList.drop i)
   have hb := brkL_step _ hne
   have hrd : runeD (x.data.toList.drop i) = if (Go.Lib.decodeL (x.data.toList.drop i)).1 = 65533 ∧ (Go.Lib.decodeL (x.data.toList.drop i)).2 = 1 then 0 else (Go.Lib.decodeL (x.data.toList.drop i)).2 := rfl
   have hbl := brk_le (x.data.toList.drop i).length (x.data.toList.drop i)
   refine Ev.step (fun k => ?_) (Ev.some_bind (o := utf8_DecodeRuneInString.f (x.extract i x.size)) (a := (((Go.Lib.decodeL (x.data.toList.drop i)).1 : Int), ((Go.Lib.decodeL (x.data.toList.drop i)).2 : Int))) (f := fun k bt => if bt.1 = 65533 then (if bt.2 = 1 then some (i : Int) else lex_wrong.l0 k x (wrap64 ((i : Int) + bt.2))) else lex_wrong.l0 k x (wrap64 ((i : Int) + bt.2))) (by rw [utf8_DecodeRuneInString.f, hdec]) ?_)
   ·simp only [lex_wrong.l0]
    rw [if_pos (by omega), if_pos (by omega), if_pos (by omega), Int.toNat_natCast]
   ·simp only
    by_cases h0 : (Go.Lib.decodeL (x.data.toList.drop i)).1 = 65533 ∧ (Go.Lib.decodeL (x.data.toList.drop i)).2 = 1
    ·rw [if_pos h0] at hrd
     rw [hrd, if_pos rfl] at hb
     rw [hb, if_neg (by omega)]
     refine Ev.step (f := fun _ => some (i : Int)) (fun k => ?_) ((Ev.now _).eq (by omega))
     rw [if_pos (by omega), if_pos (by omega)]
    ·rw [if_neg h0] at hrd
     have h1 : runeD (x.data.toList.drop i) ≠ 0 := by omega
     rw [if_neg h1] at hb
     have hi2 := ih (i + (Go.Lib.decodeL (x.data.toList.drop i)).2) (by omega) (by omega)
     rw [← List.drop_drop, ← hrd] at hi2
     rw [hb]
     have e : ∀ k, (if (((Go.Lib.decodeL (x.data.toList.drop i)).1 : Nat) : Int) = 65533 then (if (((Go.Lib.decodeL (x.data.toList.drop i)).2 : Nat) : Int) = 1 then some (i : Int) else lex_wrong.l0 k x (wrap64 ((i : Int) + (((Go.Lib.decodeL (x.data.toList.drop i)).2 : Nat) : Int)))) else lex_wrong.l0 k x (wrap64 ((i : Int) + (((Go.Lib.decodeL (x.data.toList.drop i)).2 : Nat) : Int)))) = lex_wrong.l0 k x ((i + runeD (x.data.toList.drop i) : Nat) : Int) := by
      intro k
      rw [w64 (by omega) (by omega), ← hrd, Int.natCast_add]
      split
      ·split
       ·omega
       ·rfl
      ·rfl
     simp only [e]
     rw [Nat.add_assoc] at hi2
     exact hi2
  ·exact stop i hi hlt
theorem wrong_ev (x : ByteArray) (hx : x.size ≤ 1000000) : Ev (fun k => lex_wrong.f k x) ((wrongN x.data.toList : Nat) : Int) := by
 have := wrong_loop x hx x.size 0 (by omega) (by omega)
 simp only [Nat.zero_add, List.drop_zero] at this
 unfold wrongN
 rw [data_length]
 exact this
def tokM (x : ByteArray) : List Tk × Int × Int :=
 if x.size > 3000 then ([], 2, 0) else
 match sm 0 .sk [] (bytesOf x) with
 | .bad j => ([], 8, min (wrongN x.data.toList : Int) (j : Int))
 | .good ts => if (wrongN x.data.toList : Int) ≤ (x.size : Int) then ([], 8, (wrongN x.data.toList : Int)) else (ts, 0, 0)
theorem tokens_ev (x : ByteArray) : Ev (fun k => lex_Tokens.f k x) (tokM x) := by
 unfold tokM lex_Tokens.f
 by_cases h : x.size > 3000
 ·rw [if_pos h]
  refine Ev.const fun k => ?_
  rw [if_pos (by omega)]
 ·rw [if_neg h]
  have e : ∀ k, (if (x.size : Int) > 3000 then some ([], 2, 0) else (lex_wrong.f k x).bind fun bad => some (tokRes x bad)) = (lex_wrong.f k x).bind fun bad => some (tokRes x bad) := fun k => if_neg (by omega)
  simp only [e]
  refine Ev.bind (wrong_ev x (by omega)) ((Ev.now _).eq ?_)
  first
  | (rw [tokRes_sm]; cases sm 0 .sk [] (bytesOf x) <;> rfl)
  | rw [tokRes_sm]
def rs : Nat → St → List Tk → List Int → One
 | _, st, ts, [] => .go st ts
 | i, st, ts, c :: l => match step i c st ts with
  | .bad j => .bad j
  | .go st' ts' => rs (i + 1) st' ts' l
def ends (n : Nat) : One → Out
 | .bad j => .bad j
 | .go st ts => fin n st ts
theorem sm_rs : ∀ l i st ts, sm i st ts l = ends (i + l.length) (rs i st ts l) := by
 intro l
 induction l with
 | nil => intro i st ts; rfl
 | cons c l ih =>
  intro i st ts
  rw [sm, rs]
  cases step i c st ts with
  | bad j => rfl
  | go st' ts' =>
   simp only
   rw [ih, List.length_cons, show i + 1 + l.length = i + (l.length + 1) by omega]
theorem rs_app : ∀ l1 i st ts l2, rs i st ts (l1 ++ l2) = (match rs i st ts l1 with
  | .bad j => .bad j
  | .go st' ts' => rs (i + l1.length) st' ts' l2) := by
 intro l1
 induction l1 with
 | nil => intro i st ts l2; rfl
 | cons c l ih =>
  intro i st ts l2
  rw [List.cons_append, rs, rs]
  cases step i c st ts with
  | bad j => rfl
  | go st' ts' =>
   simp only
   rw [ih, List.length_cons, show i + 1 + l.length = i + (l.length + 1) by omega]
theorem rs_app_go {l1 : List Int} {i : Nat} {st : St} {ts : List Tk} {st' : St} {ts' : List Tk} (h : rs i st ts l1 = .go st' ts') (l2 : List Int) : rs i st ts (l1 ++ l2) = rs (i + l1.length) st' ts' l2 := by
 rw [rs_app, h]
theorem rs_app_bad {l1 : List Int} {i : Nat} {st : St} {ts : List Tk} {j : Nat} (h : rs i st ts l1 = .bad j) (l2 : List Int) : rs i st ts (l1 ++ l2) = .bad j := by
 rw [rs_app, h]
def escL (l : List Int) : List Int := l.flatMap fun c => if c = 34 ∨ c = 92 then [92, c] else [c]
theorem escL_nil : escL [] = [] := rfl
theorem escL_cons (c : Int) (l : List Int) : escL (c :: l) = (if c = 34 ∨ c = 92 then [92, c] else [c]) ++ escL l := by simp [escL]
theorem escL_app (l m : List Int) : escL (l ++ m) = escL l ++ escL m := by simp [escL]
def wof (t : Tk) : List Int := if t.f0 = 2 then 34 :: (escL (bytesOf t.f2) ++ [34]) else bytesOf t.f2
def okT (t : Tk) : Prop :=
 (t.f0 = 1 ∧ ∃ c l, bytesOf t.f2 = c :: l ∧ pBlank c = false ∧ c ≠ 35 ∧ pLetter c = true ∧ ∀ x ∈ l, pWord x = true) ∨
 (t.f0 = 2 ∧ ∀ x ∈ bytesOf t.f2, x ≠ 10) ∨
 (∃ c, (c = 40 ∨ c = 41 ∨ c = 59) ∧ t.f0 = opIdx c ∧ bytesOf t.f2 = [c])
def Placed (bs : List Int) : Nat → List Tk → Prop
 | _, [] => True
 | e, t :: r => okT t ∧ ∃ a : Nat, t.f1 = (a : Int) ∧ e ≤ a ∧ (∃ rest, bs.drop a = wof t ++ rest) ∧ Placed bs (a + (wof t).length) r
theorem Placed.weak {bs : List Int} : ∀ {e e' : Nat} {ts : List Tk}, Placed bs e ts → e' ≤ e → Placed bs e' ts
 | _, _, [], _, _ => trivial
 | _, _, _ :: _, ⟨h1, a, h2, h3, h4, h5⟩, h => ⟨h1, a, h2, Nat.le_trans h h3, h4, h5⟩
def Rng (l : List Int) : Prop := ∀ x ∈ l, 0 ≤ x ∧ x ≤ 255
theorem opIdx_ne (c : Int) : opIdx c ≠ 2 := by unfold opIdx; repeat' split
                                               all_goals omega
def Inv (bs : List Int) (i : Nat) (l : List Int) : St → Prop
 | .sk => True
 | .nt => True
 | .wd a acc => bs.drop a = acc ++ l ∧ a + acc.length = i ∧ Rng acc ∧ ∃ c r, acc = c :: r ∧ pBlank c = false ∧ c ≠ 35 ∧ pLetter c = true ∧ ∀ x ∈ r, pWord x = true
 | .qt a acc => bs.drop a = (34 :: escL acc) ++ l ∧ a + 1 + (escL acc).length = i ∧ Rng acc ∧ ∀ x ∈ acc, x ≠ 10
 | .es a p acc => bs.drop a = (34 :: escL acc) ++ 92 :: l ∧ a + 1 + (escL acc).length + 1 = i ∧ Rng acc ∧ ∀ x ∈ acc, x ≠ 10
def begins (i : Nat) : St → Nat
 | .sk => i
 | .nt => i
 | .wd a _ => a
 | .qt a _ => a
 | .es a _ _ => a
theorem sm_placed (bs : List Int) : ∀ l i st ts out, bs.drop i = l → Rng l → Inv bs i l st → sm i st ts l = .good out → ∃ new, out = ts ++ new ∧ Placed bs (begins i st) new := by
 intro l
 induction l with
 | nil =>
  intro i st ts out hd hr hI e
  rw [sm] at e
  cases st with
  | sk => simp only [fin, Out.good.injEq] at e; exact ⟨[], by simp [e], trivial⟩
  | nt => simp only [fin, Out.good.injEq] at e; exact ⟨[], by simp [e], trivial⟩
  | wd a acc =>
   simp only [fin, Out.good.injEq] at e
   obtain ⟨h1, h2, h3, c, r, h4, h5⟩ := hI
   have hb := bytesOf_str acc h3
   have hw : wof (⟨1, a, strOfNums acc⟩ : Tk) = acc := by unfold wof; rw [if_neg (by simp)]; exact hb
   refine ⟨[⟨1, a, strOfNums acc⟩], e.symm, .inl ⟨rfl, c, r, by rw [hb, h4], h5⟩, a, rfl, Nat.le_refl _, ⟨[], by rw [hw]; exact h1⟩, trivial⟩
  | qt a acc => cases e
  | es a p acc => cases e
 | cons c l ih =>
  intro i st ts out hd hr hI e
  have hd1 : bs.drop (i + 1) = l := by
   rw [← List.drop_drop, hd]; rfl
  have hr1 : Rng l := fun x hx => hr x (List.mem_cons_of_mem _ hx)
  have hrc := hr c List.mem_cons_self
  rw [sm] at e
  -- from between tokens
  have base : ∀ ts, (match st1 i c ts with | .bad j => Out.bad j | .go st' ts' => sm (i + 1) st' ts' l) = .good out → ∃ new, out = ts ++ new ∧ Placed bs i new := by
   intro ts e
   unfold st1 at e
   by_cases p1 : pBlank c = true
   ·rw [if_pos p1] at e
    obtain ⟨new, h1, h2⟩ := ih (i + 1) .sk ts out hd1 hr1 trivial e
    exact ⟨new, h1, h2.weak (Nat.le_succ _)⟩
   rw [if_neg p1] at e
   have p1' : pBlank c = false := by cases h : pBlank c with
    | true => exact absurd h p1
    | false => rfl
   by_cases p2 : c = 35
   ·rw [if_pos p2] at e
    obtain ⟨new, h1, h2⟩ := ih (i + 1) .nt ts out hd1 hr1 trivial e
    exact ⟨new, h1, h2.weak (Nat.le_succ _)⟩
   rw [if_neg p2] at e
   by_cases p3 : pLetter c = true
   ·rw [if_pos p3] at e
    obtain ⟨new, h1, h2⟩ := ih (i + 1) (.wd i [c]) ts out hd1 hr1 ⟨hd, rfl, by intro x hx; simp at hx; subst hx; exact hrc, c, [], rfl, p1', p2, p3, by simp⟩ e
    exact ⟨new, h1, h2⟩
   rw [if_neg p3] at e
   by_cases p4 : c = 34
   ·rw [if_pos p4] at e
    obtain ⟨new, h1, h2⟩ := ih (i + 1) (.qt i []) ts out hd1 hr1 ⟨by rw [hd, p4]; rfl, rfl, (by intro x hx; cases hx), by simp⟩ e
    exact ⟨new, h1, h2⟩
   rw [if_neg p4] at e
   by_cases p5 : c = 40 ∨ c = 41 ∨ c = 59
   ·rw [if_pos p5] at e
    obtain ⟨new, h1, h2⟩ := ih (i + 1) .sk _ out hd1 hr1 trivial e
    have hb : bytesOf (strOfNums [c]) = [c] := bytesOf_str [c] (by intro x hx; simp at hx; subst hx; exact hrc)
    have hw : wof (⟨opIdx c, i, strOfNums [c]⟩ : Tk) = [c] := by unfold wof; rw [if_neg (opIdx_ne c)]; exact hb
    refine ⟨⟨opIdx c, i, strOfNums [c]⟩ :: new, by rw [h1]; simp, .inr (.inr ⟨c, p5, rfl, hb⟩), i, rfl, Nat.le_refl _, ⟨l, by rw [hw]; exact hd⟩, ?_⟩
    rw [hw]; exact h2
   ·rw [if_neg p5] at e; cases e
  cases st with
  | sk => exact base ts e
  | nt =>
   simp only [step] at e
   by_cases p : c = 10
   ·rw [if_pos p] at e
    obtain ⟨new, h1, h2⟩ := ih (i + 1) .sk ts out hd1 hr1 trivial e
    exact ⟨new, h1, h2.weak (Nat.le_succ _)⟩
   ·rw [if_neg p] at e
    obtain ⟨new, h1, h2⟩ := ih (i + 1) .nt ts out hd1 hr1 trivial e
    exact ⟨new, h1, h2.weak (Nat.le_succ _)⟩
  | wd a acc =>
   obtain ⟨h1, h2, h3, c0, r, h4, h5, h6, h7, h8⟩ := hI
   simp only [step] at e
   by_cases p : pWord c = true
   ·rw [if_pos p] at e
    refine ih (i + 1) (.wd a (acc ++ [c])) ts out hd1 hr1 ⟨by rw [h1]; simp, by rw [List.length_append, List.length_singleton]; omega, ?_, c0, r ++ [c], by rw [h4]; rfl, h5, h6, h7, ?_⟩ e
    ·intro x hx; rcases List.mem_append.1 hx with hx | hx
     ·exact h3 x hx
     ·simp at hx; subst hx; exact hrc
    ·intro x hx; rcases List.mem_append.1 hx with hx | hx
     ·exact h8 x hx
     ·simp at hx; subst hx; exact p
   ·rw [if_neg p] at e
    obtain ⟨new, hn1, hn2⟩ := base _ e
    have hb := bytesOf_str acc h3
    have hw : wof (⟨1, a, strOfNums acc⟩ : Tk) = acc := by unfold wof; rw [if_neg (by simp)]; exact hb
    refine ⟨⟨1, a, strOfNums acc⟩ :: new, by rw [hn1]; simp, .inl ⟨rfl, c0, r, by rw [hb, h4], h5, h6, h7, h8⟩, a, rfl, Nat.le_refl _, ⟨c :: l, by rw [hw]; exact h1⟩, ?_⟩
    rw [hw, h2]; exact hn2
  | qt a acc =>
   obtain ⟨h1, h2, h3, h4⟩ := hI
   simp only [step] at e
   by_cases p1 : c = 34
   ·rw [if_pos p1] at e
    obtain ⟨new, hn1, hn2⟩ := ih (i + 1) .sk _ out hd1 hr1 trivial e
    have hb := bytesOf_str acc h3
    have hw : wof (⟨2, a, strOfNums acc⟩ : Tk) = 34 :: (escL acc ++ [34]) := by unfold wof; rw [if_pos rfl]; show 34 :: (escL (bytesOf (strOfNums acc)) ++ [34]) = _; rw [hb]
    refine ⟨⟨2, a, strOfNums acc⟩ :: new, by rw [hn1]; simp, .inr (.inl ⟨rfl, by show ∀ x ∈ bytesOf (strOfNums acc), x ≠ 10; rw [hb]; exact h4⟩), a, rfl, Nat.le_refl _, ⟨l, by rw [hw, h1, p1]; simp⟩, ?_⟩
    rw [hw]
    have : a + (34 :: (escL acc ++ [34])).length = i + 1 := by simp; omega
    rw [this]; exact hn2
   ·rw [if_neg p1] at e
    by_cases p2 : c = 10
    ·rw [if_pos p2] at e; cases e
    ·rw [if_neg p2] at e
     by_cases p3 : c = 92
     ·rw [if_pos p3] at e
      exact ih (i + 1) (.es a i acc) ts out hd1 hr1 ⟨by rw [h1, p3], by omega, h3, h4⟩ e
     ·rw [if_neg p3] at e
      have he : escL (acc ++ [c]) = escL acc ++ [c] := by rw [escL_app, escL_cons, escL_nil, if_neg (by omega)]; rfl
      refine ih (i + 1) (.qt a (acc ++ [c])) ts out hd1 hr1 ⟨by rw [h1, he]; simp, by rw [he, List.length_append, List.length_singleton]; omega, ?_, ?_⟩ e
      ·intro x hx; rcases List.mem_append.1 hx with hx | hx
       ·exact h3 x hx
       ·simp at hx; subst hx; exact hrc
      ·intro x hx; rcases List.mem_append.1 hx with hx | hx
       ·exact h4 x hx
       ·simp at hx; subst hx; exact p2
  | es a p acc =>
   obtain ⟨h1, h2, h3, h4⟩ := hI
   simp only [step] at e
   by_cases p1 : c = 34 ∨ c = 92
   ·rw [if_pos p1] at e
    have he : escL (acc ++ [c]) = escL acc ++ [92, c] := by rw [escL_app, escL_cons, escL_nil, if_pos p1]; rfl
    refine ih (i + 1) (.qt a (acc ++ [c])) ts out hd1 hr1 ⟨by rw [h1, he]; simp, by rw [he, List.length_append]; simp; omega, ?_, ?_⟩ e
    ·intro x hx; rcases List.mem_append.1 hx with hx | hx
     ·exact h3 x hx
     ·simp at hx; subst hx; exact hrc
    ·intro x hx; rcases List.mem_append.1 hx with hx | hx
     ·exact h4 x hx
     ·simp at hx; subst hx; omega
   ·rw [if_neg p1] at e; cases e
theorem placed (s : ByteArray) (ts : List Tk) (h : sm 0 .sk [] (bytesOf s) = .good ts) : Placed (bytesOf s) 0 ts := by
 obtain ⟨new, h1, h2⟩ := sm_placed (bytesOf s) (bytesOf s) 0 .sk [] ts rfl (bytesOf_range s) trivial h
 rw [h1]; exact h2
end Go.Proofs.YtngedmioeodmfaaDoor.Pu
namespace Go.Proofs.YtngedmioeodmfaaDoor.Pr
open Go.RowKit Go.Proofs.YtngedmioeodmfaaDoorW.PrintWords Go.Proofs.YtngedmioeodmfaaDoorW.PrintLast Go.Proofs.YtngedmioeodmfaaDoorW.PrintMore
attribute [local go_sem] max2_int min2_int max_two min_two max_three min_three max_four min_four
def parapetref1_In.l0 : Nat → ByteArray → List ByteArray → Int → Option (Bool)
 | 0, _, _, _ => none
 | k + 1, x0, x1, x5 => if x5 < (x1.length : Int) then (if 0 ≤ x5 then (if (rdOf ByteArray.empty x1 x5).toList = x0.toList then (some true) else (parapetref1_In.l0 k x0 x1 (wrap64 (x5 + 1)))) else (none)) else (some false)
def parapetref1_In.f (k : Nat) (a0 : ByteArray) (l1 : List ByteArray) : Option (Bool) := parapetref1_In.l0 k a0 l1 0
set_option maxHeartbeats 8000000 in
set_option maxRecDepth 100000 in
theorem parapetref1_In.calls (k : Nat) (a0 : ByteArray) (A1 : Option Addr) (c1 : Nat) (l1 : List ByteArray) (r : Bool) (w : World) (hr1 : Kd.C Kd.string w A1 l1.length l1) (hc1 : l1.length ≤ c1) (h : parapetref1_In.f k a0 l1 = some r) :
  Calls Tryd.prog 26 #[.string a0, .slice A1 l1.length c1] w fun e w' => e = .returned (.bool r) ∧ Drawn0 w w' := by
 have HR1 := Aside0.mk hr1
 have HC1 := Aside0.mk hc1
 clear hr1 hc1
 have H : (parapetref1_In.l0 k a0 l1 0) = some r := h
 clear h
 have H' := Aside0.mk H
 clear H
 go_enter Tryd.func26, Tryd.ntmps26
 go_wp2
 go_loopg [5] k (fun kq v5 w' => ∃ (x5_1 : Int), v5 = .int .i64 x5_1 ∧ Aside0 (parapetref1_In.l0 kq a0 l1 x5_1 = some r) ∧ Aside0 (kq ≤ k) ∧ Drawn0 w w')
 case atStart => exact ⟨(0), (by first | rfl | (simp; done) | (simp [*]; done)), H', ⟨Nat.le_refl _⟩, by repeat (first | exact Drawn0.refl _ | apply Drawn0.step)⟩
 case round =>
  clear H'
  try clear c1
  try clear c2
  try clear p2
  obtain ⟨x5_1, rfl, HA, HK1, ⟨m1, rfl⟩⟩ := hrel
  cases gk with
  | zero => exact absurd HA.out (by simp [parapetref1_In.l0])
  | succ k1 =>
   have H := HA.out
   clear HA
   simp only [parapetref1_In.l0] at H
   by_cases c3 : x5_1 < (l1.length : Int)
   ·rw [if_pos c3] at H
    have c3b0 : decide (x5_1 < (l1.length : Int)) = true := decide_eq_true c3
    clear c3
    by_cases c4 : 0 ≤ x5_1
    ·rw [if_pos c4] at H
     have c4b0 : decide (0 ≤ x5_1) = true := decide_eq_true c4
     clear c4
     by_cases c5 : (rdOf ByteArray.empty l1 x5_1).toList = a0.toList
     ·rw [if_pos c5] at H
      have c5b0 : ((rdOf ByteArray.empty l1 x5_1).toList == a0.toList) = true := beq_iff_eq.mpr c5
      have c5b1 : ((rdOf ByteArray.empty l1 x5_1).toList != a0.toList) = false := bne_eq_false_iff_eq.mpr c5
      clear c5
      obtain rfl := Option.some.inj H
      have p359 : 0 ≤ (x5_1 : Int) := of_decide_eq_true (by first | (with_reducible assumption) | assumption)
      have q359 : x5_1 < (l1.length : Int) := of_decide_eq_true (by first | (with_reducible assumption) | assumption)
      obtain ⟨ad359, e359, hx359_0⟩ := Kd.at_string HR1.out x5_1 p359 q359
      cases e359
      replace p359 := eq_true p359
      replace q359 := eq_true q359
      go_wp2
      go_ret
      exact sTe3_0
     ·rw [if_neg c5] at H
      have c5b0 : ((rdOf ByteArray.empty l1 x5_1).toList == a0.toList) = false := beq_eq_false_iff_ne.mpr c5
      have c5b1 : ((rdOf ByteArray.empty l1 x5_1).toList != a0.toList) = true := bne_iff_ne.mpr c5
      have H' := Aside0.mk H
      clear H
      have p359 : 0 ≤ (x5_1 : Int) := of_decide_eq_true (by first | (with_reducible assumption) | assumption)
      have q359 : x5_1 < (l1.length : Int) := of_decide_eq_true (by first | (with_reducible assumption) | assumption)
      obtain ⟨ad359, e359, hx359_0⟩ := Kd.at_string HR1.out x5_1 p359 q359
      cases e359
      replace p359 := eq_true p359
      replace q359 := eq_true q359
      go_wp2
      go_roundg k1
      case measure => have := HK1.out; omega
      case rel => exact ⟨(wrap64 (x5_1 + 1)), (by first | rfl | (simp; done) | (simp [*]; done)), H', ⟨by have := HK1.out; omega⟩, by repeat (first | exact Drawn0.refl _ | apply Drawn0.step)⟩
    ·rw [if_neg c4] at H
     exact absurd H (by simp)
   ·rw [if_neg c3] at H
    have c3b0 : decide (x5_1 < (l1.length : Int)) = false := decide_eq_false c3
    clear c3
    obtain rfl := Option.some.inj H
    go_wp2
    go_ret
    exact sTe3_0
def lex_Quote.l0 : Nat → ByteArray → List Int → Int → Int → Option (ByteArray)
 | 0, _, _, _, _ => none
 | k + 1, x0, x3, x7, x8 => if x8 < x7 then (if 0 ≤ x8 then (if x8 < (x0.size : Int) then (if (bt x0 x8) = 34 then (if x3.length < 140737488355328 then ((some (x3 ++ [92] : List Int)).bind fun y363 => (if y363.length < 140737488355328 then (lex_Quote.l0 k x0 (y363 ++ [bt x0 x8]) x7 (wrap64 (x8 + 1))) else (none))) else (none)) else (if (bt x0 x8) = 92 then (if x3.length < 140737488355328 then ((some (x3 ++ [92] : List Int)).bind fun y369 => (if y369.length < 140737488355328 then (lex_Quote.l0 k x0 (y369 ++ [bt x0 x8]) x7 (wrap64 (x8 + 1))) else (none))) else (none)) else (if x3.length < 140737488355328 then (lex_Quote.l0 k x0 (x3 ++ [bt x0 x8]) x7 (wrap64 (x8 + 1))) else (none)))) else (none)) else (none)) else (if x3.length < 140737488355328 then (some (strOfNums (x3 ++ [34]))) else (none))
def lex_Quote.f (k : Nat) (a0 : ByteArray) : Option (ByteArray) := lex_Quote.l0 k a0 (([34] : List Int)) (a0.size : Int) 0
set_option maxHeartbeats 8000000 in
set_option maxRecDepth 100000 in
theorem lex_Quote.calls (k : Nat) (a0 : ByteArray) (r : ByteArray) (w : World) (h : lex_Quote.f k a0 = some r) :
  Calls Tryd.prog 38 #[.string a0] w fun e w' => e = .returned (.string r) ∧ Below w.heap.size w w' := by
 have HB := Aside0.mk (Below.refl w.heap.size w)
 have H : (lex_Quote.l0 k a0 (([34] : List Int)) (a0.size : Int) 0) = some r := h
 clear h
 obtain ⟨y360, hy360⟩ : ∃ y_ : List Int, y_ = (([34] : List Int)) := ⟨_, rfl⟩
 replace H : (lex_Quote.l0 k a0 y360 (a0.size : Int) 0) = some r := by first | (rw [hy360]; with_reducible exact H) | (have H2_ := (Option.bind_some _ _).symm.trans H; rw [hy360]; with_reducible exact H2_) | (have H2_ := (Option.bind_some _ _).symm.trans H; with_reducible exact H2_) | with_reducible exact H | (rw [hy360]; exact H) | exact H
 have Ny360 := Aside0.mk hy360
 clear hy360
 have H' := Aside0.mk H
 clear H
 go_enter Tryd.func38, Tryd.ntmps38
 go_wp2_with (first | ((with_reducible refine gate_dst (N := 5) rfl ?_); refine Kd.R_lit (Kd.int .u8) _ 5 ?hg (N := 5) ?hd (xs := ([34] : List Int)) (inner := [.int .u8 34]) (ok := fun _ => True) (okp := fun _ => True) ?hr ?hp (fun _ hk => hk) trivial (Below.refl _ _) (Nat.le_refl _) (by simp) ?_; (case hd => rfl); (case hg => rfl); (case hr => first | (go_simp; done) | (go_simp; rfl)); (case hp => exact (Reps.one (show Kd.M (Kd.int .u8) _ _ _ 34 [.int .u8 34] from rfl) (Reps.none _ _))); intro v361 w2 ho3 hb hg_ hnew_; clear hg_ hnew_; (first | rw [← Ny360.out] at ho3 | (simp only [Int.reduceToNat] at ho3; rw [← Ny360.out] at ho3)); have n0_ := Aside0.mk (Kd.R_lower ho3 (below_size (by repeat (first | (with_reducible first | exact HB.out | apply below_alloc | apply pw_below_drewN | apply below_drew1) | exact HB.out)))); have n1_ := Aside0.mk (below_step (by repeat (first | (with_reducible first | exact HB.out | apply below_alloc | apply pw_below_drewN | apply below_drew1) | exact HB.out)) hb); clear HB; have HO362 := n0_; have HB := n1_; clear n0_ n1_; clear hb ho3))
 go_loopg [3, 8] k (fun kq v3 v8 w' => ∃ (x3_1 : List Int) (x8_1 : Int), v8 = .int .i64 x8_1 ∧ Aside0 (lex_Quote.l0 kq a0 x3_1 (a0.size : Int) x8_1 = some r) ∧ Aside0 (kq ≤ k) ∧ Aside0 (Kd.R (Kd.int .u8) 5 w' w.heap.size (fun _ => True) v3 x3_1) ∧ Aside0 (Below w.heap.size w w'))
 case atStart => exact ⟨(y360), (0), (by first | rfl | (simp; done) | (simp [*]; done)), H', ⟨Nat.le_refl _⟩, ⟨by (with_reducible repeat (first | apply Kd.R_alloc | apply Kd.R_drewN | apply Kd.R_drew)); exact HO362.out⟩, ⟨by repeat (first | (with_reducible first | exact HB.out | apply below_alloc | apply pw_below_drewN | apply below_drew1) | exact HB.out)⟩⟩
 case round =>
  clear H'
  try clear p2
  try clear c3
  obtain ⟨x3_1, x8_1, rfl, HA, HK1, HO_3, HB⟩ := hrel
  cases gk with
  | zero => exact absurd HA.out (by simp [lex_Quote.l0])
  | succ k1 =>
   have H := HA.out
   clear HA
   simp only [lex_Quote.l0] at H
   by_cases c4 : x8_1 < (a0.size : Int)
   ·rw [if_pos c4] at H
    have c4b0 : decide (x8_1 < (a0.size : Int)) = true := decide_eq_true c4
    clear c4
    by_cases c5 : 0 ≤ x8_1
    ·rw [if_pos c5] at H
     have c5b0 : decide (0 ≤ x8_1) = true := decide_eq_true c5
     clear c5
     by_cases c6 : x8_1 < (a0.size : Int)
     ·rw [if_pos c6] at H
      have c6b0 : decide (x8_1 < (a0.size : Int)) = true := decide_eq_true c6
      clear c6
      by_cases c8 : (bt a0 x8_1) = 34
      ·rw [if_pos c8] at H
       have c8b0 : ((bt a0 x8_1) == 34) = true := beq_iff_eq.mpr c8
       have c8b1 : ((bt a0 x8_1) != 34) = false := bne_eq_false_iff_eq.mpr c8
       clear c8
       by_cases c9 : x3_1.length < 140737488355328
       ·rw [if_pos c9] at H
        have LMc9 := Aside0.mk c9
        clear c9
        obtain ⟨y363, hy363⟩ : ∃ y_ : List Int, y_ = (x3_1 ++ [92]) := ⟨_, rfl⟩
        replace H : (if y363.length < 140737488355328 then (lex_Quote.l0 k1 a0 (y363 ++ [bt a0 x8_1]) (a0.size : Int) (wrap64 (x8_1 + 1))) else (none)) = some r := by first | (rw [hy363]; with_reducible exact H) | (have H2_ := (Option.bind_some _ _).symm.trans H; rw [hy363]; with_reducible exact H2_) | (have H2_ := (Option.bind_some _ _).symm.trans H; with_reducible exact H2_) | with_reducible exact H | (rw [hy363]; exact H) | exact H
        have Ny363 := Aside0.mk hy363
        clear hy363
        by_cases c11 : y363.length < 140737488355328
        ·rw [if_pos c11] at H
         have LMc11 := Aside0.mk c11
         clear c11
         obtain ⟨y366, hy366⟩ : ∃ y_ : List Int, y_ = (y363 ++ [bt a0 x8_1]) := ⟨_, rfl⟩
         replace H : (lex_Quote.l0 k1 a0 y366 (a0.size : Int) (wrap64 (x8_1 + 1))) = some r := by first | (rw [hy366]; with_reducible exact H) | (have H2_ := (Option.bind_some _ _).symm.trans H; rw [hy366]; with_reducible exact H2_) | (have H2_ := (Option.bind_some _ _).symm.trans H; with_reducible exact H2_) | with_reducible exact H | (rw [hy366]; exact H) | exact H
         have Ny366 := Aside0.mk hy366
         clear hy366
         have H' := Aside0.mk H
         clear H
         have p7 : 0 ≤ (x8_1 : Int) := of_decide_eq_true (by first | (with_reducible assumption) | assumption)
         have q7 : x8_1 < (a0.size : Int) := of_decide_eq_true (by first | (with_reducible assumption) | assumption)
         have hx7 := bt_at a0 x8_1
         replace p7 := eq_true p7
         replace q7 := eq_true q7
         go_wp2_with (first | ((with_reducible refine gate_builtin (b := .append) (xs := #[.tmp 21, .tmp 22]) rfl ?_); at_builtin; refine Kd.R_append (Kd.int .u8) (w0 := w) w.heap.size rfl (.tmp 21) (.tmp 22) 100 5 (.int .u8 0) 1 rfl Tryd.underlying100 info5 rfl (by decide) (by omega) u3 x3_1 92 [.int .u8 92] (fun _ => True) (fun _ => False) rfl rfl ?aP (fun _ hk => hk.elim) ?aF ?aO ?aB ?aS ?aL ?_; (case aP => exact rfl); (case aB => exact (by repeat (first | (with_reducible first | exact HB.out | apply below_alloc | apply pw_below_drewN | apply below_drew1) | exact HB.out))); (case aF => exact (fun _ _ => trivial)); (case aO => exact (by (with_reducible repeat (first | apply Kd.R_alloc | apply Kd.R_drewN | apply Kd.R_drew)); exact HO_3.out)); (case aS => exact (below_size (by repeat (first | (with_reducible first | exact HB.out | apply below_alloc | apply pw_below_drewN | apply below_drew1) | exact HB.out)))); (case aL => have := LMc9.out; omega); intro v364 w12 ho hb hg hat; rw [← Ny363.out] at ho; have n0_ := Aside0.mk (hb); have n1_ := Aside0.mk (ho); clear HB; clear HO_3; have HB := n0_; have HO365 := n1_; clear n0_ n1_; clear ho hb hg hat; have p10 : 0 ≤ (x8_1 : Int) := of_decide_eq_true (by first | (with_reducible assumption) | assumption); have q10 : x8_1 < (a0.size : Int) := of_decide_eq_true (by first | (with_reducible assumption) | assumption); have hx10 := bt_at a0 x8_1; replace p10 := eq_true p10; replace q10 := eq_true q10) | ((with_reducible refine gate_builtin (b := .append) (xs := #[.tmp 24, .tmp 28]) rfl ?_); at_builtin; refine Kd.R_append (Kd.int .u8) (w0 := w) w.heap.size rfl (.tmp 24) (.tmp 28) 100 5 (.int .u8 0) 1 rfl Tryd.underlying100 info5 rfl (by decide) (by omega) v364 y363 (bt a0 x8_1) [.int .u8 (bt a0 x8_1)] (fun _ => True) (fun _ => False) rfl rfl ?aP (fun _ hk => hk.elim) ?aF ?aO ?aB ?aS ?aL ?_; (case aP => exact rfl); (case aB => exact (by repeat (first | (with_reducible first | exact HB.out | apply below_alloc | apply pw_below_drewN | apply below_drew1) | exact HB.out))); (case aF => exact (fun _ _ => trivial)); (case aO => exact (by (with_reducible repeat (first | apply Kd.R_alloc | apply Kd.R_drewN | apply Kd.R_drew)); exact HO365.out)); (case aS => exact (below_size (by repeat (first | (with_reducible first | exact HB.out | apply below_alloc | apply pw_below_drewN | apply below_drew1) | exact HB.out)))); (case aL => have := LMc11.out; omega); intro v367 w13 ho hb hg hat; rw [← Ny366.out] at ho; have n0_ := Aside0.mk (hb); have n1_ := Aside0.mk (ho); clear HB; clear HO365; have HB := n0_; have HO368 := n1_; clear n0_ n1_; clear ho hb hg hat))
         go_roundg k1
         case measure => have := HK1.out; omega
         case rel => exact ⟨(y366), (wrap64 (x8_1 + 1)), (by first | rfl | (simp; done) | (simp [*]; done)), H', ⟨by have := HK1.out; omega⟩, ⟨by (with_reducible repeat (first | apply Kd.R_alloc | apply Kd.R_drewN | apply Kd.R_drew)); exact HO368.out⟩, ⟨by repeat (first | (with_reducible first | exact HB.out | apply below_alloc | apply pw_below_drewN | apply below_drew1) | exact HB.out)⟩⟩
        ·rw [if_neg c11] at H
         exact absurd H (by simp)
       ·rw [if_neg c9] at H
        exact absurd H (by simp)
      ·rw [if_neg c8] at H
       have c8b0 : ((bt a0 x8_1) == 34) = false := beq_eq_false_iff_ne.mpr c8
       have c8b1 : ((bt a0 x8_1) != 34) = true := bne_iff_ne.mpr c8
       by_cases c15 : (bt a0 x8_1) = 92
       ·rw [if_pos c15] at H
        have c15b0 : ((bt a0 x8_1) == 92) = true := beq_iff_eq.mpr c15
        have c15b1 : ((bt a0 x8_1) != 92) = false := bne_eq_false_iff_eq.mpr c15
        clear c15
        by_cases c16 : x3_1.length < 140737488355328
        ·rw [if_pos c16] at H
         have LMc16 := Aside0.mk c16
         clear c16
         obtain ⟨y369, hy369⟩ : ∃ y_ : List Int, y_ = (x3_1 ++ [92]) := ⟨_, rfl⟩
         replace H : (if y369.length < 140737488355328 then (lex_Quote.l0 k1 a0 (y369 ++ [bt a0 x8_1]) (a0.size : Int) (wrap64 (x8_1 + 1))) else (none)) = some r := by first | (rw [hy369]; with_reducible exact H) | (have H2_ := (Option.bind_some _ _).symm.trans H; rw [hy369]; with_reducible exact H2_) | (have H2_ := (Option.bind_some _ _).symm.trans H; with_reducible exact H2_) | with_reducible exact H | (rw [hy369]; exact H) | exact H
         have Ny369 := Aside0.mk hy369
         clear hy369
         by_cases c18 : y369.length < 140737488355328
         ·rw [if_pos c18] at H
          have LMc18 := Aside0.mk c18
          clear c18
          obtain ⟨y372, hy372⟩ : ∃ y_ : List Int, y_ = (y369 ++ [bt a0 x8_1]) := ⟨_, rfl⟩
          replace H : (lex_Quote.l0 k1 a0 y372 (a0.size : Int) (wrap64 (x8_1 + 1))) = some r := by first | (rw [hy372]; with_reducible exact H) | (have H2_ := (Option.bind_some _ _).symm.trans H; rw [hy372]; with_reducible exact H2_) | (have H2_ := (Option.bind_some _ _).symm.trans H; with_reducible exact H2_) | with_reducible exact H | (rw [hy372]; exact H) | exact H
          have Ny372 := Aside0.mk hy372
          clear hy372
          have H' := Aside0.mk H
          clear H
          have p7 : 0 ≤ (x8_1 : Int) := of_decide_eq_true (by first | (with_reducible assumption) | assumption)
          have q7 : x8_1 < (a0.size : Int) := of_decide_eq_true (by first | (with_reducible assumption) | assumption)
          have hx7 := bt_at a0 x8_1
          replace p7 := eq_true p7
          replace q7 := eq_true q7
          have p14 : 0 ≤ (x8_1 : Int) := of_decide_eq_true (by first | (with_reducible assumption) | assumption)
          have q14 : x8_1 < (a0.size : Int) := of_decide_eq_true (by first | (with_reducible assumption) | assumption)
          have hx14 := bt_at a0 x8_1
          replace p14 := eq_true p14
          replace q14 := eq_true q14
          go_wp2_with (first | ((with_reducible refine gate_builtin (b := .append) (xs := #[.tmp 21, .tmp 22]) rfl ?_); at_builtin; refine Kd.R_append (Kd.int .u8) (w0 := w) w.heap.size rfl (.tmp 21) (.tmp 22) 100 5 (.int .u8 0) 1 rfl Tryd.underlying100 info5 rfl (by decide) (by omega) u3 x3_1 92 [.int .u8 92] (fun _ => True) (fun _ => False) rfl rfl ?aP (fun _ hk => hk.elim) ?aF ?aO ?aB ?aS ?aL ?_; (case aP => exact rfl); (case aB => exact (by repeat (first | (with_reducible first | exact HB.out | apply below_alloc | apply pw_below_drewN | apply below_drew1) | exact HB.out))); (case aF => exact (fun _ _ => trivial)); (case aO => exact (by (with_reducible repeat (first | apply Kd.R_alloc | apply Kd.R_drewN | apply Kd.R_drew)); exact HO_3.out)); (case aS => exact (below_size (by repeat (first | (with_reducible first | exact HB.out | apply below_alloc | apply pw_below_drewN | apply below_drew1) | exact HB.out)))); (case aL => have := LMc16.out; omega); intro v370 w19 ho hb hg hat; rw [← Ny369.out] at ho; have n0_ := Aside0.mk (hb); have n1_ := Aside0.mk (ho); clear HB; clear HO_3; have HB := n0_; have HO371 := n1_; clear n0_ n1_; clear ho hb hg hat; have p17 : 0 ≤ (x8_1 : Int) := of_decide_eq_true (by first | (with_reducible assumption) | assumption); have q17 : x8_1 < (a0.size : Int) := of_decide_eq_true (by first | (with_reducible assumption) | assumption); have hx17 := bt_at a0 x8_1; replace p17 := eq_true p17; replace q17 := eq_true q17) | ((with_reducible refine gate_builtin (b := .append) (xs := #[.tmp 24, .tmp 28]) rfl ?_); at_builtin; refine Kd.R_append (Kd.int .u8) (w0 := w) w.heap.size rfl (.tmp 24) (.tmp 28) 100 5 (.int .u8 0) 1 rfl Tryd.underlying100 info5 rfl (by decide) (by omega) v370 y369 (bt a0 x8_1) [.int .u8 (bt a0 x8_1)] (fun _ => True) (fun _ => False) rfl rfl ?aP (fun _ hk => hk.elim) ?aF ?aO ?aB ?aS ?aL ?_; (case aP => exact rfl); (case aB => exact (by repeat (first | (with_reducible first | exact HB.out | apply below_alloc | apply pw_below_drewN | apply below_drew1) | exact HB.out))); (case aF => exact (fun _ _ => trivial)); (case aO => exact (by (with_reducible repeat (first | apply Kd.R_alloc | apply Kd.R_drewN | apply Kd.R_drew)); exact HO371.out)); (case aS => exact (below_size (by repeat (first | (with_reducible first | exact HB.out | apply below_alloc | apply pw_below_drewN | apply below_drew1) | exact HB.out)))); (case aL => have := LMc18.out; omega); intro v373 w20 ho hb hg hat; rw [← Ny372.out] at ho; have n0_ := Aside0.mk (hb); have n1_ := Aside0.mk (ho); clear HB; clear HO371; have HB := n0_; have HO374 := n1_; clear n0_ n1_; clear ho hb hg hat))
          go_roundg k1
          case measure => have := HK1.out; omega
          case rel => exact ⟨(y372), (wrap64 (x8_1 + 1)), (by first | rfl | (simp; done) | (simp [*]; done)), H', ⟨by have := HK1.out; omega⟩, ⟨by (with_reducible repeat (first | apply Kd.R_alloc | apply Kd.R_drewN | apply Kd.R_drew)); exact HO374.out⟩, ⟨by repeat (first | (with_reducible first | exact HB.out | apply below_alloc | apply pw_below_drewN | apply below_drew1) | exact HB.out)⟩⟩
         ·rw [if_neg c18] at H
          exact absurd H (by simp)
        ·rw [if_neg c16] at H
         exact absurd H (by simp)
       ·rw [if_neg c15] at H
        have c15b0 : ((bt a0 x8_1) == 92) = false := beq_eq_false_iff_ne.mpr c15
        have c15b1 : ((bt a0 x8_1) != 92) = true := bne_iff_ne.mpr c15
        by_cases c22 : x3_1.length < 140737488355328
        ·rw [if_pos c22] at H
         have LMc22 := Aside0.mk c22
         clear c22
         obtain ⟨y375, hy375⟩ : ∃ y_ : List Int, y_ = (x3_1 ++ [bt a0 x8_1]) := ⟨_, rfl⟩
         replace H : (lex_Quote.l0 k1 a0 y375 (a0.size : Int) (wrap64 (x8_1 + 1))) = some r := by first | (rw [hy375]; with_reducible exact H) | (have H2_ := (Option.bind_some _ _).symm.trans H; rw [hy375]; with_reducible exact H2_) | (have H2_ := (Option.bind_some _ _).symm.trans H; with_reducible exact H2_) | with_reducible exact H | (rw [hy375]; exact H) | exact H
         have Ny375 := Aside0.mk hy375
         clear hy375
         have H' := Aside0.mk H
         clear H
         have p7 : 0 ≤ (x8_1 : Int) := of_decide_eq_true (by first | (with_reducible assumption) | assumption)
         have q7 : x8_1 < (a0.size : Int) := of_decide_eq_true (by first | (with_reducible assumption) | assumption)
         have hx7 := bt_at a0 x8_1
         replace p7 := eq_true p7
         replace q7 := eq_true q7
         have p14 : 0 ≤ (x8_1 : Int) := of_decide_eq_true (by first | (with_reducible assumption) | assumption)
         have q14 : x8_1 < (a0.size : Int) := of_decide_eq_true (by first | (with_reducible assumption) | assumption)
         have hx14 := bt_at a0 x8_1
         replace p14 := eq_true p14
         replace q14 := eq_true q14
         have p21 : 0 ≤ (x8_1 : Int) := of_decide_eq_true (by first | (with_reducible assumption) | assumption)
         have q21 : x8_1 < (a0.size : Int) := of_decide_eq_true (by first | (with_reducible assumption) | assumption)
         have hx21 := bt_at a0 x8_1
         replace p21 := eq_true p21
         replace q21 := eq_true q21
         go_wp2_with (first | ((with_reducible refine gate_builtin (b := .append) (xs := #[.tmp 24, .tmp 28]) rfl ?_); at_builtin; refine Kd.R_append (Kd.int .u8) (w0 := w) w.heap.size rfl (.tmp 24) (.tmp 28) 100 5 (.int .u8 0) 1 rfl Tryd.underlying100 info5 rfl (by decide) (by omega) u3 x3_1 (bt a0 x8_1) [.int .u8 (bt a0 x8_1)] (fun _ => True) (fun _ => False) rfl rfl ?aP (fun _ hk => hk.elim) ?aF ?aO ?aB ?aS ?aL ?_; (case aP => exact rfl); (case aB => exact (by repeat (first | (with_reducible first | exact HB.out | apply below_alloc | apply pw_below_drewN | apply below_drew1) | exact HB.out))); (case aF => exact (fun _ _ => trivial)); (case aO => exact (by (with_reducible repeat (first | apply Kd.R_alloc | apply Kd.R_drewN | apply Kd.R_drew)); exact HO_3.out)); (case aS => exact (below_size (by repeat (first | (with_reducible first | exact HB.out | apply below_alloc | apply pw_below_drewN | apply below_drew1) | exact HB.out)))); (case aL => have := LMc22.out; omega); intro v376 w23 ho hb hg hat; rw [← Ny375.out] at ho; have n0_ := Aside0.mk (hb); have n1_ := Aside0.mk (ho); clear HB; clear HO_3; have HB := n0_; have HO377 := n1_; clear n0_ n1_; clear ho hb hg hat))
         go_roundg k1
         case measure => have := HK1.out; omega
         case rel => exact ⟨(y375), (wrap64 (x8_1 + 1)), (by first | rfl | (simp; done) | (simp [*]; done)), H', ⟨by have := HK1.out; omega⟩, ⟨by (with_reducible repeat (first | apply Kd.R_alloc | apply Kd.R_drewN | apply Kd.R_drew)); exact HO377.out⟩, ⟨by repeat (first | (with_reducible first | exact HB.out | apply below_alloc | apply pw_below_drewN | apply below_drew1) | exact HB.out)⟩⟩
        ·rw [if_neg c22] at H
         exact absurd H (by simp)
     ·rw [if_neg c6] at H
      exact absurd H (by simp)
    ·rw [if_neg c5] at H
     exact absurd H (by simp)
   ·rw [if_neg c4] at H
    have c4b0 : decide (x8_1 < (a0.size : Int)) = false := decide_eq_false c4
    clear c4
    by_cases c24 : x3_1.length < 140737488355328
    ·rw [if_pos c24] at H
     have LMc24 := Aside0.mk c24
     clear c24
     obtain ⟨y378, hy378⟩ : ∃ y_ : List Int, y_ = (x3_1 ++ [34]) := ⟨_, rfl⟩
     replace H : (some (strOfNums y378)) = some r := by first | (rw [hy378]; with_reducible exact H) | (have H2_ := (Option.bind_some _ _).symm.trans H; rw [hy378]; with_reducible exact H2_) | (have H2_ := (Option.bind_some _ _).symm.trans H; with_reducible exact H2_) | with_reducible exact H | (rw [hy378]; exact H) | exact H
     have Ny378 := Aside0.mk hy378
     clear hy378
     obtain rfl := Option.some.inj H
     go_wp2_with (first | ((with_reducible refine gate_builtin (b := .append) (xs := #[.tmp 31, .tmp 32]) rfl ?_); at_builtin; refine Kd.R_append (Kd.int .u8) (w0 := w) w.heap.size rfl (.tmp 31) (.tmp 32) 100 5 (.int .u8 0) 1 rfl Tryd.underlying100 info5 rfl (by decide) (by omega) u3 x3_1 34 [.int .u8 34] (fun _ => True) (fun _ => False) rfl rfl ?aP (fun _ hk => hk.elim) ?aF ?aO ?aB ?aS ?aL ?_; (case aP => exact rfl); (case aB => exact (by repeat (first | (with_reducible first | exact HB.out | apply below_alloc | apply pw_below_drewN | apply below_drew1) | exact HB.out))); (case aF => exact (fun _ _ => trivial)); (case aO => exact (by (with_reducible repeat (first | apply Kd.R_alloc | apply Kd.R_drewN | apply Kd.R_drew)); exact HO_3.out)); (case aS => exact (below_size (by repeat (first | (with_reducible first | exact HB.out | apply below_alloc | apply pw_below_drewN | apply below_drew1) | exact HB.out)))); (case aL => have := LMc24.out; omega); intro v379 w25 ho hb hg hat; rw [← Ny378.out] at ho; have n0_ := Aside0.mk (hb); have n1_ := Aside0.mk (ho); clear HB; clear HO_3; have HB := n0_; have HO380 := n1_; clear n0_ n1_; clear ho hb hg hat; have hcv26 := own_string (P := Tryd.prog) Tryd.underlying100 Tryd.underlying5 Tryd.underlying9 (Kd.own_of_R HO380.out); have hcv26q := fun (q_ : Nat) => own_string (P := Tryd.prog) Tryd.underlying100 Tryd.underlying5 Tryd.underlying9 (Kd.own_of_R (Kd.R_drewN HO380.out q_))))
     go_ret
     exact sTe3_3
    ·rw [if_neg c24] at H
     exact absurd H (by simp)
end Go.Proofs.YtngedmioeodmfaaDoor.Pr
namespace Go.Proofs.YtngedmioeodmfaaDoor.Pu
open Go.RowKit Go.Proofs.YtngedmioeodmfaaDoor.Pr Go.Proofs.YtngedmioeodmfaaDoorW.PrintWords Go.Proofs.YtngedmioeodmfaaDoor.Lx
theorem escL_le (l : List Int) : (escL l).length ≤ 2 * l.length := by
 induction l with
 | nil => simp [escL]
 | cons c l ih =>
  rw [escL_cons, List.length_append, List.length_cons]
  split
  all_goals simp
  all_goals omega
theorem escL_rng {l : List Int} (h : Rng l) : Rng (escL l) := by
 intro x hx
 unfold escL at hx
 obtain ⟨c, hc, hx⟩ := List.mem_flatMap.1 hx
 split at hx
 ·simp at hx
  rcases hx with rfl | rfl
  ·omega
  ·exact h _ hc
 ·simp at hx
  subst hx
  exact h _ hc
def quoteL (l : List Int) : List Int := 34 :: (escL l ++ [34])
theorem quoteL_rng {l : List Int} (h : Rng l) : Rng (quoteL l) := by
 intro x hx
 unfold quoteL at hx
 rcases List.mem_cons.1 hx with rfl | hx
 ·omega
 ·rcases List.mem_append.1 hx with hx | hx
  ·exact escL_rng h x hx
  ·simp at hx; omega
theorem quote_loop (x : ByteArray) (hx : x.size ≤ 1000000) (d : Nat) : ∀ (i : Nat) (acc : List Int), i ≤ x.size → x.size - i ≤ d → acc.length ≤ 2 * i + 1 →
  Ev (fun k => lex_Quote.l0 k x acc (x.size : Int) (i : Int)) (strOfNums (acc ++ (escL (dr x i) ++ [34]))) := by
 induction d with
 | zero =>
  intro i acc hi hd ha
  refine Ev.step (f := fun _ => some (strOfNums (acc ++ [34]))) (fun k => ?_) ((Ev.now _).eq (by rw [dr_nil x i (by omega)]; rfl))
  simp only [lex_Quote.l0]
  rw [if_neg (by omega), if_pos (by omega)]
 | succ d ih =>
  intro i acc hi hd ha
  by_cases hlt : i < x.size
  ·rw [dr_cons x i hlt, escL_cons]
   by_cases q : bt x (i : Int) = 34 ∨ bt x (i : Int) = 92
   ·rw [if_pos q]
    have := ih (i + 1) (acc ++ [92] ++ [bt x (i : Int)]) (by omega) (by omega) (by simp; omega)
    refine Ev.step (f := fun k => lex_Quote.l0 k x (acc ++ [92] ++ [bt x (i : Int)]) (x.size : Int) ((i + 1 : Nat) : Int)) (fun k => ?_) (this.eq (by simp))
    simp only [lex_Quote.l0]
    rw [if_pos (by omega), if_pos (by omega), if_pos (by omega), w64 (by omega) (by omega)]
    rcases q with q | q
    ·rw [if_pos q, if_pos (by omega)]
     simp only [Option.bind_some]
     rw [if_pos (by simp; omega)]
     rfl
    ·rw [if_neg (by omega), if_pos q, if_pos (by omega)]
     simp only [Option.bind_some]
     rw [if_pos (by simp; omega)]
     rfl
   ·rw [if_neg q]
    have := ih (i + 1) (acc ++ [bt x (i : Int)]) (by omega) (by omega) (by simp; omega)
    refine Ev.step (f := fun k => lex_Quote.l0 k x (acc ++ [bt x (i : Int)]) (x.size : Int) ((i + 1 : Nat) : Int)) (fun k => ?_) (this.eq (by simp))
    simp only [lex_Quote.l0]
    rw [if_pos (by omega), if_pos (by omega), if_pos (by omega), w64 (by omega) (by omega), if_neg (fun h => q (.inl h)), if_neg (fun h => q (.inr h)), if_pos (by omega)]
    rfl
  ·refine Ev.step (f := fun _ => some (strOfNums (acc ++ [34]))) (fun k => ?_) ((Ev.now _).eq (by rw [dr_nil x i (by omega)]; rfl))
   simp only [lex_Quote.l0]
   rw [if_neg (by omega), if_pos (by omega)]
theorem quote_ev (x : ByteArray) (hx : x.size ≤ 1000000) : Ev (fun k => lex_Quote.f k x) (strOfNums (quoteL (bytesOf x))) := by
 unfold lex_Quote.f
 exact quote_loop x hx x.size 0 [34] (Nat.zero_le _) (by omega) (by simp)
theorem runeD_ascii (c : UInt8) (l : List UInt8) (h : c.toNat < 128) : runeD (c :: l) = 1 := by
 have := runeD_eq ⟨(c :: l).toArray⟩ (by simp [ByteArray.size])
 have e : bt ⟨(c :: l).toArray⟩ 0 = (c.toNat : Int) := by rw [show (0 : Int) = ((0 : Nat) : Int) from rfl, bt_getD]; rfl
 rw [e] at this
 unfold runeLen at this
 rw [if_pos (by omega)] at this
 have e2 : runeD (c :: l) = runeD (⟨(c :: l).toArray⟩ : ByteArray).data.toList := rfl
 rw [e2]; omega
theorem brkL_ascii (c : UInt8) (l : List UInt8) (h : c.toNat < 128) : brkL (c :: l) = 1 + brkL l := by
 rw [brkL_step _ (by simp), runeD_ascii c l h, if_neg (by omega)]
 rfl
theorem brkL_all_ascii : ∀ l : List UInt8, (∀ c ∈ l, c.toNat < 128) → brkL l = l.length := by
 intro l
 induction l with
 | nil => intro _; rfl
 | cons c l ih =>
  intro h
  rw [brkL_ascii c l (h c List.mem_cons_self), ih (fun x hx => h x (List.mem_cons_of_mem _ hx)), List.length_cons]; omega
theorem data_str (xs : List Int) : (strOfNums xs).data.toList = xs.map fun n => n.toNat.toUInt8 := by rw [strOfNums_data]
end Go.Proofs.YtngedmioeodmfaaDoor.Pu
namespace Go.Proofs.YtngedmioeodmfaaDoor.Pr
open Go.RowKit Go.Proofs.YtngedmioeodmfaaDoorW.PrintWords Go.Proofs.YtngedmioeodmfaaDoorW.PrintLast Go.Proofs.YtngedmioeodmfaaDoorW.PrintMore
attribute [local go_sem] max2_int min2_int max_two min_two max_three min_three max_four min_four
def slices_Index_string_string.l0 : Nat → List ByteArray → ByteArray → Int → Int → Option (Int)
 | 0, _, _, _, _ => none
 | k + 1, x0, x1, x7, x8 => if x8 < x7 then (if 0 ≤ x8 then (if x8 < (x0.length : Int) then (if x1.toList = (rdOf ByteArray.empty x0 x8).toList then (some x8) else (slices_Index_string_string.l0 k x0 x1 x7 (wrap64 (x8 + 1)))) else (none)) else (none)) else (some (-1))
def slices_Index_string_string.f (k : Nat) (l0 : List ByteArray) (a1 : ByteArray) : Option (Int) := slices_Index_string_string.l0 k l0 a1 (l0.length : Int) 0
set_option maxHeartbeats 8000000 in
set_option maxRecDepth 100000 in
theorem slices_Index_string_string.calls (k : Nat) (A0 : Option Addr) (c0 : Nat) (l0 : List ByteArray) (a1 : ByteArray) (r : Int) (w : World) (hr0 : Kd.C Kd.string w A0 l0.length l0) (hc0 : l0.length ≤ c0) (h : slices_Index_string_string.f k l0 a1 = some r) :
  Calls Tryd.prog 90 #[.slice A0 l0.length c0, .string a1] w fun e w' => e = .returned (.int .i64 r) ∧ Drawn0 w w' := by
 have HR0 := Aside0.mk hr0
 have HC0 := Aside0.mk hc0
 clear hr0 hc0
 have H : (slices_Index_string_string.l0 k l0 a1 (l0.length : Int) 0) = some r := h
 clear h
 have H' := Aside0.mk H
 clear H
 go_enter Tryd.func90, Tryd.ntmps90
 go_wp2
 go_loopg [8] k (fun kq v8 w' => ∃ (x8_1 : Int), v8 = .int .i64 x8_1 ∧ Aside0 (slices_Index_string_string.l0 kq l0 a1 (l0.length : Int) x8_1 = some r) ∧ Aside0 (kq ≤ k) ∧ Drawn0 w w')
 case atStart => exact ⟨(0), (by first | rfl | (simp; done) | (simp [*]; done)), H', ⟨Nat.le_refl _⟩, by repeat (first | exact Drawn0.refl _ | apply Drawn0.step)⟩
 case round =>
  clear H'
  try clear p2
  obtain ⟨x8_1, rfl, HA, HK1, ⟨m1, rfl⟩⟩ := hrel
  cases gk with
  | zero => exact absurd HA.out (by simp [slices_Index_string_string.l0])
  | succ k1 =>
   have H := HA.out
   clear HA
   simp only [slices_Index_string_string.l0] at H
   by_cases c3 : x8_1 < (l0.length : Int)
   ·rw [if_pos c3] at H
    have c3b0 : decide (x8_1 < (l0.length : Int)) = true := decide_eq_true c3
    clear c3
    by_cases c4 : 0 ≤ x8_1
    ·rw [if_pos c4] at H
     have c4b0 : decide (0 ≤ x8_1) = true := decide_eq_true c4
     clear c4
     by_cases c5 : x8_1 < (l0.length : Int)
     ·rw [if_pos c5] at H
      have c5b0 : decide (x8_1 < (l0.length : Int)) = true := decide_eq_true c5
      clear c5
      by_cases c6 : a1.toList = (rdOf ByteArray.empty l0 x8_1).toList
      ·rw [if_pos c6] at H
       have c6b0 : (a1.toList == (rdOf ByteArray.empty l0 x8_1).toList) = true := beq_iff_eq.mpr c6
       have c6b1 : (a1.toList != (rdOf ByteArray.empty l0 x8_1).toList) = false := bne_eq_false_iff_eq.mpr c6
       clear c6
       obtain rfl := Option.some.inj H
       have p274 : 0 ≤ (x8_1 : Int) := of_decide_eq_true (by first | (with_reducible assumption) | assumption)
       have q274 : x8_1 < (l0.length : Int) := of_decide_eq_true (by first | (with_reducible assumption) | assumption)
       obtain ⟨ad274, e274, hx274_0⟩ := Kd.at_string HR0.out x8_1 p274 q274
       cases e274
       replace p274 := eq_true p274
       replace q274 := eq_true q274
       go_wp2
       go_ret
       exact sTe3_0
      ·rw [if_neg c6] at H
       have c6b0 : (a1.toList == (rdOf ByteArray.empty l0 x8_1).toList) = false := beq_eq_false_iff_ne.mpr c6
       have c6b1 : (a1.toList != (rdOf ByteArray.empty l0 x8_1).toList) = true := bne_iff_ne.mpr c6
       have H' := Aside0.mk H
       clear H
       have p274 : 0 ≤ (x8_1 : Int) := of_decide_eq_true (by first | (with_reducible assumption) | assumption)
       have q274 : x8_1 < (l0.length : Int) := of_decide_eq_true (by first | (with_reducible assumption) | assumption)
       obtain ⟨ad274, e274, hx274_0⟩ := Kd.at_string HR0.out x8_1 p274 q274
       cases e274
       replace p274 := eq_true p274
       replace q274 := eq_true q274
       go_wp2
       go_roundg k1
       case measure => have := HK1.out; omega
       case rel => exact ⟨(wrap64 (x8_1 + 1)), (by first | rfl | (simp; done) | (simp [*]; done)), H', ⟨by have := HK1.out; omega⟩, by repeat (first | exact Drawn0.refl _ | apply Drawn0.step)⟩
     ·rw [if_neg c5] at H
      exact absurd H (by simp)
    ·rw [if_neg c4] at H
     exact absurd H (by simp)
   ·rw [if_neg c3] at H
    have c3b0 : decide (x8_1 < (l0.length : Int)) = false := decide_eq_false c3
    clear c3
    obtain rfl := Option.some.inj H
    go_wp2
    go_ret
    exact sTe3_0
def slices_Contains_string_string.f (k : Nat) (l0 : List ByteArray) (a1 : ByteArray) : Option (Bool) := (slices_Index_string_string.f k l0 a1).bind fun t275 => (some (decide (t275 ≥ 0)))
set_option maxHeartbeats 8000000 in
set_option maxRecDepth 100000 in
theorem slices_Contains_string_string.calls (k : Nat) (A0 : Option Addr) (c0 : Nat) (l0 : List ByteArray) (a1 : ByteArray) (r : Bool) (w : World) (hr0 : Kd.C Kd.string w A0 l0.length l0) (hc0 : l0.length ≤ c0) (h : slices_Contains_string_string.f k l0 a1 = some r) :
  Calls Tryd.prog 82 #[.slice A0 l0.length c0, .string a1] w fun e w' => e = .returned (.bool r) ∧ Drawn0 w w' := by
 have HR0 := Aside0.mk hr0
 have HC0 := Aside0.mk hc0
 clear hr0 hc0
 have H : ((slices_Index_string_string.f k l0 a1).bind fun t275 => (some (decide (t275 ≥ 0)))) = some r := h
 clear h
 replace H := Option.bind_eq_some_iff.mp H
 obtain ⟨t275, A30, H⟩ := H
 replace H : (some (decide (t275 ≥ 0))) = some r := H
 have A3 := Aside0.mk A30
 clear A30
 obtain rfl := Option.some.inj H
 go_enter Tryd.func82, Tryd.ntmps82
 go_wp2_with (first | ((with_reducible refine gate_callee (f := 90) rfl ?_); refine goesL_ (some 7) rfl rfl Tryd.func90 (by kernel_rfl) rfl #[.slice A0 l0.length c0, .string a1] rfl (by (try simp only [List.map_toArray, List.map_cons, List.map_nil]); first | done | rfl | (simp only [List.length_drop, List.length_take]; rfl)) ?_; (with_reducible refine (slices_Index_string_string.calls k _ _ l0 a1 t275 _ ?side1 ?side2 A3.out).mono ?_); (case side1 => repeat (first | exact HR0.out | (with_reducible refine Kd.C_alloc ?_ _) | (with_reducible refine Kd.C_drewN ?_ _) | (with_reducible refine Kd.C_drew ?_))); (case side2 => exact HC0.out); rintro e w' ⟨rfl, ⟨nd, rfl⟩⟩; refine ⟨_, rfl, ?_⟩))
 go_ret
 exact sTe3_0
def ascii_Any.f (k : Nat) (a0 : ByteArray) (l1 : List ByteArray) : Option (Bool) := (slices_Contains_string_string.f k l1 a0).bind fun t276 => (some t276)
set_option maxHeartbeats 8000000 in
set_option maxRecDepth 100000 in
theorem ascii_Any.calls (k : Nat) (a0 : ByteArray) (A1 : Option Addr) (c1 : Nat) (l1 : List ByteArray) (r : Bool) (w : World) (hr1 : Kd.C Kd.string w A1 l1.length l1) (hc1 : l1.length ≤ c1) (h : ascii_Any.f k a0 l1 = some r) :
  Calls Tryd.prog 70 #[.string a0, .slice A1 l1.length c1] w fun e w' => e = .returned (.bool r) ∧ Drawn0 w w' := by
 have HR1 := Aside0.mk hr1
 have HC1 := Aside0.mk hc1
 clear hr1 hc1
 have H : ((slices_Contains_string_string.f k l1 a0).bind fun t276 => (some t276)) = some r := h
 clear h
 replace H := Option.bind_eq_some_iff.mp H
 obtain ⟨t276, A30, H⟩ := H
 replace H : (some t276) = some r := H
 have A3 := Aside0.mk A30
 clear A30
 obtain rfl := Option.some.inj H
 go_enter Tryd.func70, Tryd.ntmps70
 go_wp2_with (first | ((with_reducible refine gate_callee (f := 82) rfl ?_); refine goesL_ (some 7) rfl rfl Tryd.func82 (by kernel_rfl) rfl #[.slice A1 l1.length c1, .string a0] rfl (by (try simp only [List.map_toArray, List.map_cons, List.map_nil]); first | done | rfl | (simp only [List.length_drop, List.length_take]; rfl)) ?_; (with_reducible refine (slices_Contains_string_string.calls k _ _ l1 a0 t276 _ ?side1 ?side2 A3.out).mono ?_); (case side1 => repeat (first | exact HR1.out | (with_reducible refine Kd.C_alloc ?_ _) | (with_reducible refine Kd.C_drewN ?_ _) | (with_reducible refine Kd.C_drew ?_))); (case side2 => exact HC1.out); rintro e w' ⟨rfl, ⟨nd, rfl⟩⟩; refine ⟨_, rfl, ?_⟩))
 go_ret
 exact sTe3_0
mutual
def parapetref19_Depth.l0 : Nat → Int → Int → Int → ByteArray → ByteArray → List (S49) → Option (Int)
 | 0, _, _, _, _, _, _ => none
 | k + 1, x3, x4, x278000, x278001, x278002, x278003 => if x4 < (x278003.length : Int) then (if 0 ≤ x4 then ((parapetref19_Depth.f k ((rd_T49 x278003 x4).f0) ((rd_T49 x278003 x4).f1.f0) ((rd_T49 x278003 x4).f1.f1) ((rd_T49 x278003 x4).f2)).bind fun t279 => (parapetref19_Depth.l0 k (mx x3 t279) (wrap64 (x4 + 1)) x278000 x278001 x278002 x278003)) else (none)) else (some (wrap64 (x3 + 1)))
def parapetref19_Depth.f : Nat → Int → ByteArray → ByteArray → List (S49) → Option (Int)
 | 0, _, _, _, _ => none
 | k + 1, a0_0, a0_1, a0_2, l0_3 => parapetref19_Depth.l0 k 0 0 a0_0 a0_1 a0_2 l0_3
end
set_option maxHeartbeats 8000000 in
set_option maxRecDepth 100000 in
theorem parapetref19_Depth.calls (k : Nat) : ∀ (a0_0 : Int) (a0_1 : ByteArray) (a0_2 : ByteArray) (A0_3 : Option Addr) (c0_3 : Nat) (l0_3 : List (S49)) (r : Int) (w : World) (hr0_3 : Kd.C k49 w A0_3 l0_3.length l0_3) (hc0_3 : l0_3.length ≤ c0_3) (h : parapetref19_Depth.f k a0_0 a0_1 a0_2 l0_3 = some r),
  Calls Tryd.prog 18 #[.agg #[.int .i64 a0_0, .string a0_1, .string a0_2, .slice A0_3 l0_3.length c0_3]] w fun e w' => e = .returned (.int .i64 r) ∧ Below w.heap.size w w' := by
 induction k using Nat.strongRecOn with
 | _ k ih =>
 intro a0_0 a0_1 a0_2 A0_3 c0_3 l0_3 r w hr0_3 hc0_3 h
 cases k with
 | zero => exact absurd h (by simp [parapetref19_Depth.f])
 | succ k =>
 simp only [parapetref19_Depth.f] at h
 have hu49 := Tryd.underlying49
 have HR0_3 := Aside0.mk hr0_3
 have HC0_3 := Aside0.mk hc0_3
 clear hr0_3 hc0_3
 have HB := Aside0.mk (Below.refl w.heap.size w)
 have H : (parapetref19_Depth.l0 k 0 0 a0_0 a0_1 a0_2 l0_3) = some r := h
 clear h
 have H' := Aside0.mk H
 clear H
 go_enter Tryd.func18, Tryd.ntmps18
 go_wp2_with (first | ((with_reducible refine gate_dst (N := 1) rfl ?_); refine box_event ?hg (N := 1) ?hd (cs := #[.int .i64 a0_0, .string a0_1, .string a0_2, .slice A0_3 l0_3.length c0_3]) (t := 49) ?hr ?_; (case hd => rfl); (case hg => rfl); (case hr => first | (go_simp; done) | (go_simp; rfl)); intro gb277 hg w2 hbox hb; have n0_ := Aside0.mk (below_step (by repeat (first | (with_reducible first | exact HB.out | apply below_alloc | apply pw_below_drewN | apply below_drew1) | exact HB.out)) hb); have n1_ := Aside0.mk (hbox); have n2_ := Aside0.mk ((by rw [hg]; exact (below_size (by repeat (first | (with_reducible first | exact HB.out | apply below_alloc | apply pw_below_drewN | apply below_drew1) | exact HB.out))) : w.heap.size ≤ gb277)); have n3_ := Aside0.mk ((by rw [hg]; exact (below_size (by repeat (first | (with_reducible first | exact HB.out | apply below_alloc | apply pw_below_drewN | apply below_drew1) | exact HB.out))) : w.heap.size ≤ gb277)); clear HB; have HB := n0_; have BK277 := n1_; have GW277 := n2_; have GE277 := n3_; clear n0_ n1_ n2_ n3_; clear hb hbox hg))
 go_loopg [3, 4] k (fun kq v3 v4 w' => ∃ (x3_1 : Int) (x4_1 : Int), v3 = .int .i64 x3_1 ∧ v4 = .int .i64 x4_1 ∧ Aside0 (parapetref19_Depth.l0 kq x3_1 x4_1 a0_0 a0_1 a0_2 l0_3 = some r) ∧ Aside0 (kq ≤ k) ∧ Aside0 (w'.heap[gb277]? = some (.cells #[.int .i64 a0_0, .string a0_1, .string a0_2, (.slice A0_3 l0_3.length c0_3)] 49 (0, 0))) ∧ Aside0 (Below w.heap.size w w'))
 case atStart => exact ⟨(0), (0), (by first | rfl | (simp; done) | (simp [*]; done)), (by first | rfl | (simp; done) | (simp [*]; done)), H', ⟨Nat.le_refl _⟩, ⟨by (with_reducible repeat (first | refine blk_drewN ?_ _ | refine blk_drew ?_ | refine blk_alloc ?_ _)); exact BK277.out⟩, ⟨by repeat (first | (with_reducible first | exact HB.out | apply below_alloc | apply pw_below_drewN | apply below_drew1 | refine below_set ?_ GE277.out) | exact HB.out)⟩⟩
 case round =>
  clear H'
  try clear c1
  try clear p2
  obtain ⟨x3_1, x4_1, rfl, rfl, HA, HK1, BK277, HB⟩ := hrel
  cases gk with
  | zero => exact absurd HA.out (by simp [parapetref19_Depth.l0])
  | succ k1 =>
   have H := HA.out
   clear HA
   simp only [parapetref19_Depth.l0] at H
   by_cases c3 : x4_1 < (l0_3.length : Int)
   ·rw [if_pos c3] at H
    have c3b0 : decide (x4_1 < (l0_3.length : Int)) = true := decide_eq_true c3
    clear c3
    by_cases c4 : 0 ≤ x4_1
    ·rw [if_pos c4] at H
     have c4b0 : decide (0 ≤ x4_1) = true := decide_eq_true c4
     clear c4
     replace H := Option.bind_eq_some_iff.mp H
     obtain ⟨t279, A50, H⟩ := H
     replace H : (parapetref19_Depth.l0 k1 (mx x3_1 t279) (wrap64 (x4_1 + 1)) a0_0 a0_1 a0_2 l0_3) = some r := H
     have A5 := Aside0.mk A50
     clear A50
     obtain ⟨ji6, hji6⟩ : ∃ j_ : Int, (mx x3_1 t279) = j_ := ⟨_, rfl⟩
     replace H : (parapetref19_Depth.l0 k1 ji6 (wrap64 (x4_1 + 1)) a0_0 a0_1 a0_2 l0_3) = some r := by first | (rw [hji6] at H; exact H) | (simp only [hji6] at H ⊢; exact H)
     (try rw [hji6] at A5)
     have hji6_ : (if x3_1 < t279 then t279 else x3_1) = ji6 := hji6
     have H' := Aside0.mk H
     clear H
     have hcz7_0 : wr.cell? ⟨gb277, 0, none⟩ = some (.int .i64 a0_0) := (blk_cell BK277.out 0).trans rfl
     have hcz7_1 : wr.cell? ⟨gb277, 1, none⟩ = some (.string a0_1) := (blk_cell BK277.out 1).trans rfl
     have hcz7_2 : wr.cell? ⟨gb277, 2, none⟩ = some (.string a0_2) := (blk_cell BK277.out 2).trans rfl
     have hcz7_3 : wr.cell? ⟨gb277, 3, none⟩ = some (.slice A0_3 l0_3.length c0_3) := (blk_cell BK277.out 3).trans rfl
     have hfz7_0 := blk_frozen BK277.out 0
     have hfz7_1 := blk_frozen BK277.out 1
     have hfz7_2 := blk_frozen BK277.out 2
     have hfz7_3 := blk_frozen BK277.out 3
     have p278 : 0 ≤ (x4_1 : Int) := of_decide_eq_true (by first | (with_reducible assumption) | assumption)
     have q278 : x4_1 < (l0_3.length : Int) := of_decide_eq_true (by first | (with_reducible assumption) | assumption)
     obtain ⟨ad278, A278_3, c278_3, e278, hx278_0, hx278_1, hx278_2, hx278_3, hl278_3, hi278_3⟩ := at_T49 HR0_3.out x4_1 p278 q278
     cases e278
     replace hx278_0 := (HB.out.cell (World.block_lt_of_cell? w _ hx278_0)).trans hx278_0
     replace hx278_1 := (HB.out.cell (World.block_lt_of_cell? w _ hx278_1)).trans hx278_1
     replace hx278_2 := (HB.out.cell (World.block_lt_of_cell? w _ hx278_2)).trans hx278_2
     replace hx278_3 := (HB.out.cell (World.block_lt_of_cell? w _ hx278_3)).trans hx278_3
     have HR278_3 := Aside0.mk hi278_3
     have HC278_3 := Aside0.mk hl278_3
     clear hi278_3 hl278_3
     replace p278 := eq_true p278
     replace q278 := eq_true q278
     go_wp2_with (first | ((with_reducible refine gate_callee (f := 18) rfl ?_); refine goesL_ (some 18) rfl rfl Tryd.func18 (by kernel_rfl) rfl #[.agg #[.int .i64 ((rd_T49 l0_3 x4_1).f0), .string ((rd_T49 l0_3 x4_1).f1.f0), .string ((rd_T49 l0_3 x4_1).f1.f1), .slice A278_3 ((rd_T49 l0_3 x4_1).f2).length c278_3]] rfl (by (try simp only [List.map_toArray, List.map_cons, List.map_nil]); first | done | rfl | (simp only [List.length_drop, List.length_take]; rfl)) ?_; (with_reducible refine (ih k1 (by have := HK1.out; omega) ((rd_T49 l0_3 x4_1).f0) ((rd_T49 l0_3 x4_1).f1.f0) ((rd_T49 l0_3 x4_1).f1.f1) _ _ ((rd_T49 l0_3 x4_1).f2) t279 _ ?side1 ?side2 A5.out).mono ?_); (case side1 => repeat (first | exact (Kd.C_below HR278_3.out HB.out) | (with_reducible refine Kd.C_alloc ?_ _) | (with_reducible refine Kd.C_drewN ?_ _) | (with_reducible refine Kd.C_drew ?_))); (case side2 => exact HC278_3.out); rintro e w8 ⟨rfl, hb⟩; refine ⟨_, rfl, ?_⟩; have n0_ := Aside0.mk (blk_below (g := gb277) (o := .cells #[.int .i64 a0_0, .string a0_1, .string a0_2, .slice (some ad278) l0_3.length c0_3] 49 (0, 0)) (by (with_reducible repeat (first | refine blk_drewN ?_ _ | refine blk_drew ?_ | refine blk_alloc ?_ _)); exact BK277.out) hb); have n1_ := Aside0.mk (below_step (by repeat (first | (with_reducible first | exact HB.out | apply below_alloc | apply pw_below_drewN | apply below_drew1 | refine below_set ?_ GE277.out) | exact HB.out)) hb); clear BK277; clear HB; have BK277 := n0_; have HB := n1_; clear n0_ n1_; (try clear hb); (try clear hb2); (try clear hk); (try clear hi)))
     go_roundg k1
     case measure => have := HK1.out; omega
     case rel => exact ⟨(ji6), (wrap64 (x4_1 + 1)), (by first | rfl | (simp; done) | (simp only [← hji6] <;> (first | rfl | simp)) | (simp [*]; done)), (by first | rfl | (simp; done) | (simp [*]; done)), H', ⟨by have := HK1.out; omega⟩, ⟨by (with_reducible repeat (first | refine blk_drewN ?_ _ | refine blk_drew ?_ | refine blk_alloc ?_ _)); exact BK277.out⟩, ⟨by repeat (first | (with_reducible first | exact HB.out | apply below_alloc | apply pw_below_drewN | apply below_drew1 | refine below_set ?_ GE277.out) | exact HB.out)⟩⟩
    ·rw [if_neg c4] at H
     exact absurd H (by simp)
   ·rw [if_neg c3] at H
    have c3b0 : decide (x4_1 < (l0_3.length : Int)) = false := decide_eq_false c3
    clear c3
    obtain rfl := Option.some.inj H
    have hcz9_0 : wr.cell? ⟨gb277, 0, none⟩ = some (.int .i64 a0_0) := (blk_cell BK277.out 0).trans rfl
    have hcz9_1 : wr.cell? ⟨gb277, 1, none⟩ = some (.string a0_1) := (blk_cell BK277.out 1).trans rfl
    have hcz9_2 : wr.cell? ⟨gb277, 2, none⟩ = some (.string a0_2) := (blk_cell BK277.out 2).trans rfl
    have hcz9_3 : wr.cell? ⟨gb277, 3, none⟩ = some (.slice A0_3 l0_3.length c0_3) := (blk_cell BK277.out 3).trans rfl
    have hfz9_0 := blk_frozen BK277.out 0
    have hfz9_1 := blk_frozen BK277.out 1
    have hfz9_2 := blk_frozen BK277.out 2
    have hfz9_3 := blk_frozen BK277.out 3
    go_wp2
    go_ret
    exact ⟨by first | rfl | (simp [errW_none, errW_some] <;> rfl) | (simp [*, errW_none, errW_some] <;> rfl), by repeat (first | (with_reducible first | exact HB.out | apply below_alloc | apply pw_below_drewN | apply below_drew1 | refine below_set ?_ GE277.out) | exact HB.out)⟩
def IsS67 (w0 W : World) (g : Nat) (f0 : List (S40)) (f1 : Int) (f2 : Int) (f3 : Int) (f4 : Int) : Prop := ∃ A0 c0, W.heap[g]? = some (.cells #[.slice A0 f0.length c0, .int .i64 f1, .int .i64 f2, .int .i64 f3, .int .i64 f4] 67 (0, 0)) ∧ w0.heap.size ≤ g ∧ Kd.C k40 w0 A0 f0.length f0
theorem IsS67.grown {w0 W : World} {g : Nat} {f0 : List (S40)} {f1 : Int} {f2 : Int} {f3 : Int} {f4 : Int} {W1 : World} {row : Option Nat} (h : IsS67 w0 W g f0 f1 f2 f3 f4) (hw : W.grownBy W1 row) (hne : some g ≠ row) : IsS67 w0 W1 g f0 f1 f2 f3 f4 := by
 obtain ⟨A0, c0, hb, hg, hr0⟩ := h
 exact ⟨A0, c0, blk_grown hb hw hne, hg, hr0⟩
theorem IsS67.below {w0 W : World} {g : Nat} {f0 : List (S40)} {f1 : Int} {f2 : Int} {f3 : Int} {f4 : Int} {W1 : World} (h : IsS67 w0 W g f0 f1 f2 f3 f4) (hw : Below W.heap.size W W1) : IsS67 w0 W1 g f0 f1 f2 f3 f4 := h.grown (grown_of_below hw none) (by simp)
theorem IsS67.alloc {w0 W : World} {g : Nat} {f0 : List (S40)} {f1 : Int} {f2 : Int} {f3 : Int} {f4 : Int} (h : IsS67 w0 W g f0 f1 f2 f3 f4) (o : Obj) : IsS67 w0 (W.alloc o) g f0 f1 f2 f3 f4 := h.below (below_alloc (Below.refl _ _) o)
theorem IsS67.drewN {w0 W : World} {g : Nat} {f0 : List (S40)} {f1 : Int} {f2 : Int} {f3 : Int} {f4 : Int} (h : IsS67 w0 W g f0 f1 f2 f3 f4) (m : Nat) : IsS67 w0 (W.drewN m) g f0 f1 f2 f3 f4 := h
theorem IsS67.drew {w0 W : World} {g : Nat} {f0 : List (S40)} {f1 : Int} {f2 : Int} {f3 : Int} {f4 : Int} (h : IsS67 w0 W g f0 f1 f2 f3 f4) : IsS67 w0 W.drew g f0 f1 f2 f3 f4 := h
theorem IsS67.lt {w0 W : World} {g : Nat} {f0 : List (S40)} {f1 : Int} {f2 : Int} {f3 : Int} {f4 : Int} (h : IsS67 w0 W g f0 f1 f2 f3 f4) : g < W.heap.size := by
 obtain ⟨A0, c0, hb, hg, hr0⟩ := h
 exact blk_lt hb
theorem IsS67.ge {w0 W : World} {g : Nat} {f0 : List (S40)} {f1 : Int} {f2 : Int} {f3 : Int} {f4 : Int} (h : IsS67 w0 W g f0 f1 f2 f3 f4) : w0.heap.size ≤ g := by
 obtain ⟨A0, c0, hb, hg, hr0⟩ := h
 exact hg
theorem IsS67.far {w0 W : World} {g : Nat} {f0 : List (S40)} {f1 : Int} {f2 : Int} {f3 : Int} {f4 : Int} {p : Addr} (h : IsS67 w0 W g f0 f1 f2 f3 f4) (hne : g ≠ p.block) (u : Value) : IsS67 w0 (W.setCell p u) g f0 f1 f2 f3 f4 := by
 obtain ⟨A0, c0, hb, hg, hr0⟩ := h
 exact ⟨A0, c0, blk_far hb hne u, hg, hr0⟩
theorem cellS67_0 {W : World} {g : Nat} {A0 : Option Addr} {c0 : Nat} {f0 : List (S40)} {f1 : Int} {f2 : Int} {f3 : Int} {f4 : Int} (h : W.heap[g]? = some (.cells #[.slice A0 f0.length c0, .int .i64 f1, .int .i64 f2, .int .i64 f3, .int .i64 f4] 67 (0, 0))) : W.cell? ⟨g, 0, none⟩ = some (.slice A0 f0.length c0) := (blk_cell h 0).trans rfl
theorem cellS67_1 {W : World} {g : Nat} {A0 : Option Addr} {c0 : Nat} {f0 : List (S40)} {f1 : Int} {f2 : Int} {f3 : Int} {f4 : Int} (h : W.heap[g]? = some (.cells #[.slice A0 f0.length c0, .int .i64 f1, .int .i64 f2, .int .i64 f3, .int .i64 f4] 67 (0, 0))) : W.cell? ⟨g, 1, none⟩ = some (.int .i64 f1) := (blk_cell h 1).trans rfl
theorem IsS67.set_1 {w0 W : World} {g : Nat} {f0 : List (S40)} {f1 : Int} {f2 : Int} {f3 : Int} {f4 : Int} (h : IsS67 w0 W g f0 f1 f2 f3 f4) (x : Int) : IsS67 w0 (W.setCell ⟨g, 1, none⟩ (.int .i64 x)) g f0 x f2 f3 f4 := by
 obtain ⟨A0, c0, hb, hg, hr0⟩ := h
 exact ⟨A0, c0, by simpa using blk_set hb 1 (.int .i64 x), hg, hr0⟩
theorem cellS67_2 {W : World} {g : Nat} {A0 : Option Addr} {c0 : Nat} {f0 : List (S40)} {f1 : Int} {f2 : Int} {f3 : Int} {f4 : Int} (h : W.heap[g]? = some (.cells #[.slice A0 f0.length c0, .int .i64 f1, .int .i64 f2, .int .i64 f3, .int .i64 f4] 67 (0, 0))) : W.cell? ⟨g, 2, none⟩ = some (.int .i64 f2) := (blk_cell h 2).trans rfl
theorem IsS67.set_2 {w0 W : World} {g : Nat} {f0 : List (S40)} {f1 : Int} {f2 : Int} {f3 : Int} {f4 : Int} (h : IsS67 w0 W g f0 f1 f2 f3 f4) (x : Int) : IsS67 w0 (W.setCell ⟨g, 2, none⟩ (.int .i64 x)) g f0 f1 x f3 f4 := by
 obtain ⟨A0, c0, hb, hg, hr0⟩ := h
 exact ⟨A0, c0, by simpa using blk_set hb 2 (.int .i64 x), hg, hr0⟩
theorem cellS67_3 {W : World} {g : Nat} {A0 : Option Addr} {c0 : Nat} {f0 : List (S40)} {f1 : Int} {f2 : Int} {f3 : Int} {f4 : Int} (h : W.heap[g]? = some (.cells #[.slice A0 f0.length c0, .int .i64 f1, .int .i64 f2, .int .i64 f3, .int .i64 f4] 67 (0, 0))) : W.cell? ⟨g, 3, none⟩ = some (.int .i64 f3) := (blk_cell h 3).trans rfl
theorem IsS67.set_3 {w0 W : World} {g : Nat} {f0 : List (S40)} {f1 : Int} {f2 : Int} {f3 : Int} {f4 : Int} (h : IsS67 w0 W g f0 f1 f2 f3 f4) (x : Int) : IsS67 w0 (W.setCell ⟨g, 3, none⟩ (.int .i64 x)) g f0 f1 f2 x f4 := by
 obtain ⟨A0, c0, hb, hg, hr0⟩ := h
 exact ⟨A0, c0, by simpa using blk_set hb 3 (.int .i64 x), hg, hr0⟩
theorem cellS67_4 {W : World} {g : Nat} {A0 : Option Addr} {c0 : Nat} {f0 : List (S40)} {f1 : Int} {f2 : Int} {f3 : Int} {f4 : Int} (h : W.heap[g]? = some (.cells #[.slice A0 f0.length c0, .int .i64 f1, .int .i64 f2, .int .i64 f3, .int .i64 f4] 67 (0, 0))) : W.cell? ⟨g, 4, none⟩ = some (.int .i64 f4) := (blk_cell h 4).trans rfl
theorem IsS67.set_4 {w0 W : World} {g : Nat} {f0 : List (S40)} {f1 : Int} {f2 : Int} {f3 : Int} {f4 : Int} (h : IsS67 w0 W g f0 f1 f2 f3 f4) (x : Int) : IsS67 w0 (W.setCell ⟨g, 4, none⟩ (.int .i64 x)) g f0 f1 f2 f3 x := by
 obtain ⟨A0, c0, hb, hg, hr0⟩ := h
 exact ⟨A0, c0, by simpa using blk_set hb 4 (.int .i64 x), hg, hr0⟩
def parapetref19_Reader_bad.f (s0_0 : List (S40)) (s0_1 : Int) (s0_2 : Int) (s0_3 : Int) (s0_4 : Int) : Option (Bool × Int × Int × Int × Int) := some ((s0_3 != 0), s0_1, s0_2, s0_3, s0_4)
set_option maxHeartbeats 8000000 in
set_option maxRecDepth 100000 in
theorem parapetref19_Reader_bad.calls (g : Nat) (s0_0 : List (S40)) (s0_1 : Int) (s0_2 : Int) (s0_3 : Int) (s0_4 : Int) (r1 : Bool) (r2 : Int) (r3 : Int) (r4 : Int) (r5 : Int) (w0 w : World) (hI : IsS67 w0 w g s0_0 s0_1 s0_2 s0_3 s0_4) (hB : Below w0.heap.size w0 w) (h : parapetref19_Reader_bad.f s0_0 s0_1 s0_2 s0_3 s0_4 = some (r1, r2, r3, r4, r5)) :
  Calls Tryd.prog 24 #[.pointer (some ⟨g, 0, none⟩)] w fun e w' => e = .returned (.bool r1) ∧ IsS67 w0 w' g s0_0 r2 r3 r4 r5 ∧ Below w0.heap.size w0 w' ∧ KeepBut w w' g none := by
 have HI0 := Aside0.mk hI
 have HK := Aside0.mk (KeepBut.refl w g none)
 have HL := Aside0.mk hB.size
 clear hI
 have HW0 := Aside0.mk hB.size
 have HB := Aside0.mk hB
 clear hB
 have H : (some ((s0_3 != 0), s0_1, s0_2, s0_3, s0_4)) = some (r1, r2, r3, r4, r5) := h
 clear h
 simp only [Option.some.injEq, Prod.mk.injEq] at H
 obtain ⟨rfl, rfl, rfl, rfl, rfl⟩ := H
 obtain ⟨ASz2_0, cSz2_0, HGz2, hgz2, HSz2_0⟩ := HI0.out
 have hcz2_0 := cellS67_0 HGz2
 have hcz2_1 := cellS67_1 HGz2
 have hcz2_2 := cellS67_2 HGz2
 have hcz2_3 := cellS67_3 HGz2
 have hcz2_4 := cellS67_4 HGz2
 have hfz2_1 := blk_frozen HGz2 1
 have hfz2_2 := blk_frozen HGz2 2
 have hfz2_3 := blk_frozen HGz2 3
 have hfz2_4 := blk_frozen HGz2 4
 clear HGz2 hgz2
 go_enter Tryd.func24, Tryd.ntmps24
 go_wp2
 go_ret
 exact sTe3_1
def parapetref19_Reader_at.f (s0_0 : List (S40)) (s0_1 : Int) (s0_2 : Int) (s0_3 : Int) (s0_4 : Int) : Option (Int × Int × Int × Int × Int) := if s0_1 < (s0_0.length : Int) then (if 0 ≤ s0_1 then (some ((rd_T40 s0_0 s0_1).f1, s0_1, s0_2, s0_3, s0_4)) else (none)) else (some (s0_2, s0_1, s0_2, s0_3, s0_4))
set_option maxHeartbeats 8000000 in
set_option maxRecDepth 100000 in
theorem parapetref19_Reader_at.calls (g : Nat) (s0_0 : List (S40)) (s0_1 : Int) (s0_2 : Int) (s0_3 : Int) (s0_4 : Int) (r1 : Int) (r2 : Int) (r3 : Int) (r4 : Int) (r5 : Int) (w0 w : World) (hI : IsS67 w0 w g s0_0 s0_1 s0_2 s0_3 s0_4) (hB : Below w0.heap.size w0 w) (h : parapetref19_Reader_at.f s0_0 s0_1 s0_2 s0_3 s0_4 = some (r1, r2, r3, r4, r5)) :
  Calls Tryd.prog 53 #[.pointer (some ⟨g, 0, none⟩)] w fun e w' => e = .returned (.int .i64 r1) ∧ IsS67 w0 w' g s0_0 r2 r3 r4 r5 ∧ Below w0.heap.size w0 w' ∧ KeepBut w w' g none := by
 have HI0 := Aside0.mk hI
 have HK := Aside0.mk (KeepBut.refl w g none)
 have HL := Aside0.mk hB.size
 clear hI
 have HW0 := Aside0.mk hB.size
 have HB := Aside0.mk hB
 clear hB
 have H : (if s0_1 < (s0_0.length : Int) then (if 0 ≤ s0_1 then (some ((rd_T40 s0_0 s0_1).f1, s0_1, s0_2, s0_3, s0_4)) else (none)) else (some (s0_2, s0_1, s0_2, s0_3, s0_4))) = some (r1, r2, r3, r4, r5) := h
 clear h
 by_cases c2 : s0_1 < (s0_0.length : Int)
 ·rw [if_pos c2] at H
  have c2b0 : decide (s0_1 < (s0_0.length : Int)) = true := decide_eq_true c2
  clear c2
  by_cases c3 : 0 ≤ s0_1
  ·rw [if_pos c3] at H
   have c3b0 : decide (0 ≤ s0_1) = true := decide_eq_true c3
   clear c3
   simp only [Option.some.injEq, Prod.mk.injEq] at H
   obtain ⟨rfl, rfl, rfl, rfl, rfl⟩ := H
   obtain ⟨ASz4_0, cSz4_0, HGz4, hgz4, HSz4_0⟩ := HI0.out
   have hcz4_0 := cellS67_0 HGz4
   have hcz4_1 := cellS67_1 HGz4
   have hcz4_2 := cellS67_2 HGz4
   have hcz4_3 := cellS67_3 HGz4
   have hcz4_4 := cellS67_4 HGz4
   have hfz4_1 := blk_frozen HGz4 1
   have hfz4_2 := blk_frozen HGz4 2
   have hfz4_3 := blk_frozen HGz4 3
   have hfz4_4 := blk_frozen HGz4 4
   clear HGz4 hgz4
   have p280 : 0 ≤ (s0_1 : Int) := of_decide_eq_true (by first | (with_reducible assumption) | assumption)
   have q280 : s0_1 < (s0_0.length : Int) := of_decide_eq_true (by first | (with_reducible assumption) | assumption)
   obtain ⟨ad280, e280, hx280_0, hx280_1, hx280_2⟩ := at_T40 HSz4_0 s0_1 p280 q280
   cases e280
   replace hx280_0 := pw_cell_below HB.out hx280_0
   replace hx280_1 := pw_cell_below HB.out hx280_1
   replace hx280_2 := pw_cell_below HB.out hx280_2
   replace p280 := eq_true p280
   replace q280 := eq_true q280
   go_enter Tryd.func53, Tryd.ntmps53
   go_wp2
   repeat (go_quiet (fail); try go_wp2)
   go_ret
   exact sTe3_1
  ·rw [if_neg c3] at H
   exact absurd H (by simp)
 ·rw [if_neg c2] at H
  have c2b0 : decide (s0_1 < (s0_0.length : Int)) = false := decide_eq_false c2
  clear c2
  simp only [Option.some.injEq, Prod.mk.injEq] at H
  obtain ⟨rfl, rfl, rfl, rfl, rfl⟩ := H
  obtain ⟨ASz5_0, cSz5_0, HGz5, hgz5, HSz5_0⟩ := HI0.out
  have hcz5_0 := cellS67_0 HGz5
  have hcz5_1 := cellS67_1 HGz5
  have hcz5_2 := cellS67_2 HGz5
  have hcz5_3 := cellS67_3 HGz5
  have hcz5_4 := cellS67_4 HGz5
  have hfz5_1 := blk_frozen HGz5 1
  have hfz5_2 := blk_frozen HGz5 2
  have hfz5_3 := blk_frozen HGz5 3
  have hfz5_4 := blk_frozen HGz5 4
  clear HGz5 hgz5
  go_enter Tryd.func53, Tryd.ntmps53
  go_wp2
  repeat (go_quiet (fail); try go_wp2)
  go_ret
  exact sTe3_1
def parapetref19_Reader_wrong.f (s0_0 : List (S40)) (s0_1 : Int) (s0_2 : Int) (s0_3 : Int) (s0_4 : Int) (a1 : Int) : Option (Int × Int × Int × Int) := (parapetref19_Reader_bad.f s0_0 s0_1 s0_2 s0_3 s0_4).bind fun bt281 => (if bt281.1 = true then (some (bt281.2.1, bt281.2.2.1, bt281.2.2.2.1, bt281.2.2.2.2)) else ((parapetref19_Reader_at.f s0_0 bt281.2.1 bt281.2.2.1 bt281.2.2.2.1 bt281.2.2.2.2).bind fun bt286 => (some (bt286.2.1, bt286.2.2.1, a1, bt286.1))))
set_option maxHeartbeats 8000000 in
set_option maxRecDepth 100000 in
theorem parapetref19_Reader_wrong.calls (g : Nat) (s0_0 : List (S40)) (s0_1 : Int) (s0_2 : Int) (s0_3 : Int) (s0_4 : Int) (a1 : Int) (r1 : Int) (r2 : Int) (r3 : Int) (r4 : Int) (w0 w : World) (hI : IsS67 w0 w g s0_0 s0_1 s0_2 s0_3 s0_4) (hB : Below w0.heap.size w0 w) (h : parapetref19_Reader_wrong.f s0_0 s0_1 s0_2 s0_3 s0_4 a1 = some (r1, r2, r3, r4)) :
  Calls Tryd.prog 27 #[.pointer (some ⟨g, 0, none⟩), .int .i64 a1] w fun e w' => e = .returned (.tuple #[]) ∧ IsS67 w0 w' g s0_0 r1 r2 r3 r4 ∧ Below w0.heap.size w0 w' ∧ KeepBut w w' g none := by
 have hu30 := Tryd.underlying30
 have HI0 := Aside0.mk hI
 have HK := Aside0.mk (KeepBut.refl w g none)
 have HL := Aside0.mk hB.size
 clear hI
 have HW0 := Aside0.mk hB.size
 have HB := Aside0.mk hB
 clear hB
 have H : ((parapetref19_Reader_bad.f s0_0 s0_1 s0_2 s0_3 s0_4).bind fun bt281 => (if bt281.1 = true then (some (bt281.2.1, bt281.2.2.1, bt281.2.2.2.1, bt281.2.2.2.2)) else ((parapetref19_Reader_at.f s0_0 bt281.2.1 bt281.2.2.1 bt281.2.2.2.1 bt281.2.2.2.2).bind fun bt286 => (some (bt286.2.1, bt286.2.2.1, a1, bt286.1))))) = some (r1, r2, r3, r4) := h
 clear h
 replace H := Option.bind_eq_some_iff.mp H
 obtain ⟨⟨t281, t282, t283, t284, t285⟩, A30, H⟩ := H
 replace H : (if t281 = true then (some (t282, t283, t284, t285)) else ((parapetref19_Reader_at.f s0_0 t282 t283 t284 t285).bind fun bt286 => (some (bt286.2.1, bt286.2.2.1, a1, bt286.1)))) = some (r1, r2, r3, r4) := H
 have A3 := Aside0.mk A30
 clear A30
 by_cases c4 : t281 = true
 ·subst c4
  have H1 : (some (t282, t283, t284, t285)) = some (r1, r2, r3, r4) := by rw [if_pos rfl] at H; exact H
  clear H
  have H := H1
  clear H1
  simp only [Option.some.injEq, Prod.mk.injEq] at H
  obtain ⟨rfl, rfl, rfl, rfl⟩ := H
  go_enter Tryd.func27, Tryd.ntmps27
  go_wp2_with (first | ((with_reducible refine gate_callee (f := 24) rfl ?_); refine goesL_ (some 5) rfl rfl Tryd.func24 (by kernel_rfl) rfl #[.pointer (some ⟨g, 0, none⟩)] rfl (by (try simp only [List.map_toArray, List.map_cons, List.map_nil]); first | done | rfl | (simp only [List.length_drop, List.length_take]; rfl)) ?_; (with_reducible refine (parapetref19_Reader_bad.calls g s0_0 s0_1 s0_2 s0_3 s0_4 true t282 t283 t284 t285 w0 _ ?side1 ?side2 A3.out).mono ?_); (case side1 => repeat (first | (with_reducible first | exact HI0.out | apply IsS67.alloc | apply IsS67.drewN | apply IsS67.drew | apply IsS67.set_1 | apply IsS67.set_2 | apply IsS67.set_3 | apply IsS67.set_4) | exact HI0.out)); (case side2 => repeat (first | (with_reducible first | exact HB.out | apply below_alloc | apply pw_below_drewN | apply below_drew1 | refine below_set ?_ (IsS67.ge HI0.out)) | exact HB.out)); rintro e w5 ⟨rfl, hi, hb, hk⟩; refine ⟨_, rfl, ?_⟩; have n0_ := Aside0.mk (KeepBut.trans (by repeat (first | (with_reducible first | exact HK.out | apply KeepBut.set_ | apply keep_drewN | apply keep_drew | apply keep_alloc) | exact HK.out)) hk (.inl rfl)); have n1_ := Aside0.mk (hb); have n2_ := Aside0.mk (hi); clear HK; clear HB; clear HI0; have HK := n0_; have HB := n1_; have HI0 := n2_; clear n0_ n1_ n2_; (try clear hb); (try clear hb2); (try clear hk); (try clear hi)))
  first | go_end0 | ((try simp only [Exit.inBlock, Exit.then]); refine bodyPost_ret (results_none rfl _ _ _) rfl ?_)
  exact sTe3_1
 ·replace c4 := Bool.eq_false_iff.mpr c4
  subst c4
  have H1 : ((parapetref19_Reader_at.f s0_0 t282 t283 t284 t285).bind fun bt286 => (some (bt286.2.1, bt286.2.2.1, a1, bt286.1))) = some (r1, r2, r3, r4) := by rw [if_neg (show ¬ (false = true) by decide)] at H; exact H
  clear H
  have H := H1
  clear H1
  replace H := Option.bind_eq_some_iff.mp H
  obtain ⟨⟨t286, t287, t288, t289, t290⟩, A60, H⟩ := H
  replace H : (some (t287, t288, a1, t286)) = some (r1, r2, r3, r4) := H
  have A6 := Aside0.mk A60
  clear A60
  simp only [Option.some.injEq, Prod.mk.injEq] at H
  obtain ⟨rfl, rfl, rfl, rfl⟩ := H
  go_enter Tryd.func27, Tryd.ntmps27
  go_wp2_with (first | ((with_reducible refine gate_callee (f := 24) rfl ?_); refine goesL_ (some 5) rfl rfl Tryd.func24 (by kernel_rfl) rfl #[.pointer (some ⟨g, 0, none⟩)] rfl (by (try simp only [List.map_toArray, List.map_cons, List.map_nil]); first | done | rfl | (simp only [List.length_drop, List.length_take]; rfl)) ?_; (with_reducible refine (parapetref19_Reader_bad.calls g s0_0 s0_1 s0_2 s0_3 s0_4 false t282 t283 t284 t285 w0 _ ?side1 ?side2 A3.out).mono ?_); (case side1 => repeat (first | (with_reducible first | exact HI0.out | apply IsS67.alloc | apply IsS67.drewN | apply IsS67.drew | apply IsS67.set_1 | apply IsS67.set_2 | apply IsS67.set_3 | apply IsS67.set_4) | exact HI0.out)); (case side2 => repeat (first | (with_reducible first | exact HB.out | apply below_alloc | apply pw_below_drewN | apply below_drew1 | refine below_set ?_ (IsS67.ge HI0.out)) | exact HB.out)); rintro e w7 ⟨rfl, hi, hb, hk⟩; refine ⟨_, rfl, ?_⟩; have n0_ := Aside0.mk (KeepBut.trans (by repeat (first | (with_reducible first | exact HK.out | apply KeepBut.set_ | apply keep_drewN | apply keep_drew | apply keep_alloc) | exact HK.out)) hk (.inl rfl)); have n1_ := Aside0.mk (hb); have n2_ := Aside0.mk (hi); clear HK; clear HB; clear HI0; have HK := n0_; have HB := n1_; have HI0 := n2_; clear n0_ n1_ n2_; (try clear hb); (try clear hb2); (try clear hk); (try clear hi)) | ((with_reducible refine gate_callee (f := 53) rfl ?_); refine goesL_ (some 10) rfl rfl Tryd.func53 (by kernel_rfl) rfl #[.pointer (some ⟨g, 0, none⟩)] rfl (by (try simp only [List.map_toArray, List.map_cons, List.map_nil]); first | done | rfl | (simp only [List.length_drop, List.length_take]; rfl)) ?_; (with_reducible refine (parapetref19_Reader_at.calls g s0_0 t282 t283 t284 t285 t286 t287 t288 t289 t290 w0 _ ?side1 ?side2 A6.out).mono ?_); (case side1 => repeat (first | (with_reducible first | exact HI0.out | apply IsS67.alloc | apply IsS67.drewN | apply IsS67.drew | apply IsS67.set_1 | apply IsS67.set_2 | apply IsS67.set_3 | apply IsS67.set_4) | exact HI0.out)); (case side2 => repeat (first | (with_reducible first | exact HB.out | apply below_alloc | apply pw_below_drewN | apply below_drew1 | refine below_set ?_ (IsS67.ge HI0.out)) | exact HB.out)); rintro e w8 ⟨rfl, hi, hb, hk⟩; refine ⟨_, rfl, ?_⟩; have n0_ := Aside0.mk (KeepBut.trans (by repeat (first | (with_reducible first | exact HK.out | apply KeepBut.set_ | apply keep_drewN | apply keep_drew | apply keep_alloc) | exact HK.out)) hk (.inl rfl)); have n1_ := Aside0.mk (hb); have n2_ := Aside0.mk (hi); clear HK; clear HB; clear HI0; have HK := n0_; have HB := n1_; have HI0 := n2_; clear n0_ n1_ n2_; (try clear hb); (try clear hb2); (try clear hk); (try clear hi); obtain ⟨ASz9_0, cSz9_0, HGz9, hgz9, HSz9_0⟩ := HI0.out; have hcz9_0 := cellS67_0 HGz9; have hcz9_1 := cellS67_1 HGz9; have hcz9_2 := cellS67_2 HGz9; have hcz9_3 := cellS67_3 HGz9; have hcz9_4 := cellS67_4 HGz9; have hfz9_1 := blk_frozen HGz9 1; have hfz9_2 := blk_frozen HGz9 2; have hfz9_3 := blk_frozen HGz9 3; have hfz9_4 := blk_frozen HGz9 4; clear HGz9 hgz9))
  first | go_end0 | ((try simp only [Exit.inBlock, Exit.then]); refine bodyPost_ret (results_none rfl _ _ _) rfl ?_)
  exact sTe3_1
def parapetref1_Lower.l0 : Nat → ByteArray → List Int → Int → Option (ByteArray)
 | 0, _, _, _ => none
 | k + 1, x0, x3, x4 => if x4 < (x0.size : Int) then (if 0 ≤ x4 then (if (bt x0 x4) ≥ 65 then (if (bt x0 x4) ≤ 90 then (if x3.length < 140737488355328 then (parapetref1_Lower.l0 k x0 (x3 ++ [((bt x0 x4) + 32) % 256]) (wrap64 (x4 + 1))) else (none)) else (if x3.length < 140737488355328 then (parapetref1_Lower.l0 k x0 (x3 ++ [bt x0 x4]) (wrap64 (x4 + 1))) else (none))) else (if x3.length < 140737488355328 then (parapetref1_Lower.l0 k x0 (x3 ++ [bt x0 x4]) (wrap64 (x4 + 1))) else (none))) else (none)) else (some (strOfNums x3))
def parapetref1_Lower.f (k : Nat) (a0 : ByteArray) : Option (ByteArray) := parapetref1_Lower.l0 k a0 ([] : List Int) 0
set_option maxHeartbeats 8000000 in
set_option maxRecDepth 100000 in
theorem parapetref1_Lower.calls (k : Nat) (a0 : ByteArray) (r : ByteArray) (w : World) (h : parapetref1_Lower.f k a0 = some r) :
  Calls Tryd.prog 94 #[.string a0] w fun e w' => e = .returned (.string r) ∧ Below w.heap.size w w' := by
 have HB := Aside0.mk (Below.refl w.heap.size w)
 have H : (parapetref1_Lower.l0 k a0 ([] : List Int) 0) = some r := h
 clear h
 have H' := Aside0.mk H
 clear H
 go_enter Tryd.func94, Tryd.ntmps94
 go_wp2
 go_loopg [3, 4] k (fun kq v3 v4 w' => ∃ (x3_1 : List Int) (x4_1 : Int), v4 = .int .i64 x4_1 ∧ Aside0 (parapetref1_Lower.l0 kq a0 x3_1 x4_1 = some r) ∧ Aside0 (kq ≤ k) ∧ Aside0 (Kd.R (Kd.int .u8) 5 w' w.heap.size (fun _ => True) v3 x3_1) ∧ Aside0 (Below w.heap.size w w'))
 case atStart => exact ⟨(([] : List Int)), (0), (by first | rfl | (simp; done) | (simp [*]; done)), H', ⟨Nat.le_refl _⟩, ⟨by first | exact Kd.R_nil _ _ _ _ _ | exact Kd.N_nil _ _ _ _ _ | exact Kd.V_nil _ _ _ _ _ | exact Kd.Q_nil _ _ _ _ _ | exact Kd.S_nil _ _ _ _ _⟩, ⟨by repeat (first | (with_reducible first | exact HB.out | apply below_alloc | apply pw_below_drewN | apply below_drew1) | exact HB.out)⟩⟩
 case round =>
  clear H'
  obtain ⟨x3_1, x4_1, rfl, HA, HK1, HO_3, HB⟩ := hrel
  cases gk with
  | zero => exact absurd HA.out (by simp [parapetref1_Lower.l0])
  | succ k1 =>
   have H := HA.out
   clear HA
   simp only [parapetref1_Lower.l0] at H
   by_cases c2 : x4_1 < (a0.size : Int)
   ·rw [if_pos c2] at H
    have c2b0 : decide (x4_1 < (a0.size : Int)) = true := decide_eq_true c2
    clear c2
    by_cases c3 : 0 ≤ x4_1
    ·rw [if_pos c3] at H
     have c3b0 : decide (0 ≤ x4_1) = true := decide_eq_true c3
     clear c3
     by_cases c5 : (bt a0 x4_1) ≥ 65
     ·rw [if_pos c5] at H
      have c5b0 : decide (65 ≤ (bt a0 x4_1)) = true := decide_eq_true c5
      clear c5
      by_cases c6 : (bt a0 x4_1) ≤ 90
      ·rw [if_pos c6] at H
       have c6b0 : decide ((bt a0 x4_1) ≤ 90) = true := decide_eq_true c6
       clear c6
       by_cases c7 : x3_1.length < 140737488355328
       ·rw [if_pos c7] at H
        have LMc7 := Aside0.mk c7
        clear c7
        obtain ⟨y291, hy291⟩ : ∃ y_ : List Int, y_ = (x3_1 ++ [((bt a0 x4_1) + 32) % 256]) := ⟨_, rfl⟩
        replace H : (parapetref1_Lower.l0 k1 a0 y291 (wrap64 (x4_1 + 1))) = some r := by first | (rw [hy291]; with_reducible exact H) | (have H2_ := (Option.bind_some _ _).symm.trans H; rw [hy291]; with_reducible exact H2_) | (have H2_ := (Option.bind_some _ _).symm.trans H; with_reducible exact H2_) | with_reducible exact H | (rw [hy291]; exact H) | exact H
        have Ny291 := Aside0.mk hy291
        clear hy291
        have H' := Aside0.mk H
        clear H
        have p4 : 0 ≤ (x4_1 : Int) := of_decide_eq_true (by first | (with_reducible assumption) | assumption)
        have q4 : x4_1 < (a0.size : Int) := of_decide_eq_true (by first | (with_reducible assumption) | assumption)
        have hx4 := bt_at a0 x4_1
        replace p4 := eq_true p4
        replace q4 := eq_true q4
        go_wp2_with (first | ((with_reducible refine gate_builtin (b := .append) (xs := #[.tmp 23, .tmp 25]) rfl ?_); at_builtin; refine Kd.R_append (Kd.int .u8) (w0 := w) w.heap.size rfl (.tmp 23) (.tmp 25) 100 5 (.int .u8 0) 1 rfl Tryd.underlying100 info5 rfl (by decide) (by omega) u3 x3_1 (((bt a0 x4_1) + 32) % 256) [.int .u8 (((bt a0 x4_1) + 32) % 256)] (fun _ => True) (fun _ => False) rfl rfl ?aP (fun _ hk => hk.elim) ?aF ?aO ?aB ?aS ?aL ?_; (case aP => exact rfl); (case aB => exact (by repeat (first | (with_reducible first | exact HB.out | apply below_alloc | apply pw_below_drewN | apply below_drew1) | exact HB.out))); (case aF => exact (fun _ _ => trivial)); (case aO => exact (by (with_reducible repeat (first | apply Kd.R_alloc | apply Kd.R_drewN | apply Kd.R_drew)); exact HO_3.out)); (case aS => exact (below_size (by repeat (first | (with_reducible first | exact HB.out | apply below_alloc | apply pw_below_drewN | apply below_drew1) | exact HB.out)))); (case aL => have := LMc7.out; omega); intro v292 w8 ho hb hg hat; rw [← Ny291.out] at ho; have n0_ := Aside0.mk (hb); have n1_ := Aside0.mk (ho); clear HB; clear HO_3; have HB := n0_; have HO293 := n1_; clear n0_ n1_; clear ho hb hg hat))
        go_roundg k1
        case measure => have := HK1.out; omega
        case rel => exact ⟨(y291), (wrap64 (x4_1 + 1)), (by first | rfl | (simp; done) | (simp [*]; done)), H', ⟨by have := HK1.out; omega⟩, ⟨by (with_reducible repeat (first | apply Kd.R_alloc | apply Kd.R_drewN | apply Kd.R_drew)); exact HO293.out⟩, ⟨by repeat (first | (with_reducible first | exact HB.out | apply below_alloc | apply pw_below_drewN | apply below_drew1) | exact HB.out)⟩⟩
       ·rw [if_neg c7] at H
        exact absurd H (by simp)
      ·rw [if_neg c6] at H
       have c6b0 : decide ((bt a0 x4_1) ≤ 90) = false := decide_eq_false c6
       clear c6
       by_cases c9 : x3_1.length < 140737488355328
       ·rw [if_pos c9] at H
        have LMc9 := Aside0.mk c9
        clear c9
        obtain ⟨y294, hy294⟩ : ∃ y_ : List Int, y_ = (x3_1 ++ [bt a0 x4_1]) := ⟨_, rfl⟩
        replace H : (parapetref1_Lower.l0 k1 a0 y294 (wrap64 (x4_1 + 1))) = some r := by first | (rw [hy294]; with_reducible exact H) | (have H2_ := (Option.bind_some _ _).symm.trans H; rw [hy294]; with_reducible exact H2_) | (have H2_ := (Option.bind_some _ _).symm.trans H; with_reducible exact H2_) | with_reducible exact H | (rw [hy294]; exact H) | exact H
        have Ny294 := Aside0.mk hy294
        clear hy294
        have H' := Aside0.mk H
        clear H
        have p4 : 0 ≤ (x4_1 : Int) := of_decide_eq_true (by first | (with_reducible assumption) | assumption)
        have q4 : x4_1 < (a0.size : Int) := of_decide_eq_true (by first | (with_reducible assumption) | assumption)
        have hx4 := bt_at a0 x4_1
        replace p4 := eq_true p4
        replace q4 := eq_true q4
        go_wp2_with (first | ((with_reducible refine gate_builtin (b := .append) (xs := #[.tmp 23, .tmp 25]) rfl ?_); at_builtin; refine Kd.R_append (Kd.int .u8) (w0 := w) w.heap.size rfl (.tmp 23) (.tmp 25) 100 5 (.int .u8 0) 1 rfl Tryd.underlying100 info5 rfl (by decide) (by omega) u3 x3_1 (bt a0 x4_1) [.int .u8 (bt a0 x4_1)] (fun _ => True) (fun _ => False) rfl rfl ?aP (fun _ hk => hk.elim) ?aF ?aO ?aB ?aS ?aL ?_; (case aP => exact rfl); (case aB => exact (by repeat (first | (with_reducible first | exact HB.out | apply below_alloc | apply pw_below_drewN | apply below_drew1) | exact HB.out))); (case aF => exact (fun _ _ => trivial)); (case aO => exact (by (with_reducible repeat (first | apply Kd.R_alloc | apply Kd.R_drewN | apply Kd.R_drew)); exact HO_3.out)); (case aS => exact (below_size (by repeat (first | (with_reducible first | exact HB.out | apply below_alloc | apply pw_below_drewN | apply below_drew1) | exact HB.out)))); (case aL => have := LMc9.out; omega); intro v295 w10 ho hb hg hat; rw [← Ny294.out] at ho; have n0_ := Aside0.mk (hb); have n1_ := Aside0.mk (ho); clear HB; clear HO_3; have HB := n0_; have HO296 := n1_; clear n0_ n1_; clear ho hb hg hat))
        go_roundg k1
        case measure => have := HK1.out; omega
        case rel => exact ⟨(y294), (wrap64 (x4_1 + 1)), (by first | rfl | (simp; done) | (simp [*]; done)), H', ⟨by have := HK1.out; omega⟩, ⟨by (with_reducible repeat (first | apply Kd.R_alloc | apply Kd.R_drewN | apply Kd.R_drew)); exact HO296.out⟩, ⟨by repeat (first | (with_reducible first | exact HB.out | apply below_alloc | apply pw_below_drewN | apply below_drew1) | exact HB.out)⟩⟩
       ·rw [if_neg c9] at H
        exact absurd H (by simp)
     ·rw [if_neg c5] at H
      have c5b0 : decide (65 ≤ (bt a0 x4_1)) = false := decide_eq_false c5
      clear c5
      by_cases c11 : x3_1.length < 140737488355328
      ·rw [if_pos c11] at H
       have LMc11 := Aside0.mk c11
       clear c11
       obtain ⟨y297, hy297⟩ : ∃ y_ : List Int, y_ = (x3_1 ++ [bt a0 x4_1]) := ⟨_, rfl⟩
       replace H : (parapetref1_Lower.l0 k1 a0 y297 (wrap64 (x4_1 + 1))) = some r := by first | (rw [hy297]; with_reducible exact H) | (have H2_ := (Option.bind_some _ _).symm.trans H; rw [hy297]; with_reducible exact H2_) | (have H2_ := (Option.bind_some _ _).symm.trans H; with_reducible exact H2_) | with_reducible exact H | (rw [hy297]; exact H) | exact H
       have Ny297 := Aside0.mk hy297
       clear hy297
       have H' := Aside0.mk H
       clear H
       have p4 : 0 ≤ (x4_1 : Int) := of_decide_eq_true (by first | (with_reducible assumption) | assumption)
       have q4 : x4_1 < (a0.size : Int) := of_decide_eq_true (by first | (with_reducible assumption) | assumption)
       have hx4 := bt_at a0 x4_1
       replace p4 := eq_true p4
       replace q4 := eq_true q4
       go_wp2_with (first | ((with_reducible refine gate_builtin (b := .append) (xs := #[.tmp 23, .tmp 25]) rfl ?_); at_builtin; refine Kd.R_append (Kd.int .u8) (w0 := w) w.heap.size rfl (.tmp 23) (.tmp 25) 100 5 (.int .u8 0) 1 rfl Tryd.underlying100 info5 rfl (by decide) (by omega) u3 x3_1 (bt a0 x4_1) [.int .u8 (bt a0 x4_1)] (fun _ => True) (fun _ => False) rfl rfl ?aP (fun _ hk => hk.elim) ?aF ?aO ?aB ?aS ?aL ?_; (case aP => exact rfl); (case aB => exact (by repeat (first | (with_reducible first | exact HB.out | apply below_alloc | apply pw_below_drewN | apply below_drew1) | exact HB.out))); (case aF => exact (fun _ _ => trivial)); (case aO => exact (by (with_reducible repeat (first | apply Kd.R_alloc | apply Kd.R_drewN | apply Kd.R_drew)); exact HO_3.out)); (case aS => exact (below_size (by repeat (first | (with_reducible first | exact HB.out | apply below_alloc | apply pw_below_drewN | apply below_drew1) | exact HB.out)))); (case aL => have := LMc11.out; omega); intro v298 w12 ho hb hg hat; rw [← Ny297.out] at ho; have n0_ := Aside0.mk (hb); have n1_ := Aside0.mk (ho); clear HB; clear HO_3; have HB := n0_; have HO299 := n1_; clear n0_ n1_; clear ho hb hg hat))
       go_roundg k1
       case measure => have := HK1.out; omega
       case rel => exact ⟨(y297), (wrap64 (x4_1 + 1)), (by first | rfl | (simp; done) | (simp [*]; done)), H', ⟨by have := HK1.out; omega⟩, ⟨by (with_reducible repeat (first | apply Kd.R_alloc | apply Kd.R_drewN | apply Kd.R_drew)); exact HO299.out⟩, ⟨by repeat (first | (with_reducible first | exact HB.out | apply below_alloc | apply pw_below_drewN | apply below_drew1) | exact HB.out)⟩⟩
      ·rw [if_neg c11] at H
       exact absurd H (by simp)
    ·rw [if_neg c3] at H
     exact absurd H (by simp)
   ·rw [if_neg c2] at H
    have c2b0 : decide (x4_1 < (a0.size : Int)) = false := decide_eq_false c2
    clear c2
    obtain rfl := Option.some.inj H
    have hcv13 := own_string (P := Tryd.prog) Tryd.underlying100 Tryd.underlying5 Tryd.underlying9 (Kd.own_of_R HO_3.out)
    have hcv13q := fun (q_ : Nat) => own_string (P := Tryd.prog) Tryd.underlying100 Tryd.underlying5 Tryd.underlying9 (Kd.own_of_R (Kd.R_drewN HO_3.out q_))
    go_wp2
    go_ret
    exact sTe3_3
end Go.Proofs.YtngedmioeodmfaaDoor.Pr
namespace Go.Proofs.YtngedmioeodmfaaDoor.Ps
open Go.RowKit Go.Proofs.YtngedmioeodmfaaDoor.Pr
abbrev Tk := S40
abbrev Cd := S49
abbrev Res (α : Type) := Except (Int × Int) (α × Nat)
def nxt (T : List Tk) (e : Int) (p : Nat) : Tk := if h : p < T.length then T[p] else ⟨0, e, ⟨#[]⟩⟩
theorem bytes_toList {a b : ByteArray} : a.toList = b.toList ↔ a = b := by
 constructor
 ·intro h
  rw [ByteArray.toList_eq, ByteArray.toList_eq] at h
  exact ByteArray.ext (Array.ext' h)
 ·rintro rfl; rfl
def memB (s : ByteArray) (ws : List ByteArray) : Bool := ws.any fun w => decide (s = w)
theorem memB_cons (s a : ByteArray) (l : List ByteArray) : memB s (a :: l) = (decide (s = a) || memB s l) := rfl
section
variable (T : List Tk) (e : Int)
def isP (ws : List ByteArray) (p : Nat) : Bool := decide ((nxt T e p).f0 = 1) && memB (nxt T e p).f2 ws
def takeP (kind : Int) (p : Nat) : Res ByteArray := if (nxt T e p).f0 = kind then .ok ((nxt T e p).f2, p + 1) else .error (8, (nxt T e p).f1)
def wordP (ws : List ByteArray) (p : Nat) : Res ByteArray := if isP T e ws p then takeP T e 1 p else .error (8, (nxt T e p).f1)
def kidsL (one : Nat → Res Cd) (w : ByteArray) : Nat → List Cd → Nat → Res (List Cd)
 | 0, acc, p => .ok (acc, p)
 | f + 1, acc, p => if isP T e [w] p then (match one (p + 1) with
  | .error x => .error x
  | .ok (c, q) => kidsL one w f (acc ++ [c]) q) else .ok (acc, p)
def cond0 (k : Int) (l : List Cd) : Cd := ⟨k, ⟨⟨#[]⟩, ⟨#[]⟩⟩, l⟩
def kidsP (kind : Int) (w : ByteArray) (one : Nat → Res Cd) (p : Nat) : Res Cd :=
 match one p with
 | .error x => .error x
 | .ok (c, q) => match kidsL T e one w (T.length + 1 - q) [c] q with
  | .error x => .error x
  | .ok (l, r) => if l.length = 1 then .ok (l.getD 0 z49, r) else .ok (cond0 kind l, r)
def wNot : ByteArray := ⟨#[110, 111, 116]⟩
def wAnd : ByteArray := ⟨#[97, 110, 100]⟩
def wOr : ByteArray := ⟨#[111, 114]⟩
def wTrue : ByteArray := ⟨#[116, 114, 117, 101]⟩
def wFalse : ByteArray := ⟨#[102, 97, 108, 115, 101]⟩
def lowB (s : ByteArray) : ByteArray := ⟨s.data.map fun c => if 65 ≤ c ∧ c ≤ 90 then c + 32 else c⟩
def wMethod : ByteArray := ⟨#[109, 101, 116, 104, 111, 100]⟩
def wDest : ByteArray := ⟨#[100, 101, 115, 116]⟩
def wScheme : ByteArray := ⟨#[115, 99, 104, 101, 109, 101]⟩
def wHeader : ByteArray := ⟨#[104, 101, 97, 100, 101, 114]⟩
def wHost : ByteArray := ⟨#[104, 111, 115, 116]⟩
def wPath : ByteArray := ⟨#[112, 97, 116, 104]⟩
def wSame : ByteArray := ⟨#[115, 97, 109, 101, 45, 111, 114, 105, 103, 105, 110]⟩
def wTrusted : ByteArray := ⟨#[116, 114, 117, 115, 116, 101, 100]⟩
def wCreds : ByteArray := ⟨#[99, 114, 101, 100, 115]⟩
def wCors : ByteArray := ⟨#[99, 111, 114, 115]⟩
def atomWords : List ByteArray := [wTrue, wFalse, wSame, wTrusted, wCreds, wCors, wMethod, wDest, wScheme, wHeader, wHost, wPath]
def atomT (w : ByteArray) (f : ByteArray → ByteArray) : Res ByteArray → Res Cd
 | .error x => .error x
 | .ok (t, q) => .ok (⟨3, ⟨w, f t⟩, []⟩, q)
def atomK (w : ByteArray) (q : Nat) : Res Cd :=
 if w = wTrue then .ok (cond0 1 [], q) else if w = wFalse then .ok (cond0 2 [], q)
 else if w = wMethod then atomT w id (takeP T e 1 q)
 else if w = wDest ∨ w = wScheme ∨ w = wHeader then atomT w lowB (takeP T e 1 q)
 else if w = wHost ∨ w = wPath then atomT w id (takeP T e 2 q)
 else .ok (⟨3, ⟨w, ⟨#[]⟩⟩, []⟩, q)
def atomP (p : Nat) : Res Cd :=
 match wordP T e atomWords p with
 | .error x => .error x
 | .ok (w, q) => atomK T e w q
def closeK (c : Cd) : Res ByteArray → Res Cd
 | .error x => .error x
 | .ok (_, r) => .ok (c, r)
def closeP : Res Cd → Res Cd
 | .error x => .error x
 | .ok (c, q) => closeK c (takeP T e 4 q)
def orP (one : Nat → Res Cd) (p : Nat) : Res Cd := kidsP T e 6 wOr (kidsP T e 5 wAnd one) p
def wrapNot : Res Cd → Res Cd
 | .error x => .error x
 | .ok (c, q) => .ok (cond0 4 [c], q)
def notR (deep : Int) (one : Nat → Res Cd) (p : Nat) : Res Cd :=
 if isP T e [wNot] p then wrapNot (if deep < 30 then one (p + 1) else .error (2, (nxt T e p).f1))
 else if (nxt T e p).f0 = 3 then (if deep < 30 then closeP T e (orP T e one (p + 1)) else .error (2, (nxt T e p).f1))
 else atomP T e p
def notN : Nat → Nat → Res Cd
 | 0, p => if isP T e [wNot] p then .error (2, (nxt T e p).f1) else if (nxt T e p).f0 = 3 then .error (2, (nxt T e p).f1) else atomP T e p
 | n + 1, p => if isP T e [wNot] p then wrapNot (notN n (p + 1)) else if (nxt T e p).f0 = 3 then closeP T e (orP T e (notN n) (p + 1)) else atomP T e p
end
end Go.Proofs.YtngedmioeodmfaaDoor.Ps
namespace Go.Proofs.YtngedmioeodmfaaDoor.Pu
open Go.RowKit Go.Proofs.YtngedmioeodmfaaDoor.Pr Go.Proofs.YtngedmioeodmfaaDoorW.PrintWords Go.Proofs.YtngedmioeodmfaaDoor.Lx
def g (l : List UInt8) (j : Nat) : Int := ((l.getD j 0).toNat : Int)
theorem runeD_list (l : List UInt8) (h : l ≠ []) : (runeD l : Int) = runeLen l.length (g l 0) (g l 1) (g l 2) (g l 3) := by
 have hp : 0 < l.length := List.length_pos_iff.2 h
 have := runeD_eq ⟨l.toArray⟩ (by simpa [ByteArray.size] using hp)
 have e0 := bt_getD ⟨l.toArray⟩ 0
 have e1 := bt_getD ⟨l.toArray⟩ 1
 have e2 := bt_getD ⟨l.toArray⟩ 2
 have e3 := bt_getD ⟨l.toArray⟩ 3
 have hs : ((ByteArray.mk l.toArray).size : Int) = l.length := by simp [ByteArray.size]
 rw [show (1 : Int) = ((1 : Nat) : Int) from rfl, show (2 : Int) = ((2 : Nat) : Int) from rfl, show (3 : Int) = ((3 : Nat) : Int) from rfl, show (0 : Int) = ((0 : Nat) : Int) from rfl, e0, e1, e2, e3, hs] at this
 exact this
theorem g_out (l : List UInt8) (j : Nat) (h : l.length ≤ j) : g l j = 0 := by
 unfold g
 rw [List.getD_eq_getElem?_getD, List.getElem?_eq_none h]; rfl
theorem g_left (A B : List UInt8) (j : Nat) (h : j < A.length) : g (A ++ B) j = g A j := by
 unfold g
 rw [List.getD_eq_getElem?_getD, List.getD_eq_getElem?_getD, List.getElem?_append_left h]
theorem g_at (A : List UInt8) (c : UInt8) (B : List UInt8) : g (A ++ c :: B) A.length = (c.toNat : Int) := by
 unfold g
 rw [List.getD_eq_getElem?_getD, List.getElem?_append_right (Nat.le_refl _), Nat.sub_self]; rfl
theorem runeD_ext (A B : List UInt8) (hA : A ≠ []) (h : runeD A ≠ 0) : runeD (A ++ B) = runeD A := by
 have hp : 0 < A.length := List.length_pos_iff.2 hA
 have e1 := runeD_list A hA
 have e2 := runeD_list (A ++ B) (by simp [hA])
 rw [List.length_append] at e2
 have hb := List.length_pos_iff.2 hA
 have h0 := g_left A B 0
 have h1 := g_left A B 1
 have h2 := g_left A B 2
 have h3 := g_left A B 3
 have o1 := g_out A 1
 have o2 := g_out A 2
 have o3 := g_out A 3
 generalize g (A ++ B) 0 = y0 at *
 generalize g (A ++ B) 1 = y1 at *
 generalize g (A ++ B) 2 = y2 at *
 generalize g (A ++ B) 3 = y3 at *
 generalize g A 0 = x0 at *
 generalize g A 1 = x1 at *
 generalize g A 2 = x2 at *
 generalize g A 3 = x3 at *
 generalize runeD (A ++ B) = r2 at *
 generalize runeD A = r1 at *
 generalize A.length = n at *
 generalize B.length = m at *
 have h0' := h0 hp
 subst h0'
 by_cases n1 : 1 < n
 ·have h1' := h1 n1
  subst h1'
  by_cases n2 : 2 < n
  ·have h2' := h2 n2
   subst h2'
   by_cases n3 : 3 < n
   ·have h3' := h3 n3
    subst h3'
    unfold runeLen at e1 e2
    (repeat' split at e1) <;> (repeat' split at e2) <;> omega
   ·have o := o3 (by omega)
    subst o
    unfold runeLen at e1 e2
    (repeat' split at e1) <;> (repeat' split at e2) <;> omega
  ·have o := o2 (by omega)
   subst o
   unfold runeLen at e1 e2
   (repeat' split at e1) <;> (repeat' split at e2) <;> omega
 ·have o := o1 (by omega)
  subst o
  unfold runeLen at e1 e2
  (repeat' split at e1) <;> (repeat' split at e2) <;> omega
theorem runeD_cut (A : List UInt8) (c : UInt8) (B : List UInt8) (hA : A ≠ []) (hc : c.toNat < 128) : runeD (A ++ c :: B) = runeD A := by
 have hp : 0 < A.length := List.length_pos_iff.2 hA
 by_cases h : runeD A ≠ 0
 ·exact runeD_ext A _ hA h
 ·have h : runeD A = 0 := by omega
  have e1 := runeD_list A hA
  have e2 := runeD_list (A ++ c :: B) (by simp [hA])
  rw [List.length_append, List.length_cons] at e2
  have h0 := g_left A (c :: B) 0
  have h1 := g_left A (c :: B) 1
  have h2 := g_left A (c :: B) 2
  have h3 := g_left A (c :: B) 3
  have ha := g_at A c B
  by_cases n1 : A.length = 1
  ·rw [n1] at ha e1 e2 h0
   rw [h0 (by omega), ha] at e2
   generalize g A 0 = x0 at *
   unfold runeLen at e1 e2
   (repeat' split at e1) <;> (repeat' split at e2) <;> omega
  ·by_cases n2 : A.length = 2
   ·rw [n2] at ha e1 e2 h0 h1
    rw [h0 (by omega), h1 (by omega), ha] at e2
    generalize g A 0 = x0 at *
    generalize g A 1 = x1 at *
    unfold runeLen at e1 e2
    (repeat' split at e1) <;> (repeat' split at e2) <;> omega
   ·by_cases n3 : A.length = 3
    ·rw [n3] at ha e1 e2 h0 h1 h2
     rw [h0 (by omega), h1 (by omega), h2 (by omega), ha] at e2
     generalize g A 0 = x0 at *
     generalize g A 1 = x1 at *
     generalize g A 2 = x2 at *
     unfold runeLen at e1 e2
     (repeat' split at e1) <;> (repeat' split at e2) <;> omega
    ·rw [h0 (by omega), h1 (by omega), h2 (by omega), h3 (by omega)] at e2
     generalize g A 0 = x0 at *
     generalize g A 1 = x1 at *
     generalize g A 2 = x2 at *
     generalize g A 3 = x3 at *
     unfold runeLen at e1 e2
     (repeat' split at e1) <;> (repeat' split at e2) <;> omega
theorem brkL_le (l : List UInt8) : brkL l ≤ l.length := brk_le _ _
theorem brkL_cut (c : UInt8) (B : List UInt8) (hc : c.toNat < 128) : ∀ n (A : List UInt8), A.length ≤ n → brkL (A ++ c :: B) = if brkL A = A.length then A.length + 1 + brkL B else brkL A := by
 intro n
 induction n with
 | zero =>
  intro A h
  have : A = [] := List.length_eq_zero_iff.1 (by omega)
  subst this
  rw [List.nil_append, brkL_ascii c B hc, if_pos (show brkL [] = ([] : List UInt8).length from rfl)]; simp
 | succ n ih =>
  intro A h
  by_cases hA : A = []
  ·subst hA
   rw [List.nil_append, brkL_ascii c B hc, if_pos (show brkL [] = ([] : List UInt8).length from rfl)]; simp
  ·have hp : 0 < A.length := List.length_pos_iff.2 hA
   rw [brkL_step (A ++ c :: B) (by simp), runeD_cut A c B hA hc, brkL_step A hA]
   by_cases h0 : runeD A = 0
   ·rw [if_pos h0, if_pos h0, if_neg (by omega)]
   ·have hle := runeD_le A hA
    rw [if_neg h0, if_neg h0, List.drop_append_of_le_length hle, ih (A.drop (runeD A)) (by rw [List.length_drop]; omega), List.length_drop]
    by_cases q : brkL (A.drop (runeD A)) = A.length - runeD A
    ·rw [if_pos q, if_pos (by omega)]; omega
    ·rw [if_neg q, if_neg (by omega)]
def toU (l : List Int) : List UInt8 := l.map fun n => n.toNat.toUInt8
def V (l : List Int) : Prop := brkL (toU l) = l.length
theorem toU_app (a b : List Int) : toU (a ++ b) = toU a ++ toU b := by simp [toU]
theorem toU_len (l : List Int) : (toU l).length = l.length := by simp [toU]
theorem toU_bytes (x : ByteArray) : toU (bytesOf x) = x.data.toList := by
 have := congrArg (fun y : ByteArray => y.data.toList) (str_bytesOf x)
 simp only [data_str] at this
 exact this
theorem V_bytes (x : ByteArray) : V (bytesOf x) ↔ brkL x.data.toList = x.size := by
 unfold V; rw [toU_bytes, bytesOf_length]
theorem asc {c : Int} (h0 : 0 ≤ c) (h1 : c < 128) : (c.toNat.toUInt8).toNat < 128 := by
 simp; omega
theorem V_nil : V [] := rfl
theorem V_split (A : List Int) (c : Int) (B : List Int) (h0 : 0 ≤ c) (h1 : c < 128) : V (A ++ c :: B) ↔ (V A ∧ V B) := by
 unfold V
 rw [toU_app, show toU (c :: B) = c.toNat.toUInt8 :: toU B from rfl, brkL_cut _ _ (asc h0 h1) _ _ (Nat.le_refl _), toU_len, List.length_append, List.length_cons]
 have hA := brkL_le (toU A)
 have hB := brkL_le (toU B)
 rw [toU_len] at hA hB
 by_cases q : brkL (toU A) = A.length
 ·rw [if_pos q]; constructor
  ·intro h; exact ⟨q, by omega⟩
  ·intro h; omega
 ·rw [if_neg q]; constructor
  ·intro h; omega
  ·intro h; exact absurd h.1 q
theorem V_ascii (l : List Int) (h : ∀ c ∈ l, 0 ≤ c ∧ c < 128) : V l := by
 unfold V
 rw [brkL_all_ascii, toU_len]
 intro c hc
 obtain ⟨n, hn, rfl⟩ := List.mem_map.1 hc
 exact asc (h n hn).1 (h n hn).2
theorem bytesOf_app (a b : ByteArray) : bytesOf (a ++ b) = bytesOf a ++ bytesOf b := by
 unfold bytesOf
 simp [ByteArray.data_append]
theorem escL_ge (l : List Int) : l.length ≤ (escL l).length := by
 induction l with
 | nil => simp [escL]
 | cons c l ih =>
  rw [escL_cons, List.length_append, List.length_cons]
  split
  all_goals simp
  all_goals omega
theorem wof_pos {t : Tk} (h : okT t) : 1 ≤ (wof t).length := by
 unfold wof
 rcases h with ⟨h1, c, l, h2, _⟩ | ⟨h1, _⟩ | ⟨c, _, h1, h2⟩
 ·rw [if_neg (by omega), h2]; simp
 ·rw [if_pos h1]; simp
 ·rw [if_neg (by rw [h1]; exact opIdx_ne c), h2]; simp
theorem piece {x : ByteArray} {a : Nat} {w rest : List Int} (h : (bytesOf x).drop a = w ++ rest) : x.extract a (a + w.length) = strOfNums w ∧ (w ≠ [] → a + w.length ≤ x.size) := by
 constructor
 ·refine (strOfNums_inj_bytes _ _ ?_).symm
  rw [bytesOf_ext, List.drop_take, h, show a + w.length - a = w.length by omega, List.take_left]
 ·intro hw
  have := congrArg List.length h
  rw [List.length_drop, bytesOf_length, List.length_append] at this
  have := List.length_pos_iff.2 hw
  omega
theorem Placed.len {bs : List Int} : ∀ {e : Nat} {ts : List Tk}, Placed bs e ts → e ≤ bs.length → ts.length + e ≤ bs.length
 | e, [], _, h => by simpa using h
 | e, t :: r, ⟨hok, a, ha, hea, ⟨rest, hr⟩, hp⟩, h => by
  have h1 := wof_pos hok
  have h2 := congrArg List.length hr
  rw [List.length_drop, List.length_append] at h2
  have := Placed.len hp (by omega)
  rw [List.length_cons]; omega
theorem tokM_cases (x : ByteArray) : (∃ ts, tokM x = (ts, 0, 0) ∧ sm 0 .sk [] (bytesOf x) = .good ts ∧ V (bytesOf x) ∧ x.size ≤ 3000) ∨ (∃ j : Nat, tokM x = ([], 8, (j : Int)) ∧ j ≤ x.size) ∨ (tokM x = ([], 2, 0) ∧ x.size > 3000) := by
 unfold tokM
 by_cases h : x.size > 3000
 ·rw [if_pos h]; exact .inr (.inr ⟨rfl, h⟩)
 ·rw [if_neg h]
  have hw : (wrongN x.data.toList ≤ x.size) ∨ (wrongN x.data.toList = x.size + 1 ∧ brkL x.data.toList = x.size) := by
   unfold wrongN
   rw [data_length]
   split
   ·rename_i q; exact .inr ⟨rfl, q⟩
   ·have := brkL_le x.data.toList; rw [data_length] at this; exact .inl this
  cases hs : sm 0 .sk [] (bytesOf x) with
  | bad j =>
   have hj : j ≤ x.size := sm_bad_le x x.size 0 .sk [] j (by omega) (by omega) (fun _ _ _ e => by cases e) hs
   refine .inr (.inl ⟨min (wrongN x.data.toList) j, ?_, by omega⟩)
   simp only; congr 2; omega
  | good ts =>
   simp only
   rcases hw with hw | ⟨hw, hv⟩
   ·rw [if_pos (by omega)]; exact .inr (.inl ⟨wrongN x.data.toList, rfl, hw⟩)
   ·rw [if_neg (by omega)]; exact .inl ⟨ts, rfl, rfl, (V_bytes x).2 hv, by omega⟩
def key (t : Tk) : Int × ByteArray := (t.f0, t.f2)
theorem Placed.all {bs : List Int} : ∀ {e : Nat} {ts : List Tk}, Placed bs e ts → ∀ t ∈ ts, okT t ∧ ∃ (a : Nat) (rest : List Int), bs.drop a = wof t ++ rest
 | _, [], _, t, h => by cases h
 | _, x :: r, ⟨hok, a, _, _, ⟨rest, hr⟩, hp⟩, t, h => by
  rcases List.mem_cons.1 h with rfl | h
  ·exact ⟨hok, a, rest, hr⟩
  ·exact Placed.all hp t h
theorem word_asc : ∀ c : Fin 256, pWord (c.val : Int) = true → (c.val : Int) < 128 := by decide +kernel
theorem word_lt {x : Int} (h0 : 0 ≤ x ∧ x ≤ 255) (h : pWord x = true) : 0 ≤ x ∧ x < 128 := by
 obtain ⟨c, hc⟩ : ∃ c : Fin 256, (c.val : Int) = x := ⟨⟨x.toNat, by omega⟩, by simp; omega⟩
 subst hc
 exact ⟨h0.1, word_asc c h⟩
theorem V_wof {bs : List Int} (hv : V bs) {t : Tk} (h : okT t) {a : Nat} {rest : List Int} (hd : bs.drop a = wof t ++ rest) : V (wof t) := by
 have hrg := bytesOf_range t.f2
 unfold wof at hd ⊢
 rcases h with ⟨h1, c, l, h2, h3, h4, h5, h6⟩ | ⟨h1, h2⟩ | ⟨c, hc, h1, h2⟩
 ·rw [if_neg (by omega), h2]
  rw [h2] at hrg
  apply V_ascii
  intro x hx
  have hr := hrg x hx
  rcases List.mem_cons.1 hx with rfl | hx
  ·obtain ⟨q, hq⟩ : ∃ q : Fin 256, (q.val : Int) = x := ⟨⟨x.toNat, by omega⟩, by simp; omega⟩
   have := letter_word q (by rw [hq]; exact h5)
   rw [hq] at this
   exact word_lt hr this
  ·exact word_lt hr (h6 x hx)
 ·rw [if_pos h1] at hd ⊢
  have e : bs = bs.take a ++ 34 :: (escL (bytesOf t.f2) ++ 34 :: rest) := by
   have e0 := (List.take_append_drop a bs).symm
   rw [hd] at e0
   exact e0.trans (by simp)
  rw [e] at hv
  have v1 := ((V_split _ 34 _ (by omega) (by omega)).1 hv).2
  have v2 := ((V_split _ 34 _ (by omega) (by omega)).1 v1).1
  exact (V_split [] 34 _ (by omega) (by omega)).2 ⟨V_nil, (V_split _ 34 [] (by omega) (by omega)).2 ⟨v2, V_nil⟩⟩
 ·rw [if_neg (by rw [h1]; exact opIdx_ne c), h2]
  apply V_ascii
  intro x hx
  simp at hx
  omega
theorem w10 : pBlank 10 = true ∧ pWord 10 = false := by decide +kernel
end Go.Proofs.YtngedmioeodmfaaDoor.Pu
namespace Go.Proofs.YtngedmioeodmfaaDoor.Ps
open Go.RowKit Go.Proofs.YtngedmioeodmfaaDoor.Pr
abbrev Sh := S44
abbrev Rl := S51
def wCsp : ByteArray := ⟨#[99, 115, 112]⟩
def wShare : ByteArray := ⟨#[115, 104, 97, 114, 101]⟩
def wMixed : ByteArray := ⟨#[109, 105, 120, 101, 100]⟩
def wDefault : ByteArray := ⟨#[100, 101, 102, 97, 117, 108, 116]⟩
def wAllow : ByteArray := ⟨#[97, 108, 108, 111, 119]⟩
def wDeny : ByteArray := ⟨#[100, 101, 110, 121]⟩
def wBlock : ByteArray := ⟨#[98, 108, 111, 99, 107]⟩
def wUpgrade : ByteArray := ⟨#[117, 112, 103, 114, 97, 100, 101]⟩
def wIf : ByteArray := ⟨#[105, 102]⟩
structure Pst where
 csp : List ByteArray
 shares : List Sh
 mixed : ByteArray
 rules : List Rl
 allow : Bool
 items : Nat
 metM : Nat
 metD : Nat
def pst0 : Pst := ⟨[], [], wBlock, [], false, 0, 0, 0⟩
section
variable (T : List Tk) (e : Int)
def shareL : Nat → Sh → Nat → Res Sh
 | 0, s, p => .ok (s, p)
 | f + 1, s, p => if isP T e [wMethod, wHeader, wCreds] p then (match takeP T e 1 p with
  | .error x => .error x
  | .ok (w, q) => if w = wMethod then (match takeP T e 1 q with
    | .error x => .error x
    | .ok (t, r) => shareL f ⟨s.f0, s.f1 ++ [t], s.f2, s.f3⟩ r)
   else if w = wHeader then (match takeP T e 1 q with
    | .error x => .error x
    | .ok (t, r) => shareL f ⟨s.f0, s.f1, s.f2 ++ [t], s.f3⟩ r)
   else shareL f ⟨s.f0, s.f1, s.f2, true⟩ q) else .ok (s, p)
def shareP (p : Nat) : Res Sh :=
 match takeP T e 2 p with
 | .error x => .error x
 | .ok (o, q) => shareL T e (T.length + 1 - q) ⟨o, [], [], false⟩ q
def itemK (s : Pst) (w : ByteArray) (q : Nat) : Res Pst :=
 if w = wCsp then (match takeP T e 2 q with
  | .error x => .error x
  | .ok (t, r) => .ok ({ s with csp := s.csp ++ [t] }, r))
 else if w = wShare then (match shareP T e q with
  | .error x => .error x
  | .ok (h, r) => .ok ({ s with shares := s.shares ++ [h] }, r))
 else if w = wMixed then (match wordP T e [wBlock, wUpgrade, wAllow] q with
  | .error x => .error x
  | .ok (t, r) => .ok ({ s with mixed := t }, r))
 else if w = wDefault then (match wordP T e [wAllow, wDeny] q with
  | .error x => .error x
  | .ok (t, r) => .ok ({ s with allow := decide (t = wAllow) }, r))
 else match wordP T e [wIf] q with
  | .error x => .error x
  | .ok (_, r) => match orP T e (notN T e 30) r with
   | .error x => .error x
   | .ok (c, r2) => .ok ({ s with rules := s.rules ++ [⟨decide (w = wAllow), c⟩] }, r2)
def onceP (s : Pst) (p : Nat) : Except (Int × Int) Pst :=
 if isP T e [wMixed, wDefault] p then
  (if (nxt T e p).f2 = wMixed then (if s.metM + 1 > 1 then .error (10, (nxt T e p).f1) else .ok { s with metM := s.metM + 1 })
   else if s.metD + 1 > 1 then .error (10, (nxt T e p).f1) else .ok { s with metD := s.metD + 1 })
 else .ok s
def itemP (s : Pst) (p : Nat) : Res Pst :=
 if isP T e [wCsp, wShare, wMixed, wDefault, wAllow, wDeny] p then (match onceP T e s p with
  | .error x => .error x
  | .ok s1 => if s1.items + 1 > 60 then .error (2, (nxt T e p).f1) else (match takeP T e 1 p with
   | .error x => .error x
   | .ok (w, q) => itemK T e { s1 with items := s1.items + 1 } w q)) else .error (8, (nxt T e p).f1)
def itemsP : Nat → Pst → Nat → Except (Int × Int) Pst
 | 0, s, p => .ok s
 | f + 1, s, p => if p < T.length then (match itemP T e s p with
  | .error x => .error x
  | .ok (s1, q) => match takeP T e 5 q with
   | .error x => .error x
   | .ok (_, r) => itemsP f s1 r) else .ok s
def polP : Except (Int × Int) Pst := itemsP T e (T.length + 1) pst0 0
end
end Go.Proofs.YtngedmioeodmfaaDoor.Ps
