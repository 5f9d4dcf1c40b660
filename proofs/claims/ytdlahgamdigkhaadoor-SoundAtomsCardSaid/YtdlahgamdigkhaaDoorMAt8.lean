/- 5 texts of the proof, put together, less what is not used; what a tool printed stands among them. -/
import Derived.Test.YtdlahgamdigkhaaDoorMAt7
set_option linter.unusedVariables false
set_option linter.unusedSimpArgs false
set_option maxRecDepth 100000
namespace Go.Proofs
open Go.RowKit
theorem nAt8_ {p_ : Prop} (h_ : p_ := by
 simp only [Act.put, List.setIfInBounds_toArray, List.set_cons_zero, List.set_cons_succ, i64_w, i32_w]
 rfl) : p_ := h_
theorem sAt8_0 {p_ : Prop} (h_ : p_ := by
 have l3 : (k0 == (3 : Int)) = false := by simp [hk0]
 have HR : Aside0 (R = atomP T e p) := ⟨by rw [HR0.out]; exact notN_atom HIF.out (by rw [← HK0.out]; exact hk0) _⟩
 have l4 : ((nxt T e p).f0 == (3 : Int)) = false := by rw [← HK0.out]; exact l3
 clear hk0
 exact sc_atom) : p_ := h_
end Go.Proofs
namespace Go.Proofs.YtdlahgamdigkhaaDoor.Pu
open Go.RowKit Go.Proofs.YtdlahgamdigkhaaDoor.Pr Go.Proofs.YtdlahgamdigkhaaDoorW.PrintWords Go.Proofs.YtdlahgamdigkhaaDoor.Lx
open Go.Proofs.YtdlahgamdigkhaaDoor.Ps hiding Tk
theorem rs_wordL (a : Nat) (ts : List Tk) : ∀ (l : List Int) (i : Nat) (acc : List Int), rs i (.wd a acc) ts l = rs (i + wl l) (.wd a (acc ++ l.takeWhile pWord)) ts (l.drop (wl l))
 | [], i, acc => by simp [wl]
 | c :: l, i, acc => by
  cases hp : pWord c with
  | true =>
   rw [rs_cons, step, if_pos hp]
   show rs (i + 1) (.wd a (acc ++ [c])) ts l = _
   rw [rs_wordL a ts l (i + 1) (acc ++ [c]), wl, wl, List.takeWhile_cons, if_pos hp, List.length_cons, List.drop_succ_cons, List.append_assoc, show i + 1 + (l.takeWhile pWord).length = i + ((l.takeWhile pWord).length + 1) by omega]
   rfl
  | false => simp [wl, List.takeWhile_cons, hp]
theorem wl_head : ∀ l : List Int, l.drop (wl l) = [] ∨ ∃ c r, l.drop (wl l) = c :: r ∧ pWord c = false
 | [] => .inl rfl
 | c :: l => by
  cases hp : pWord c with
  | true => simpa [wl, List.takeWhile_cons, hp] using wl_head l
  | false => exact .inr ⟨c, l, by simp [wl, List.takeWhile_cons, hp], hp⟩
theorem wd_sk {s : ByteArray} {E i a : Nat} {acc : List Int} {ts : List Tk} : ∀ {l : List Int}, (l = [] ∨ ∃ c r, l = c :: r ∧ pWord c = false) → refT s E (rs i (.wd a acc) ts l) = refT s E (rs i .sk (ts ++ [⟨1, (a : Int), strOfNums acc⟩]) l)
 | _, .inl rfl => rfl
 | _, .inr ⟨c, r, rfl, hp⟩ => by
  have hst : step i c (.wd a acc) ts = step i c .sk (ts ++ [⟨1, (a : Int), strOfNums acc⟩]) := by rw [step, step, if_neg (show ¬ (pWord c = true) by rw [hp]; decide)]
  rw [rs_cons, rs_cons, hst]
theorem seg_drop (s : ByteArray) (E i n : Nat) : (seg s E i).drop n = seg s E (i + n) := by
 rw [seg, seg, List.drop_take, List.drop_drop, show E - i - n = E - (i + n) by omega]
theorem note_ev {s : ByteArray} {E : Nat} (hE : E ≤ s.size) (hs : s.size ≤ 3000) (D : Nat) (H : ∀ (i : Nat) (ts : List Tk), i ≤ E → E - i ≤ D → ts.length ≤ i → Ev (fun k => parapetref19_tokens.l0 k s (E : Int) ts (i : Int)) (refT s E (rs i .sk ts (seg s E i)))) :
  ∀ (d i : Nat) (ts : List Tk), i ≤ E → E - i ≤ d → d ≤ D → ts.length ≤ i → Ev (fun k => parapetref19_tokens.l1 k s (E : Int) ts (i : Int)) (refT s E (rs i .nt ts (seg s E i))) := by
 intro d
 induction d with
 | zero =>
  intro i ts hi hd hD ht
  refine Ev.step (fun k => ?_) ((H i ts hi (by omega) ht).eq ?_)
  ·rw [parapetref19_tokens.l1, if_neg (by omega)]
  ·rw [seg_end (by omega)]; rfl
 | succ d ih =>
  intro i ts hi hd hD ht
  by_cases hlt : i < E
  ·have hw : wrap64 ((i : Int) + 1) = ((i + 1 : Nat) : Int) := by unfold wrap64; omega
   by_cases h1 : bt s (i : Int) = 10
   ·refine Ev.step (fun k => ?_) ((H i ts hi (by omega) ht).eq ?_)
    ·rw [parapetref19_tokens.l1, if_pos (by omega), if_pos (by omega), if_pos (by omega), if_pos h1]
    ·rw [seg_cons hE hlt, rs_cons, rs_cons, h1, step, step, if_pos rfl, st1, if_pos (by decide +kernel)]
   ·refine Ev.step (fun k => ?_) ((ih (i + 1) ts (by omega) (by omega) (by omega) (by omega)).eq ?_)
    ·rw [parapetref19_tokens.l1, if_pos (by omega), if_pos (by omega), if_pos (by omega), if_neg h1, hw]
    ·rw [seg_cons hE hlt, rs_cons, step, if_neg h1]
  ·refine Ev.step (fun k => ?_) ((H i ts hi (by omega) ht).eq ?_)
   ·rw [parapetref19_tokens.l1, if_neg (by omega)]
   ·rw [seg_end (by omega)]; rfl
section
variable {s : ByteArray} {E i : Nat} {ts : List Tk} {c : Int}
def wN (s : ByteArray) (E i : Nat) (c : Int) : Int := if pLetter c = true then ((1 + wl (seg s E (i + 1)) : Nat) : Int) else 0
theorem tok_word_ev (hE : E ≤ s.size) (hs : s.size ≤ 3000) (hlt : i < E) (hc : c = bt s (i : Int)) : Ev (fun k => parapetref19_word.f k (s.extract i E)) (wN s E i c) := by
 have hxs : (s.extract i E).size = E - i := by rw [ByteArray.size_extract]; omega
 have hb := bt_drop (s.extract i E) 0 (by omega)
 rw [List.drop_zero, seg_bytes, seg_cons hE hlt] at hb
 injection hb with hb1 hb2
 have hwd := word_ev (s.extract i E) (by omega) (by omega)
 rw [show bt (s.extract i E) 0 = bt s (i : Int) from hb1.symm, seg_bytes, show (seg s E i).drop 1 = seg s E (i + 1) from seg_drop s E i 1, ← hc] at hwd
 exact hwd
theorem blank_split (c : Int) (hr : 0 ≤ c ∧ c ≤ 255) {α : Type} (f : Bool → α) : (if c = 9 then f true else if c = 10 then f true else if c = 13 then f true else f (c == 32)) = f (pBlank c) := by
 rw [blank_is hr]
 by_cases c1 : c = 9
 ·rw [if_pos c1, decide_eq_true c1]; rfl
 ·rw [if_neg c1, decide_eq_false c1]
  by_cases c2 : c = 10
  ·rw [if_pos c2, decide_eq_true c2]; rfl
  ·rw [if_neg c2, decide_eq_false c2]
   by_cases c3 : c = 13
   ·rw [if_pos c3, decide_eq_true c3]; rfl
   ·rw [if_neg c3, decide_eq_false c3]; rfl
theorem tok_enter (hE : E ≤ s.size) (hs : s.size ≤ 3000) (hlt : i < E) (hc : c = bt s (i : Int)) {r : List Tk × Int} (h : Ev (fun k => parapetref19_tokens.j1 k s (E : Int) ts (i : Int) c (wN s E i c) (pBlank c)) r) : Ev (fun k => parapetref19_tokens.l0 k s (E : Int) ts (i : Int)) r := by
 have hr : 0 ≤ c ∧ c ≤ 255 := by rw [hc]; exact bt_rng s i
 refine Ev.step (fun k => ?_) (Ev.bind (tok_word_ev hE hs hlt hc) (f := fun k t369 => parapetref19_tokens.j1 k s (E : Int) ts (i : Int) c t369 (pBlank c)) h)
 rw [parapetref19_tokens.l0, if_pos (by omega), if_pos (by omega), if_pos (by omega), if_pos (by omega), if_pos (by omega), Int.toNat_natCast, Int.toNat_natCast, ← hc]
 congr 1
 funext t369
 exact blank_split c hr (fun b => parapetref19_tokens.j1 k s (E : Int) ts (i : Int) c t369 b)
theorem tok_blank (h1 : pBlank c = true) (hi : i ≤ 3000) {r : List Tk × Int} (h : Ev (fun k => parapetref19_tokens.l0 k s (E : Int) ts ((i + 1 : Nat) : Int)) r) : Ev (fun k => parapetref19_tokens.j1 k s (E : Int) ts (i : Int) c (wN s E i c) (pBlank c)) r := by
 have hw : wrap64 ((i : Int) + 1) = ((i + 1 : Nat) : Int) := by unfold wrap64; omega
 rw [h1]
 refine Ev.step (fun k => ?_) h
 rw [parapetref19_tokens.j1, if_pos rfl, hw]
theorem tok_note (h1 : pBlank c = false) (h2 : c = 35) {r : List Tk × Int} (h : Ev (fun k => parapetref19_tokens.l1 k s (E : Int) ts (i : Int)) r) : Ev (fun k => parapetref19_tokens.j1 k s (E : Int) ts (i : Int) c (wN s E i c) (pBlank c)) r := by
 rw [h1]
 refine Ev.step (fun k => ?_) h
 rw [parapetref19_tokens.j1, if_neg Bool.false_ne_true, if_pos h2]
theorem tok_word (h1 : pBlank c = false) (h2 : c ≠ 35) (h3 : pLetter c = true) {m : Nat} (hm : wl (seg s E (i + 1)) = m) (hi : i + (m + 1) ≤ s.size) (hs : s.size ≤ 3000) (hlen : ts.length < 4398046511104) {r : List Tk × Int} (h : Ev (fun k => parapetref19_tokens.l0 k s (E : Int) (ts ++ [⟨1, (i : Int), s.extract i (i + (m + 1))⟩]) ((i + (m + 1) : Nat) : Int)) r) : Ev (fun k => parapetref19_tokens.j1 k s (E : Int) ts (i : Int) c (wN s E i c) (pBlank c)) r := by
 have hw : wrap64 ((i : Int) + ((1 + m : Nat) : Int)) = ((i + (m + 1) : Nat) : Int) := by unfold wrap64; omega
 rw [h1, wN, if_pos h3, hm]
 refine Ev.step (fun k => ?_) h
 rw [parapetref19_tokens.j1, if_neg Bool.false_ne_true, if_neg h2, if_pos (by omega), if_pos (by omega), hw, if_pos (by omega), if_pos (by omega), if_pos hlen, Int.toNat_natCast, Int.toNat_natCast]
theorem tok_j (h1 : pBlank c = false) (h2 : c ≠ 35) (h3 : pLetter c = false) (hi : i ≤ 3000) (hlen : ts.length < 4398046511104) (k : Nat) : parapetref19_tokens.j1 (k + 1) s (E : Int) ts (i : Int) c (wN s E i c) (pBlank c) =
  if c = 34 then ((parapetref19_quoted.f k s (i : Int) (E : Int)).bind fun bt373 => (if bt373.2.2 = true then (parapetref19_tokens.l0 k s (E : Int) (ts ++ [(⟨2, (i : Int), bt373.1⟩ : S69)]) bt373.2.1) else (some (([] : List (S69)), bt373.2.1))))
  else if c = 40 then parapetref19_tokens.l0 k s (E : Int) (ts ++ [(⟨3, (i : Int), (⟨#[40]⟩ : ByteArray)⟩ : S69)]) ((i + 1 : Nat) : Int)
  else if c = 41 then parapetref19_tokens.l0 k s (E : Int) (ts ++ [(⟨4, (i : Int), (⟨#[41]⟩ : ByteArray)⟩ : S69)]) ((i + 1 : Nat) : Int)
  else if c = 59 then parapetref19_tokens.l0 k s (E : Int) (ts ++ [(⟨5, (i : Int), (⟨#[59]⟩ : ByteArray)⟩ : S69)]) ((i + 1 : Nat) : Int)
  else some ([], (i : Int)) := by
 have hw : wrap64 ((i : Int) + 1) = ((i + 1 : Nat) : Int) := by unfold wrap64; omega
 have h4 : ¬ (pLetter c = true) := by rw [h3]; decide
 rw [h1, wN, if_neg h4, parapetref19_tokens.j1, if_neg Bool.false_ne_true, if_neg h2, if_neg (by omega), hw]
 simp only [if_pos hlen]
theorem tok_op (h1 : pBlank c = false) (h2 : c ≠ 35) (h3 : pLetter c = false) (h5 : c ≠ 34) (h6 : c = 40 ∨ c = 41 ∨ c = 59) (hi : i ≤ 3000) (hlen : ts.length < 4398046511104) {r : List Tk × Int} (h : Ev (fun k => parapetref19_tokens.l0 k s (E : Int) (ts ++ [⟨opIdx c, (i : Int), strOfNums [c]⟩]) ((i + 1 : Nat) : Int)) r) : Ev (fun k => parapetref19_tokens.j1 k s (E : Int) ts (i : Int) c (wN s E i c) (pBlank c)) r := by
 refine Ev.step (fun k => ?_) h
 rw [tok_j h1 h2 h3 hi hlen, if_neg h5]
 rcases h6 with rfl | rfl | rfl
 ·rw [if_pos rfl]; rfl
 ·rw [if_neg (by decide), if_pos rfl]; rfl
 ·rw [if_neg (by decide), if_neg (by decide), if_pos rfl]; rfl
theorem tok_bad (h1 : pBlank c = false) (h2 : c ≠ 35) (h3 : pLetter c = false) (h5 : c ≠ 34) (h6 : ¬ (c = 40 ∨ c = 41 ∨ c = 59)) (hi : i ≤ 3000) (hlen : ts.length < 4398046511104) : Ev (fun k => parapetref19_tokens.j1 k s (E : Int) ts (i : Int) c (wN s E i c) (pBlank c)) ([], (i : Int)) := by
 refine Ev.step (f := fun _ => some ([], (i : Int))) (fun k => ?_) (Ev.const fun _ => rfl)
 rw [tok_j h1 h2 h3 hi hlen, if_neg h5, if_neg (fun h => h6 (.inl h)), if_neg (fun h => h6 (.inr (.inl h))), if_neg (fun h => h6 (.inr (.inr h)))]
theorem tok_quo (hE : E ≤ s.size) (hs : s.size ≤ 3000) (hlt : i < E) (h1 : pBlank c = false) (h2 : c ≠ 35) (h3 : pLetter c = false) (h5 : c = 34) (hlen : ts.length ≤ i)
  (H : ∀ (j : Nat) (ts : List Tk), j ≤ E → E - j ≤ E - (i + 1) → ts.length ≤ j → Ev (fun k => parapetref19_tokens.l0 k s (E : Int) ts (j : Int)) (refT s E (rs j .sk ts (seg s E j)))) : Ev (fun k => parapetref19_tokens.j1 k s (E : Int) ts (i : Int) c (wN s E i c) (pBlank c)) (refT s E (rs (i + 1) (.qt i []) ts (seg s E (i + 1)))) := by
 have hw : wrap64 ((i : Int) + 1) = ((i + 1 : Nat) : Int) := by unfold wrap64; omega
 obtain ⟨t, j, ok, g1, g2⟩ := quoted_ev hE hs i ts (E - (i + 1)) (i + 1) [] (by omega) (by omega) (Nat.zero_le _)
 have hq : ∀ k, parapetref19_tokens.j1 (k + 1) s (E : Int) ts (i : Int) c (wN s E i c) (pBlank c) = (parapetref19_quoted.l0 k s ((i + 1 : Nat) : Int) (E : Int) []).bind fun bt373 => (if bt373.2.2 = true then (parapetref19_tokens.l0 k s (E : Int) (ts ++ [(⟨2, (i : Int), bt373.1⟩ : S69)]) bt373.2.1) else (some (([] : List (S69)), bt373.2.1))) := by
  intro k
  rw [tok_j h1 h2 h3 (by omega) (by omega), if_pos h5, parapetref19_quoted.f, hw]
 rcases g2 with ⟨rfl, q, rfl, e1, e2, e3⟩ | ⟨rfl, e1, e2⟩
 ·refine Ev.step hq (Ev.bind g1 ?_)
  rw [e3]
  exact ev_eqq (fun k => by rw [if_pos rfl]) (H q _ e2 (by omega) (by rw [List.length_append, List.length_singleton]; omega))
 ·refine Ev.step hq (Ev.bind g1 ?_)
  rw [e2]
  exact Ev.const fun k => by rw [if_neg Bool.false_ne_true]
theorem word_piece (hlt : i < E) (hE : E ≤ s.size) (hc : c = bt s (i : Int)) : s.extract i (i + (wl (seg s E (i + 1)) + 1)) = strOfNums (c :: (seg s E (i + 1)).takeWhile pWord) := by
 have hpc := piece (x := s) (a := i) (w := c :: (seg s E (i + 1)).takeWhile pWord) (rest := (seg s E (i + 1)).dropWhile pWord ++ ((bytesOf s).drop (i + 1)).drop (E - (i + 1))) (by
  rw [bt_drop s i (by omega), ← hc, List.cons_append, ← List.append_assoc, List.takeWhile_append_dropWhile, seg, List.take_append_drop])
 rw [List.length_cons] at hpc
 exact hpc.1
end
theorem tokens_loop {s : ByteArray} {E : Nat} (hE : E ≤ s.size) (hs : s.size ≤ 3000) : ∀ (d i : Nat) (ts : List Tk), i ≤ E → E - i ≤ d → ts.length ≤ i → Ev (fun k => parapetref19_tokens.l0 k s (E : Int) ts (i : Int)) (refT s E (rs i .sk ts (seg s E i))) := by
 intro d
 induction d with
 | zero =>
  intro i ts hi hd ht
  refine Ev.step (f := fun _ => some (ts, -1)) (fun k => ?_) ((Ev.const fun _ => rfl : Ev _ (ts, (-1 : Int))).eq ?_)
  ·rw [parapetref19_tokens.l0, if_neg (by omega)]
  ·rw [seg_end (by omega)]; rfl
 | succ d ih =>
  intro i ts hi hd ht
  by_cases hlt : i < E
  ·obtain ⟨c, hc⟩ : ∃ c, c = bt s (i : Int) := ⟨_, rfl⟩
   refine tok_enter hE hs hlt hc ?_
   rw [seg_cons hE hlt, rs_cons, ← hc]
   cases hbl : pBlank c with
   | true =>
    have hst : step i c .sk ts = .go .sk ts := by rw [step, st1, if_pos hbl]
    rw [hst, ← hbl]
    exact tok_blank hbl (by omega) (ih (i + 1) ts (by omega) (by omega) (by omega))
   | false =>
    have hnb : ¬ (pBlank c = true) := by rw [hbl]; decide
    rw [← hbl]
    by_cases c1 : c = 35
    ·have hst : step i c .sk ts = .go .nt ts := by rw [step, st1, if_neg hnb, if_pos c1]
     rw [hst]
     have hnt := note_ev hE hs d ih d (i + 1) ts (by omega) (by omega) (Nat.le_refl _) (by omega)
     refine tok_note hbl c1 (Ev.step (fun k => ?_) hnt)
     have hw : wrap64 ((i : Int) + 1) = ((i + 1 : Nat) : Int) := by unfold wrap64; omega
     rw [parapetref19_tokens.l1, if_pos (by omega), if_pos (by omega), if_pos (by omega), if_neg (by rw [← hc]; omega), hw]
    ·cases hl : pLetter c with
     | true =>
      have hst : step i c .sk ts = .go (.wd i [c]) ts := by rw [step, st1, if_neg hnb, if_neg c1, if_pos hl]
      rw [hst]
      obtain ⟨m, hm⟩ : ∃ m, m = wl (seg s E (i + 1)) := ⟨_, rfl⟩
      have hle : m ≤ E - (i + 1) := by rw [hm]; exact Nat.le_trans (wl_le _) (by rw [seg, List.length_take]; exact Nat.min_le_left _ _)
      refine tok_word hbl c1 hl hm.symm (by omega) hs (by omega) ?_
      show Ev _ (refT s E (rs (i + 1) (.wd i [c]) ts (seg s E (i + 1))))
      have hpc := word_piece hlt hE hc
      rw [← hm] at hpc
      rw [rs_wordL, ← hm, wd_sk (by rw [hm]; exact wl_head _), seg_drop, show i + 1 + m = i + (m + 1) by omega, hpc]
      exact ih (i + (m + 1)) _ (by omega) (by omega) (by rw [List.length_append, List.length_singleton]; omega)
     | false =>
      have hnl : ¬ (pLetter c = true) := by rw [hl]; decide
      by_cases c2 : c = 34
      ·have hst : step i c .sk ts = .go (.qt i []) ts := by rw [step, st1, if_neg hnb, if_neg c1, if_neg hnl, if_pos c2]
       rw [hst]
       exact tok_quo hE hs hlt hbl c1 hl c2 ht (fun j ts h1 h2 h3 => ih j ts h1 (by omega) h3)
      ·by_cases c3 : c = 40 ∨ c = 41 ∨ c = 59
       ·have hst : step i c .sk ts = .go .sk (ts ++ [⟨opIdx c, (i : Int), strOfNums [c]⟩]) := by rw [step, st1, if_neg hnb, if_neg c1, if_neg hnl, if_neg c2, if_pos c3]
        rw [hst]
        exact tok_op hbl c1 hl c2 c3 (by omega) (by omega) (ih (i + 1) _ (by omega) (by omega) (by rw [List.length_append, List.length_singleton]; omega))
       ·have hst : step i c .sk ts = .bad i := by rw [step, st1, if_neg hnb, if_neg c1, if_neg hnl, if_neg c2, if_neg c3]
        rw [hst]
        exact tok_bad hbl c1 hl c2 c3 (by omega) (by omega)
  ·refine Ev.step (f := fun _ => some (ts, -1)) (fun k => ?_) ((Ev.const fun _ => rfl : Ev _ (ts, (-1 : Int))).eq ?_)
   ·rw [parapetref19_tokens.l0, if_neg (by omega)]
   ·rw [seg_end (by omega)]; rfl
end Go.Proofs.YtdlahgamdigkhaaDoor.Pu
namespace Go.Proofs.YtdlahgamdigkhaaDoor.Pu
open Go.RowKit Go.Proofs.YtdlahgamdigkhaaDoor.Pr Go.Proofs.YtdlahgamdigkhaaDoorW.PrintWords Go.Proofs.YtdlahgamdigkhaaDoor.Lx
open Go.Proofs.YtdlahgamdigkhaaDoor.Ps hiding Tk
theorem q_st1_bad {i : Nat} {c : Int} {ts : List Tk} {j : Nat} (h : st1 i c ts = .bad j) : j = i := by
 unfold st1 at h
 repeat' split at h
 all_goals first | (cases h; rfl) | cases h
theorem q_st1_es {i : Nat} {c : Int} {ts ts' : List Tk} {a p : Nat} {acc : List Int} : st1 i c ts ≠ .go (.es a p acc) ts' := by
 intro h
 unfold st1 at h
 repeat' split at h
 all_goals cases h
theorem q_step_bad {i : Nat} {c : Int} {st : St} {ts : List Tk} {j : Nat} (h : step i c st ts = .bad j) : j = i ∨ ∃ a acc, st = .es a j acc := by
  cases st with
  | sk => exact .inl (q_st1_bad h)
  | nt => simp only [step] at h; split at h <;> cases h
  | wd a acc => simp only [step] at h; split at h; cases h; exact .inl (q_st1_bad h)
  | qt a acc => simp only [step] at h; repeat' split at h
                all_goals first | (cases h; exact .inl rfl) | cases h
  | es a p acc => simp only [step] at h; split at h; cases h; cases h; exact .inr ⟨_, _, rfl⟩
theorem q_step_es {i : Nat} {c : Int} {st : St} {ts ts' : List Tk} {a p : Nat} {acc : List Int} (h : step i c st ts = .go (.es a p acc) ts') : p = i := by
  cases st with
  | sk => exact (q_st1_es h).elim
  | nt => simp only [step] at h; split at h <;> cases h
  | wd a acc => simp only [step] at h; split at h; cases h; exact (q_st1_es h).elim
  | qt a acc => simp only [step] at h; repeat' split at h
                all_goals first | (cases h; rfl) | cases h
  | es a p acc => simp only [step] at h; split at h <;> cases h
theorem sm_ge (m : Nat) : ∀ (l : List Int) (i : Nat) (st : St) (ts : List Tk) (j : Nat), m ≤ i → (∀ a p acc, st = .es a p acc → m ≤ p) → sm i st ts l = .bad j → m ≤ j
 | [], i, st, ts, j, hi, he, h => by
  rw [sm] at h
  cases st <;> simp [fin] at h <;> omega
 | c :: l, i, st, ts, j, hi, he, h => by
  rw [sm] at h
  cases hs : step i c st ts with
  | bad j2 =>
   rw [hs] at h
   cases h
   rcases q_step_bad hs with rfl | ⟨a, acc, e⟩
   ·exact hi
   ·exact he _ _ _ e
  | go st' ts' =>
   rw [hs] at h
   exact sm_ge m l (i + 1) st' ts' j (by omega) (fun a p acc e => by subst e; have := q_step_es hs; omega) h
theorem rs_le : ∀ (l : List Int) (i : Nat) (st : St) (ts : List Tk), (∀ a p acc, st = .es a p acc → p ≤ i) → (∀ j, rs i st ts l = .bad j → j ≤ i + l.length) ∧ (∀ st' ts', rs i st ts l = .go st' ts' → ∀ a p acc, st' = .es a p acc → p ≤ i + l.length)
 | [], i, st, ts, he => ⟨fun j h => (by cases h), fun st' ts' h => (by cases h; exact fun a p acc e => by have := he a p acc e; simp; omega)⟩
 | c :: l, i, st, ts, he => by
  rw [rs_cons]
  cases hs : step i c st ts with
  | bad j2 =>
   refine ⟨fun j h => ?_, fun st' ts' h => (by cases h)⟩
   cases h
   rw [List.length_cons]
   rcases q_step_bad hs with rfl | ⟨a, acc, e⟩
   ·omega
   ·have := he _ _ _ e; omega
  | go st1 ts1 =>
   have ih := rs_le l (i + 1) st1 ts1 (fun a p acc e => by subst e; have := q_step_es hs; omega)
   rw [List.length_cons]
   refine ⟨fun j h => by have := ih.1 j h; omega, fun st' ts' h a p acc e => by have := ih.2 st' ts' h a p acc e; omega⟩
def tokR (x : ByteArray) (E : Nat) (r : List Tk × Int) : List Tk × Int × Int :=
 if r.2 ≥ 0 then ([], 8, r.2) else if (E : Int) < (x.size : Int) then ([], 8, (E : Int)) else (r.1, 0, 0)
def tokS (W : Nat) (n : Nat) : Out → List Tk × Int × Int
 | .bad j => ([], 8, min (W : Int) (j : Int))
 | .good ts => if (W : Int) ≤ (n : Int) then ([], 8, (W : Int)) else (ts, 0, 0)
theorem tokS_ge {W n m : Nat} {o : Out} (hW : W ≤ n) (h : ∀ j, o = .bad j → W ≤ j) : tokS W n o = ([], 8, (W : Int)) := by
 cases o with
 | bad j => have := h j rfl; rw [tokS, Int.min_eq_left (by omega)]
 | good ts => rw [tokS, if_pos (by omega)]
theorem tokR_neg {x : ByteArray} {E : Nat} {ts : List Tk} (h : E < x.size) : tokR x E (ts, -1) = ([], 8, (E : Int)) := by
 rw [tokR, if_neg (show ¬ ((-1 : Int) ≥ 0) by decide), if_pos (by omega)]
theorem tokR_pos {x : ByteArray} {E : Nat} {ts : List Tk} {j : Nat} : tokR x E (ts, (j : Int)) = ([], 8, (j : Int)) := by
 rw [tokR, if_pos (by show (j : Int) ≥ 0; omega)]
theorem ref_all (x : ByteArray) : tokR x x.size (refT x x.size (rs 0 .sk [] (bytesOf x))) = tokS (x.size + 1) x.size (sm 0 .sk [] (bytesOf x)) := by
 have hl : (bytesOf x).length = x.size := bytesOf_length x
 have hle := rs_le (bytesOf x) 0 .sk [] (fun _ _ _ e => by cases e)
 rw [sm_rs, Nat.zero_add, hl]
 have hneg : ∀ ts, tokR x x.size (ts, -1) = (ts, 0, 0) := fun ts => by rw [tokR, if_neg (show ¬ ((-1 : Int) ≥ 0) by decide), if_neg (by omega)]
 cases ho : rs 0 .sk [] (bytesOf x) with
 | bad j =>
  have := hle.1 j ho
  show tokR x x.size ([], (j : Int)) = tokS _ _ (.bad j)
  rw [tokR_pos, tokS, Int.min_eq_right (by omega)]
 | go st ts =>
  cases st with
  | sk => show tokR x x.size (ts, -1) = tokS _ _ (.good ts); rw [hneg, tokS, if_neg (by omega)]
  | nt => show tokR x x.size (ts, -1) = tokS _ _ (.good ts); rw [hneg, tokS, if_neg (by omega)]
  | wd a acc => show tokR x x.size (_, -1) = tokS _ _ (.good _); rw [hneg, tokS, if_neg (by omega)]
  | qt a acc => show tokR x x.size ([], (x.size : Int)) = tokS _ _ (.bad x.size); rw [tokR_pos, tokS, Int.min_eq_right (by omega)]
  | es a p acc =>
   show tokR x x.size (if x.size < x.size ∧ _ then _ else _) = tokS _ _ (.bad x.size)
   rw [if_neg (fun h => absurd h.1 (Nat.lt_irrefl _)), tokR_pos, tokS, Int.min_eq_right (by omega)]
theorem ref_cut (x : ByteArray) (E : Nat) (hE : E < x.size) : tokR x E (refT x E (rs 0 .sk [] (seg x E 0))) = tokS E x.size (sm 0 .sk [] (bytesOf x)) := by
 have hb : bytesOf x = seg x E 0 ++ dr x E := by rw [seg, List.drop_zero, Nat.sub_zero, dr, List.take_append_drop]
 have hlen : (seg x E 0).length = E := by rw [seg, List.drop_zero, Nat.sub_zero, List.length_take, bytesOf_length]; omega
 have hle := rs_le (seg x E 0) 0 .sk [] (fun _ _ _ e => by cases e)
 rw [hlen, Nat.zero_add] at hle
 have hsm : ∀ st ts, rs 0 .sk [] (seg x E 0) = .go st ts → sm 0 .sk [] (bytesOf x) = sm E st ts (dr x E) := fun st ts h => by
  rw [hb, sm_rs, rs_app_go h, sm_rs, hlen, Nat.zero_add, List.length_append, hlen, Nat.zero_add]
 have hgo : ∀ st ts, (∀ a p acc, st = .es a p acc → False) → tokS E x.size (sm E st ts (dr x E)) = ([], 8, (E : Int)) := fun st ts he =>
  tokS_ge (m := 0) (by omega) (fun j h => sm_ge E _ E st ts j (Nat.le_refl _) (fun a p acc e => (he a p acc e).elim) h)
 cases ho : rs 0 .sk [] (seg x E 0) with
 | bad j =>
  have := hle.1 j ho
  have h2 : sm 0 .sk [] (bytesOf x) = .bad j := by rw [hb, sm_rs, rs_app_bad ho]; rfl
  rw [h2]
  show tokR x E ([], (j : Int)) = tokS _ _ (.bad j)
  rw [tokR_pos, tokS, Int.min_eq_right (by omega)]
 | go st ts =>
  rw [hsm st ts ho]
  cases st with
  | sk => rw [hgo _ _ (fun _ _ _ e => by cases e)]; exact tokR_neg hE
  | nt => rw [hgo _ _ (fun _ _ _ e => by cases e)]; exact tokR_neg hE
  | wd a acc => rw [hgo _ _ (fun _ _ _ e => by cases e)]; exact tokR_neg hE
  | qt a acc => rw [hgo _ _ (fun _ _ _ e => by cases e)]; exact tokR_pos
  | es a p acc =>
   have hp := hle.2 _ _ ho a p acc rfl
   show tokR x E (if E < x.size ∧ ¬ (bt x (E : Int) = 34 ∨ bt x (E : Int) = 92) then ([], (p : Int)) else ([], (E : Int))) = _
   rw [dr_cons x E hE, sm]
   by_cases hq : bt x (E : Int) = 34 ∨ bt x (E : Int) = 92
   ·rw [if_neg (fun h => h.2 hq), tokR_pos]
    have hst : step E (bt x (E : Int)) (.es a p acc) ts = .go (.qt a (acc ++ [bt x (E : Int)])) ts := by rw [step, if_pos hq]
    rw [hst]
    exact (tokS_ge (m := 0) (by omega) (fun j h => by have := sm_ge (E + 1) _ (E + 1) _ ts j (Nat.le_refl _) (fun a p acc e => by cases e) h; omega)).symm
   ·rw [if_pos ⟨hE, hq⟩, tokR_pos]
    have hst : step E (bt x (E : Int)) (.es a p acc) ts = .bad p := by rw [step, if_neg hq]
    rw [hst]
    show _ = tokS _ _ (.bad p)
    rw [tokS, Int.min_eq_right (by omega)]
theorem rtokens_ev (x : ByteArray) : Ev (fun k => parapetref19_Tokens.f k x) (tokM x) := by
 unfold tokM parapetref19_Tokens.f
 by_cases h : x.size > 3000
 ·rw [if_pos h]
  refine Ev.const fun k => ?_
  rw [if_pos (by omega)]
 ·rw [if_neg h]
  obtain ⟨E, hEe⟩ : ∃ E, E = brkL x.data.toList := ⟨_, rfl⟩
  have hbl := brk_le x.data.toList.length x.data.toList
  have hEl : E ≤ x.size := by rw [hEe, ← data_length]; exact hbl
  have hbr := broken_ev x (by omega)
  have htk := tokens_loop hEl (by omega) E 0 [] (Nat.zero_le _) (by omega) (Nat.zero_le _)
  rw [← hEe] at hbr
  have hall : tokR x E (refT x E (rs 0 .sk [] (seg x E 0))) = tokS (wrongN x.data.toList) x.size (sm 0 .sk [] (bytesOf x)) := by
   by_cases hz : E = x.size
   ·rw [wrongN, ← hEe, data_length, if_pos hz]
    subst hz
    have hb : seg x x.size 0 = bytesOf x := by rw [seg, List.drop_zero, Nat.sub_zero, List.take_of_length_le (by rw [bytesOf_length]; exact Nat.le_refl _)]
    rw [hb]
    exact ref_all x
   ·rw [wrongN, ← hEe, data_length, if_neg hz]
    exact ref_cut x E (by omega)
  refine ev_eqq (g' := fun k => (parapetref9_Broken.f k x).bind fun t389 => (parapetref19_tokens.f k x t389).bind fun bt390 => (if bt390.2 ≥ 0 then (some (([] : List (S69)), 8, bt390.2)) else (if t389 < (x.size : Int) then (some (([] : List (S69)), 8, t389)) else (some (bt390.1, 0, 0))))) (fun k => by rw [if_neg (by omega)]) (Ev.bind hbr (ev_eqq (g' := fun k => (parapetref19_tokens.l0 k x (E : Int) [] ((0 : Nat) : Int)).bind fun bt390 => some (tokR x E bt390)) (fun k => ?_) (Ev.bind htk ((Ev.now _).eq ?_))))
  ·show (parapetref19_tokens.l0 k x (E : Int) [] 0).bind _ = (parapetref19_tokens.l0 k x (E : Int) [] 0).bind _
   congr 1
   funext b
   rw [tokR]
   split
   ·rfl
   ·split <;> rfl
  ·rw [hall]
   cases sm 0 .sk [] (bytesOf x) <;> rfl
end Go.Proofs.YtdlahgamdigkhaaDoor.Pu
namespace Go.Proofs.YtdlahgamdigkhaaDoor.Pu
open Go.RowKit Go.Proofs.YtdlahgamdigkhaaDoor.Pr Go.Proofs.YtdlahgamdigkhaaDoorW.PrintWords Go.Proofs.YtdlahgamdigkhaaDoorW.PrintLast Go.Proofs.YtdlahgamdigkhaaDoorW.PrintMore Go.Proofs.YtdlahgamdigkhaaDoor.Lx
open Go.Proofs.YtdlahgamdigkhaaDoor.Ps hiding Tk
set_option maxHeartbeats 16000000
set_option maxRecDepth 100000
theorem r_is (s : ByteArray) {w0 w : World} {g : Nat} {T : List Tk} {e : Int} (p : Nat) (h : IsR w0 w g T (p : Int) e 0 0) (hB : Below w0.heap.size w0 w) (b : Bool) (hb : isP T e [s] p = b) :
  Calls Tryd.prog 43 #[.pointer (some ⟨g, 0, none⟩), .string s] w fun e' w' => e' = .returned (.bool b) ∧ Step w0 w g T (p : Int) e 0 0 w' := by
 have hr := ris_good (T := T) (e := e) s p
 rw [hb] at hr
 exact (parapetref19_Reader_is.calls g T _ _ _ _ s _ _ _ _ _ w0 w h hB hr).mono fun _ _ ⟨h1, h2, h3, h4⟩ => ⟨h1, h2, h3, h4⟩
theorem r_close {w0 w : World} {g : Nat} {T : List Tk} {e : Int} {r : Res Cd} {s : Cd} {i c a : Int} (hQ : CdQ r s i c a) (hT : T.length ≤ 1000000) (h : IsR w0 w g T i e c a) (hB : Below w0.heap.size w0 w) :
  ∃ t i2 c2 a2, CdQ (closeP T e r) s i2 c2 a2 ∧ Calls Tryd.prog 28 #[.pointer (some ⟨g, 0, none⟩), .int .i64 4] w fun e' w' => e' = .returned (.string t) ∧ Step w0 w g T i2 e c2 a2 w' := by
 cases r with
 | error x =>
  obtain ⟨x, y⟩ := x
  obtain ⟨hx, hi, rfl, rfl⟩ := hQ
  exact ⟨_, i, c, a, ⟨hx, hi, rfl, rfl⟩, r_next_bad 4 hi hx hT h hB⟩
 | ok x =>
  obtain ⟨s', q⟩ := x
  obtain ⟨rfl, rfl, rfl, rfl⟩ := hQ
  obtain ⟨t, i2, c2, a2, hN, hC⟩ := r_next (T := T) (e := e) 4 q (by decide) hT h hB
  refine ⟨t, i2, c2, a2, ?_, hC⟩
  show CdQ (closeK s (takeP T e 4 q)) s i2 c2 a2
  cases ht : takeP T e 4 q with
  | error y => obtain ⟨y, z⟩ := y; rw [ht] at hN; exact ⟨hN.1, hN.2.1, hN.2.2.1, hN.2.2.2.1⟩
  | ok y => obtain ⟨t2, q2⟩ := y; rw [ht] at hN; obtain ⟨_, rfl, rfl, rfl⟩ := hN; exact ⟨rfl, rfl, rfl, rfl⟩
theorem wrap_cd {r : Res Cd} {s : Cd} {i c a : Int} (hQ : CdQ r s i c a) : CdQ (wrapNot r) (cond0 4 [s]) i c a := by
 cases r with
 | error x => exact hQ
 | ok x => obtain ⟨s', q⟩ := x; obtain ⟨rfl, rfl, rfl, rfl⟩ := hQ; exact ⟨rfl, rfl, rfl, rfl⟩
theorem not_yes {T : List Tk} {e : Int} {n p : Nat} (h : isP T e [wNot] p = true) : notN T e (n + 1) p = wrapNot (notN T e n (p + 1)) := by rw [notN, h, if_pos rfl]
theorem not_open {T : List Tk} {e : Int} {n p : Nat} (h : isP T e [wNot] p = false) (h3 : (nxt T e p).f0 = 3) : notN T e (n + 1) p = closeP T e (orP T e (notN T e n) (p + 1)) := by rw [notN, h, if_neg Bool.false_ne_true, if_pos h3]
theorem notN_atom {T : List Tk} {e : Int} {p : Nat} (h : isP T e [wNot] p = false) (h3 : (nxt T e p).f0 ≠ 3) : ∀ n, notN T e n p = atomP T e p
 | 0 => by rw [notN, h, if_neg Bool.false_ne_true, if_neg h3]
 | n + 1 => by rw [notN, h, if_neg Bool.false_ne_true, if_neg h3]
theorem not_deep0 {T : List Tk} {e : Int} {p : Nat} (h : isP T e [wNot] p = true ∨ (nxt T e p).f0 = 3) : notN T e 0 p = .error (2, (nxt T e p).f1) := by
 rw [notN]
 rcases h with h | h
 ·rw [h, if_pos rfl]
 ·split
  ·rfl
  ·simp only [h, if_true]
theorem sc_deep {p_ : Prop} (h_ : p_ := by
 go_wp2_with fail
 refine (r_wrong (T := T) (e := e) p 2 HA3.out.i HA3.out.b).mono ?_
 rintro ed w4 ⟨rfl, hs⟩
 dsimp only
 have HA4 := Aside0.mk (HA3.out.step hs)
 have HX4 : Aside0 (w4.heap[gr]? = some (.cells #[.int .i64 0, .string ⟨#[]⟩, .string ⟨#[]⟩, .slice none 0 0] 39 (0, 0))) := ⟨blk_keep HX3.out hs.2.2 HG.out.1⟩
 clear hs HA3 HX3
 go_wp2_with (refine wpList_store_row rfl 39 _ _ rfl gr (cdcells ⟨0, ⟨⟨#[]⟩, ⟨#[]⟩⟩, []⟩ (.slice none 0 0)) rfl rfl 39 _ HX4.out size_cd rfl (cd_one _ _ rfl) ?_)
 exact bodyPost_ret (cond_ret rfl rfl (setRow_heap _ _ _ _ _ _ HX4.out)) rfl ⟨_, _, 2, _, _, by rw [HR.out]; exact ⟨by decide, by omega, rfl, rfl⟩, rfl, Kd.V_nil _ _ _ _ _, (HA4.out.setRow HG.out.1 HG.out.2.1 (Nat.le_of_eq HG.out.2.2.1) _).to⟩) : p_ := h_
theorem sc_atom {p_ : Prop} (h_ : p_ := by
 go_wp2_with fail
 refine (r_take0 (T := T) (e := e) wNot p HT.out HA3.out.i HA3.out.b HIF.out).mono ?_
 rintro ed w4 ⟨rfl, hs⟩
 dsimp only
 have HA4 := Aside0.mk (HA3.out.step hs)
 have HX4 : Aside0 (w4.heap[gr]? = some (.cells #[.int .i64 0, .string ⟨#[]⟩, .string ⟨#[]⟩, .slice none 0 0] 39 (0, 0))) := ⟨blk_keep HX3.out hs.2.2 HG.out.1⟩
 have H5 := Aside0.mk (r_kind (T := T) (e := e) p HA4.out.i HA4.out.b)
 clear hs HA3 HX3
 go_wp2_with fail
 refine H5.out.mono ?_
 rintro ed w5 ⟨rfl, hs⟩
 dsimp only
 have HA5 := Aside0.mk (HA4.out.step hs)
 have HX5 : Aside0 (w5.heap[gr]? = some (.cells #[.int .i64 0, .string ⟨#[]⟩, .string ⟨#[]⟩, .slice none 0 0] 39 (0, 0))) := ⟨blk_keep HX4.out hs.2.2 HG.out.1⟩
 have H6 := Aside0.mk (ratom_calls w0 w5 g T e p HA5.out.i HA5.out.b HT.out HS.out)
 clear hs HA4 HX4 H5
 go_wp2_with fail
 refine H6.out.mono ?_
 rintro ed w6 ⟨s6, i6, c6, a6, v6, hq6, rfl, hv6, hs6⟩
 unfold cdcells
 dsimp only
 have HA6 := Aside0.mk (HA5.out.step hs6)
 have HX6 : Aside0 (w6.heap[gr]? = some (.cells #[.int .i64 0, .string ⟨#[]⟩, .string ⟨#[]⟩, .slice none 0 0] 39 (0, 0))) := ⟨blk_keep HX5.out hs6.2.2 HG.out.1⟩
 have HV6 : Aside0 (Kd.V k39 39 w6 0 (fun k => gr < k) v6 s6.f2) := ⟨Kd.V_lower (Kd.V_mono hv6 (fun k hk => by have := blk_lt HX5.out; omega)) (Nat.zero_le _)⟩
 have HQ6 : Aside0 (CdQ R s6 i6 c6 a6) := ⟨by rw [HR.out]; exact hq6⟩
 clear hq6 hv6 hs6 HA5 HX5 H6
 go_wp2_with (refine wpList_store_row rfl 39 _ _ rfl gr (cdcells s6 v6) rfl rfl 39 _ HX6.out size_cd rfl (cd_one _ _ (V_cell1 HV6.out)) ?_)
 exact bodyPost_ret (cond_ret rfl rfl (setRow_heap _ _ _ _ _ _ HX6.out)) rfl ⟨s6, i6, c6, a6, v6, HQ6.out, rfl, V_out HV6.out HG.out.2.2.1 _, (HA6.out.setRow HG.out.1 HG.out.2.1 (Nat.le_of_eq HG.out.2.2.1) _).to⟩) : p_ := h_
theorem rnot_calls (w0 : World) (g : Nat) (T : List Tk) (e : Int) (hT : T.length ≤ 1000000) (hS : ∀ t ∈ T, t.f2.size ≤ 1000000) : ∀ (n : Nat), n ≤ 30 → ∀ (p : Nat) (W : World), IsR w0 W g T (p : Int) e 0 0 → Below w0.heap.size w0 W →
  Calls Tryd.prog 57 #[.pointer (some ⟨g, 0, none⟩), .int .i64 (30 - (n : Int))] W (CondQ w0 W g T e (notN T e n p)) := by
 intro n
 induction n with
 | zero =>
  intro hn p W h hB
  have HT := Aside0.mk hT
  have HS := Aside0.mk hS
  obtain ⟨gr, hgr⟩ : ∃ gr, gr = W.heap.size := ⟨_, rfl⟩
  have HA1 : Aside0 (At w0 W (W.alloc (.cells #[.int .i64 0, .string ⟨#[]⟩, .string ⟨#[]⟩, .slice none 0 0] 39)) g T (p : Int) e 0 0) := ⟨(At.start h hB).alloc _⟩
  have HX1 : Aside0 ((W.alloc (.cells #[.int .i64 0, .string ⟨#[]⟩, .string ⟨#[]⟩, .slice none 0 0] 39)).heap[gr]? = some (.cells #[.int .i64 0, .string ⟨#[]⟩, .string ⟨#[]⟩, .slice none 0 0] 39 (0, 0))) := ⟨by rw [hgr]; exact blk_new _ _⟩
  have HG : Aside0 (gr ≠ g ∧ w0.heap.size ≤ gr ∧ W.heap.size = gr ∧ g < gr) := ⟨by have := IsS66.lt h; have := hB.size; omega⟩
  obtain ⟨R, hR⟩ : ∃ R, R = notN T e 0 p := ⟨_, rfl⟩
  rw [← hR]
  have HR0 := Aside0.mk hR
  obtain ⟨w1, hw1⟩ : ∃ w1, w1 = W.alloc (.cells #[.int .i64 0, .string ⟨#[]⟩, .string ⟨#[]⟩, .slice none 0 0] 39) := ⟨_, rfl⟩
  rw [← hw1] at HA1 HX1
  have HW1 := Aside0.mk hw1
  have HGR := Aside0.mk hgr
  have l0 : ((0 : Int) != 0) = false := by decide
  clear hR h hB hw1 hgr
  cases hif : isP T e [wNot] p with
  | true =>
   have HIF := Aside0.mk hif
   have HR : Aside0 (R = .error (2, (nxt T e p).f1)) := ⟨by rw [HR0.out]; exact not_deep0 (.inl HIF.out)⟩
   clear hif
   go_enter Tryd.func57, Tryd.ntmps57
   go_upto_region 1 with (fail)
   rw [← HW1.out, ← HGR.out]
   clear HW1 HGR
   go_wp2_with fail
   refine (bad_quiet w0 _ g T _ _ 0 0 false l0 HA1.out.i).mono ?_
   rintro ed w' ⟨rfl, hww⟩
   obtain rfl := hww.symm
   clear hww
   dsimp only
   go_wp2_with fail
   refine (r_is wNot p HA1.out.i HA1.out.b _ HIF.out).mono ?_
   rintro ed w2 ⟨rfl, hs⟩
   dsimp only
   have HA2 := Aside0.mk (HA1.out.step hs)
   have HX2 : Aside0 (w2.heap[gr]? = some (.cells #[.int .i64 0, .string ⟨#[]⟩, .string ⟨#[]⟩, .slice none 0 0] 39 (0, 0))) := ⟨blk_keep HX1.out hs.2.2 HG.out.1⟩
   clear hs HA1 HX1 l0
   have HA3 := HA2
   have HX3 := HX2
   clear HA2 HX2
   exact sc_deep
  | false =>
   have HIF := Aside0.mk hif
   clear hif
   go_enter Tryd.func57, Tryd.ntmps57
   go_upto_region 1 with (fail)
   rw [← HW1.out, ← HGR.out]
   clear HW1 HGR
   go_wp2_with fail
   refine (bad_quiet w0 _ g T _ _ 0 0 false l0 HA1.out.i).mono ?_
   rintro ed w' ⟨rfl, hww⟩
   obtain rfl := hww.symm
   clear hww
   dsimp only
   go_wp2_with fail
   refine (r_is wNot p HA1.out.i HA1.out.b _ HIF.out).mono ?_
   rintro ed w2 ⟨rfl, hs⟩
   dsimp only
   have HA2 := Aside0.mk (HA1.out.step hs)
   have HX2 : Aside0 (w2.heap[gr]? = some (.cells #[.int .i64 0, .string ⟨#[]⟩, .string ⟨#[]⟩, .slice none 0 0] 39 (0, 0))) := ⟨blk_keep HX1.out hs.2.2 HG.out.1⟩
   clear hs HA1 HX1 l0
   obtain ⟨k0, hk0⟩ : ∃ k0, k0 = (nxt T e p).f0 := ⟨_, rfl⟩
   have h3 := r_kind (T := T) (e := e) p HA2.out.i HA2.out.b
   rw [← hk0] at h3
   have H3 := Aside0.mk h3
   have HK0 := Aside0.mk hk0
   clear h3 hk0
   go_wp2_with fail
   refine H3.out.mono ?_
   rintro ed w3 ⟨rfl, hs⟩
   dsimp only
   have HA3 := Aside0.mk (HA2.out.step hs)
   have HX3 : Aside0 (w3.heap[gr]? = some (.cells #[.int .i64 0, .string ⟨#[]⟩, .string ⟨#[]⟩, .slice none 0 0] 39 (0, 0))) := ⟨blk_keep HX2.out hs.2.2 HG.out.1⟩
   clear hs HA2 HX2 H3
   by_cases hk0 : k0 = 3
   ·have l3 : (k0 == (3 : Int)) = true := by simp [hk0]
    have HR : Aside0 (R = .error (2, (nxt T e p).f1)) := ⟨by rw [HR0.out]; exact not_deep0 (.inr (by rw [← HK0.out]; exact hk0))⟩
    clear hk0
    exact sc_deep
   ·exact sAt8_0
 | succ n ih =>
  intro hn p W h hB
  have HT := Aside0.mk hT
  have HS := Aside0.mk hS
  obtain ⟨gr, hgr⟩ : ∃ gr, gr = W.heap.size := ⟨_, rfl⟩
  have HA1 : Aside0 (At w0 W (W.alloc (.cells #[.int .i64 0, .string ⟨#[]⟩, .string ⟨#[]⟩, .slice none 0 0] 39)) g T (p : Int) e 0 0) := ⟨(At.start h hB).alloc _⟩
  have HX1 : Aside0 ((W.alloc (.cells #[.int .i64 0, .string ⟨#[]⟩, .string ⟨#[]⟩, .slice none 0 0] 39)).heap[gr]? = some (.cells #[.int .i64 0, .string ⟨#[]⟩, .string ⟨#[]⟩, .slice none 0 0] 39 (0, 0))) := ⟨by rw [hgr]; exact blk_new _ _⟩
  have HG : Aside0 (gr ≠ g ∧ w0.heap.size ≤ gr ∧ W.heap.size = gr ∧ g < gr) := ⟨by have := IsS66.lt h; have := hB.size; omega⟩
  obtain ⟨R, hR⟩ : ∃ R, R = notN T e (n + 1) p := ⟨_, rfl⟩
  rw [← hR]
  have HR0 := Aside0.mk hR
  obtain ⟨w1, hw1⟩ : ∃ w1, w1 = W.alloc (.cells #[.int .i64 0, .string ⟨#[]⟩, .string ⟨#[]⟩, .slice none 0 0] 39) := ⟨_, rfl⟩
  rw [← hw1] at HA1 HX1
  have HW1 := Aside0.mk hw1
  have HGR := Aside0.mk hgr
  have l0 : ((0 : Int) != 0) = false := by decide
  clear hR h hB hw1 hgr
  have hd0 : ¬ (30 : Int) ≤ 30 - ((n + 1 : Nat) : Int) := by omega
  obtain ⟨d, hd⟩ : ∃ d : Int, d = 30 - ((n + 1 : Nat) : Int) := ⟨_, rfl⟩
  have hd2 : d + 1 = 30 - (n : Int) := by omega
  have l2 : decide ((30 : Int) ≤ d) = false := decide_eq_false (by rw [hd]; exact hd0)
  have hdl : 0 ≤ d ∧ d ≤ 30 := by omega
  rw [← hd]
  have HD2 := Aside0.mk hd2
  have HIH := Aside0.mk (ih (by omega))
  have hdl1 := hdl.1
  have hdl2 := hdl.2
  clear ih hd hd0 hd2 hdl hn
  cases hif : isP T e [wNot] p with
  | true =>
   have HIF := Aside0.mk hif
   have HR : Aside0 (R = wrapNot (notN T e n (p + 1))) := ⟨by rw [HR0.out]; exact not_yes HIF.out⟩
   clear hif
   go_enter Tryd.func57, Tryd.ntmps57
   go_upto_region 1 with (fail)
   rw [← HW1.out, ← HGR.out]
   clear HW1 HGR
   go_wp2_with fail
   refine (bad_quiet w0 _ g T _ _ 0 0 false l0 HA1.out.i).mono ?_
   rintro ed w' ⟨rfl, hww⟩
   obtain rfl := hww.symm
   clear hww
   dsimp only
   go_wp2_with fail
   refine (r_is wNot p HA1.out.i HA1.out.b _ HIF.out).mono ?_
   rintro ed w2 ⟨rfl, hs⟩
   dsimp only
   have HA2 := Aside0.mk (HA1.out.step hs)
   have HX2 : Aside0 (w2.heap[gr]? = some (.cells #[.int .i64 0, .string ⟨#[]⟩, .string ⟨#[]⟩, .slice none 0 0] 39 (0, 0))) := ⟨blk_keep HX1.out hs.2.2 HG.out.1⟩
   clear hs HA1 HX1 l0
   have HA3 := HA2
   have HX3 := HX2
   clear HA2 HX2
   go_wp2_with fail
   refine (r_take1 (T := T) (e := e) wNot p HT.out HA3.out.i HA3.out.b HIF.out).mono ?_
   rintro ed w4 ⟨rfl, hs⟩
   dsimp only
   have HA4 := Aside0.mk (HA3.out.step hs)
   have HX4 : Aside0 (w4.heap[gr]? = some (.cells #[.int .i64 0, .string ⟨#[]⟩, .string ⟨#[]⟩, .slice none 0 0] 39 (0, 0))) := ⟨blk_keep HX3.out hs.2.2 HG.out.1⟩
   have h6 := HIH.out (p + 1) w4 HA4.out.i HA4.out.b
   rw [← HD2.out] at h6
   have H6 := Aside0.mk h6
   clear hs h6 HA3 HX3
   go_wp2_with fail
   refine H6.out.mono ?_
   rintro ed w6 ⟨s6, i6, c6, a6, v6, hq6, rfl, hv6, hs6⟩
   unfold cdcells
   dsimp only
   have HA6 := Aside0.mk ((HA4.out.step hs6).alloc (.cells #[.int .i64 s6.f0, .string s6.f1.f0, .string s6.f1.f1, v6] 39))
   have HX6 : Aside0 (w6.heap[gr]? = some (.cells #[.int .i64 0, .string ⟨#[]⟩, .string ⟨#[]⟩, .slice none 0 0] 39 (0, 0))) := ⟨blk_keep HX4.out hs6.2.2 HG.out.1⟩
   have HF6 : Aside0 (Kd.FK k39 w6 (fun k => gr < k) s6 [.int .i64 s6.f0, .string s6.f1.f0, .string s6.f1.f1, v6]) := ⟨cd_mkF (Kd.V_lower (Kd.V_mono hv6 (fun k hk => by have := blk_lt HX4.out; omega)) (Nat.zero_le _))⟩
   have HN6 : Aside0 (Kd.N k39 39 (w6.alloc (.cells #[.int .i64 s6.f0, .string s6.f1.f0, .string s6.f1.f1, v6] 39)) w0.heap.size (fun k => gr < k) (.slice (some ⟨w6.heap.size, 0, none⟩) 1 1) [s6]) := ⟨row_oneN w6 w0.heap.size s6 v6 _ _ HF6.out (fun _ hk => hk) (blk_lt HX6.out) (HA4.out.step hs6).b.size⟩
   have HX7 : Aside0 ((w6.alloc (.cells #[.int .i64 s6.f0, .string s6.f1.f0, .string s6.f1.f1, v6] 39)).heap[gr]? = some (.cells #[.int .i64 0, .string ⟨#[]⟩, .string ⟨#[]⟩, .slice none 0 0] 39 (0, 0))) := ⟨blk_alloc HX6.out _⟩
   have HV6 := Aside0.mk (Kd.N_V (base' := 0) HN6.out)
   have HQ6 : Aside0 (CdQ R (cond0 4 [s6]) i6 c6 a6) := ⟨by rw [HR.out]; exact wrap_cd hq6⟩
   clear hq6 hv6 hs6 HA4 HX4 H6 HX6 HF6 HN6
   go_wp2_with (refine wpList_store_row rfl 39 _ _ rfl gr (cdcells (cond0 4 [s6]) (.slice (some ⟨w6.heap.size, 0, none⟩) 1 1)) rfl rfl 39 _ HX7.out size_cd rfl (cd_one _ _ rfl) ?_)
   exact bodyPost_ret (cond_ret rfl rfl (setRow_heap _ _ _ _ _ _ HX7.out)) rfl ⟨cond0 4 [s6], i6, c6, a6, _, HQ6.out, rfl, V_out HV6.out HG.out.2.2.1 _, (HA6.out.setRow HG.out.1 HG.out.2.1 (Nat.le_of_eq HG.out.2.2.1) _).to⟩
  | false =>
   have HIF := Aside0.mk hif
   clear hif
   go_enter Tryd.func57, Tryd.ntmps57
   go_upto_region 1 with (fail)
   rw [← HW1.out, ← HGR.out]
   clear HW1 HGR
   go_wp2_with fail
   refine (bad_quiet w0 _ g T _ _ 0 0 false l0 HA1.out.i).mono ?_
   rintro ed w' ⟨rfl, hww⟩
   obtain rfl := hww.symm
   clear hww
   dsimp only
   go_wp2_with fail
   refine (r_is wNot p HA1.out.i HA1.out.b _ HIF.out).mono ?_
   rintro ed w2 ⟨rfl, hs⟩
   dsimp only
   have HA2 := Aside0.mk (HA1.out.step hs)
   have HX2 : Aside0 (w2.heap[gr]? = some (.cells #[.int .i64 0, .string ⟨#[]⟩, .string ⟨#[]⟩, .slice none 0 0] 39 (0, 0))) := ⟨blk_keep HX1.out hs.2.2 HG.out.1⟩
   clear hs HA1 HX1 l0
   obtain ⟨k0, hk0⟩ : ∃ k0, k0 = (nxt T e p).f0 := ⟨_, rfl⟩
   have h3 := r_kind (T := T) (e := e) p HA2.out.i HA2.out.b
   rw [← hk0] at h3
   have H3 := Aside0.mk h3
   have HK0 := Aside0.mk hk0
   clear h3 hk0
   go_wp2_with fail
   refine H3.out.mono ?_
   rintro ed w3 ⟨rfl, hs⟩
   dsimp only
   have HA3 := Aside0.mk (HA2.out.step hs)
   have HX3 : Aside0 (w3.heap[gr]? = some (.cells #[.int .i64 0, .string ⟨#[]⟩, .string ⟨#[]⟩, .slice none 0 0] 39 (0, 0))) := ⟨blk_keep HX2.out hs.2.2 HG.out.1⟩
   clear hs HA2 HX2 H3
   by_cases hk0 : k0 = 3
   ·have l3 : (k0 == (3 : Int)) = true := by simp [hk0]
    have HR : Aside0 (R = closeP T e (orP T e (notN T e n) (p + 1))) := ⟨by rw [HR0.out]; exact not_open HIF.out (by rw [← HK0.out]; exact hk0)⟩
    have HPT : Aside0 (p < T.length) := ⟨by
     apply Classical.byContradiction
     intro hn
     have h2 := HK0.out
     rw [nxt, dif_neg hn] at h2
     have h3 : k0 = 0 := h2
     rw [h3] at hk0
     exact absurd hk0 (by decide)⟩
    have hjb : (p : Int) ≤ 1000000 := by have := HT.out; have := HPT.out; omega
    clear hk0
    go_wp2_with fail
    refine (r_take0 (T := T) (e := e) wNot p HT.out HA3.out.i HA3.out.b HIF.out).mono ?_
    rintro ed w4 ⟨rfl, hs⟩
    dsimp only
    have HA4 := Aside0.mk (HA3.out.step hs)
    have HX4 : Aside0 (w4.heap[gr]? = some (.cells #[.int .i64 0, .string ⟨#[]⟩, .string ⟨#[]⟩, .slice none 0 0] 39 (0, 0))) := ⟨blk_keep HX3.out hs.2.2 HG.out.1⟩
    have h5 := r_kind (T := T) (e := e) p HA4.out.i HA4.out.b
    rw [← HK0.out] at h5
    have H5 := Aside0.mk h5
    clear hs h5 HA3 HX3
    go_wp2_with fail
    refine H5.out.mono ?_
    rintro ed w5 ⟨rfl, hs⟩
    dsimp only
    have HA5 := Aside0.mk (HA4.out.step hs)
    have HX5 : Aside0 (w5.heap[gr]? = some (.cells #[.int .i64 0, .string ⟨#[]⟩, .string ⟨#[]⟩, .slice none 0 0] 39 (0, 0))) := ⟨blk_keep HX4.out hs.2.2 HG.out.1⟩
    clear hs HA4 HX4 H5
    obtain ⟨A8, c8, hb8, _, _⟩ := HA5.out.i
    have t1 : w5.cell? ⟨g, 1, none⟩ = some (.int .i64 (p : Int)) := cellS66_1 hb8
    have f1 := blk_frozen hb8 1
    clear hb8
    go_upto_region 11 with (fail)
    obtain ⟨w6, hw6⟩ : ∃ w6, w6 = w5.setCell ⟨g, 1, none⟩ (.int .i64 ((p : Int) + 1)) := ⟨_, rfl⟩
    rw [← hw6]
    have HA6 : Aside0 (At w0 W w6 g T ((p + 1 : Nat) : Int) e 0 0) := ⟨by rw [hw6]; exact HA5.out.next⟩
    have HX6 : Aside0 (w6.heap[gr]? = some (.cells #[.int .i64 0, .string ⟨#[]⟩, .string ⟨#[]⟩, .slice none 0 0] 39 (0, 0))) := ⟨by rw [hw6]; exact blk_next HX5.out HG.out.1⟩
    clear hw6 t1 f1 HA5 HX5
    have h7 := ror_calls w0 w6 g T e (30 - (n : Int)) HT.out (one := kidsP T e 5 wAnd (notN T e n)) (fun q W2 hi2 hb2 => rand_calls w0 W2 g T e (30 - (n : Int)) HT.out (fun q3 W3 hi3 hb3 => HIH.out q3 W3 hi3 hb3) (fun q c r h => notN_mono T e n q c r h) q hi2 hb2) (kidsP_mono (notN_mono T e n)) (p + 1) HA6.out.i HA6.out.b
    rw [← HD2.out] at h7
    have H7 := Aside0.mk h7
    clear h7
    go_wp2_with fail
    refine H7.out.mono ?_
    rintro ed w7 ⟨s7, i7, c7, a7, v7, hq7, rfl, hv7, hs7⟩
    unfold cdcells
    dsimp only
    have HA7 := Aside0.mk (HA6.out.step hs7)
    have HX7 : Aside0 (w7.heap[gr]? = some (.cells #[.int .i64 0, .string ⟨#[]⟩, .string ⟨#[]⟩, .slice none 0 0] 39 (0, 0))) := ⟨blk_keep HX6.out hs7.2.2 HG.out.1⟩
    have HV7 : Aside0 (Kd.V k39 39 w7 0 (fun k => gr < k ∧ k < w7.heap.size) v7 s7.f2) := ⟨Kd.V_bound (Kd.V_lower (Kd.V_mono hv7 (fun k hk => by have := blk_lt HX6.out; omega)) (Nat.zero_le _))⟩
    have HQ7 : Aside0 (CdQ (orP T e (notN T e n) (p + 1)) s7 i7 c7 a7) := ⟨hq7⟩
    obtain ⟨gc, hgc⟩ : ∃ gc, gc = w7.heap.size := ⟨_, rfl⟩
    clear hq7 hv7 hs7 HA6 HX6 H7
    go_upto_region 12 with (refine wpList_store_row rfl 39 _ _ rfl w7.heap.size (cdcells s7 v7) rfl rfl 39 #[.int .i64 0, .string ⟨#[]⟩, .string ⟨#[]⟩, .slice none 0 0] (blk_new _ _) size_cd rfl (cd_one _ _ (V_cell1 HV7.out)) ?_)
    obtain ⟨w8, hw8⟩ : ∃ w8, w8 = (w7.alloc (.cells #[.int .i64 0, .string ⟨#[]⟩, .string ⟨#[]⟩, .slice none 0 0] 39)).setRow w7.heap.size (cdcells s7 v7) := ⟨_, rfl⟩
    rw [← hw8, ← hgc]
    have HGC : Aside0 (gc ≠ g ∧ w0.heap.size ≤ gc ∧ W.heap.size ≤ gc ∧ gr < gc) := ⟨by have := HG.out; have := blk_lt HX7.out; omega⟩
    have HA8 : Aside0 (At w0 W w8 g T i7 e c7 a7) := ⟨by rw [hw8, ← hgc]; exact (HA7.out.alloc _).setRow HGC.out.1 HGC.out.2.1 HGC.out.2.2.1 _⟩
    have HX8 : Aside0 (w8.heap[gr]? = some (.cells #[.int .i64 0, .string ⟨#[]⟩, .string ⟨#[]⟩, .slice none 0 0] 39 (0, 0))) := ⟨by rw [hw8]; exact (setRow_other _ _ _ _ (by have := HGC.out; omega)).trans (blk_alloc HX7.out _)⟩
    have HY8 : Aside0 (w8.heap[gc]? = some (.cells (cdcells s7 v7) 39 (0, 0))) := ⟨by rw [hw8, hgc]; exact setRow_heap _ _ _ _ _ _ (blk_new w7 (.cells #[.int .i64 0, .string ⟨#[]⟩, .string ⟨#[]⟩, .slice none 0 0] 39))⟩
    have HV8 : Aside0 (Kd.V k39 39 w8 0 (fun k => gr < k ∧ k < gc) v7 s7.f2) := ⟨by rw [hw8]; exact Kd.V_mono (Kd.V_kept (Kd.V_alloc HV7.out _) (kept_setRow _ _ _) (fun k hk he => by omega)) (fun k hk => by omega)⟩
    clear hw8 hgc HA7 HX7 HV7
    obtain ⟨t9, i9, c9, a9, hq9, hc9⟩ := r_close (w := w8) HQ7.out HT.out HA8.out.i HA8.out.b
    have HQ9 : Aside0 (CdQ R s7 i9 c9 a9) := ⟨by rw [HR.out]; exact hq9⟩
    have HC9 := Aside0.mk hc9
    clear hq9 hc9 HQ7
    go_wp2_with fail
    refine HC9.out.mono ?_
    rintro ed w9 ⟨rfl, hs9⟩
    dsimp only
    have HA9 := Aside0.mk (HA8.out.step hs9)
    have HX9 : Aside0 (w9.heap[gr]? = some (.cells #[.int .i64 0, .string ⟨#[]⟩, .string ⟨#[]⟩, .slice none 0 0] 39 (0, 0))) := ⟨blk_keep HX8.out hs9.2.2 HG.out.1⟩
    have HY9 : Aside0 (w9.heap[gc]? = some (.cells (cdcells s7 v7) 39 (0, 0))) := ⟨blk_keep HY8.out hs9.2.2 HGC.out.1⟩
    have HV9 : Aside0 (Kd.V k39 39 w9 0 (fun k => gr < k) v7 s7.f2) := ⟨Kd.V_mono (Kd.V_keep HV8.out hs9.2.2 (fun k hk => by have := HG.out; omega)) (fun k hk => hk.1)⟩
    clear hs9 HA8 HX8 HY8 HV8 HC9
    go_wp2_with (first | refine wpList_load_row rfl 39 _ rfl gc rfl 39 (cdcells s7 v7) (0, 0) _ HY9.out Tryd.underlying39 rfl size_cd ?_ | refine wpList_store_row rfl 39 _ _ rfl gr (cdcells s7 v7) rfl rfl 39 _ HX9.out size_cd rfl (cd_one _ _ (V_cell1 HV9.out)) ?_)
    exact bodyPost_ret (cond_ret rfl rfl (setRow_heap _ _ _ _ _ _ HX9.out)) rfl ⟨s7, i9, c9, a9, v7, HQ9.out, rfl, V_out HV9.out HG.out.2.2.1 _, (HA9.out.setRow HG.out.1 HG.out.2.1 (Nat.le_of_eq HG.out.2.2.1) _).to⟩
   ·exact sAt8_0
theorem rcond_calls (w0 W : World) (g : Nat) (T : List Tk) (e : Int) (hT : T.length ≤ 1000000) (hS : ∀ t ∈ T, t.f2.size ≤ 1000000) (p : Nat) (h : IsR w0 W g T (p : Int) e 0 0) (hB : Below w0.heap.size w0 W) :
  Calls Tryd.prog 31 #[.pointer (some ⟨g, 0, none⟩), .int .i64 0] W (CondQ w0 W g T e (condP T e p)) :=
 ror_calls w0 W g T e 0 hT (one := kidsP T e 5 wAnd (notN T e 30)) (fun q W2 hi2 hb2 => rand_calls w0 W2 g T e 0 hT (fun q3 W3 hi3 hb3 => rnot_calls w0 g T e hT hS 30 (Nat.le_refl _) q3 W3 hi3 hb3) (notN_mono T e 30) q hi2 hb2) (kidsP_mono (notN_mono T e 30)) p h hB
end Go.Proofs.YtdlahgamdigkhaaDoor.Pu
namespace Go.Proofs.YtdlahgamdigkhaaDoor.Pu
open Go.RowKit Go.Proofs.YtdlahgamdigkhaaDoor.Pr Go.Proofs.YtdlahgamdigkhaaDoorW.PrintWords Go.Proofs.YtdlahgamdigkhaaDoorW.PrintLast Go.Proofs.YtdlahgamdigkhaaDoorW.PrintMore Go.Proofs.YtdlahgamdigkhaaDoor.Lx
open Go.Proofs.YtdlahgamdigkhaaDoor.Ps hiding Tk
structure ShS (w0 w : World) (gs : Nat) (s : Sh) (vM vH : Value) : Prop where
 blk : w.heap[gs]? = some (.cells #[.string s.f0, vM, vH, .bool s.f3] 47 (0, 0))
 rM : Kd.string.R 9 w w0.heap.size (fun k => gs < k) vM s.f1
 rH : Kd.string.R 9 w w0.heap.size (fun k => gs < k) vH s.f2
 d : ∀ k, vM.ownBlock = some k → vH.ownBlock ≠ some k
theorem ShS.keep {w0 w w' : World} {gs g : Nat} {s : Sh} {vM vH : Value} (h : ShS w0 w gs s vM vH) (hk : KeepBut w w' g none) (hg : g < gs) : ShS w0 w' gs s vM vH :=
 ⟨blk_keep h.blk hk (by omega), Kd.R_keep h.rM hk (fun k ho => by omega), Kd.R_keep h.rH hk (fun k ho => by omega), h.d⟩
theorem At.set {w0 W w : World} {g gr : Nat} {T : List Tk} {i e c a : Int} (h : At w0 W w g T i e c a) (hg : gr ≠ g) (h0 : w0.heap.size ≤ gr) (hW : W.heap.size ≤ gr) (j : Nat) (v : Value) : At w0 W (w.setCell ⟨gr, j, none⟩ v) g T i e c a := by
 refine ⟨IsS66.far h.i (p := ⟨gr, j, none⟩) (Ne.symm hg) _, h.b.setCell (p := ⟨gr, j, none⟩) h0 _, by rw [World.size_setCell]; exact h.k.1, fun k hk hne hr => ?_⟩
 exact (Below.heap_setCell w ⟨gr, j, none⟩ v k (by show k ≠ gr; omega)).trans (h.k.2 k hk hne hr)
theorem ShS.meth {w0 w w9 : World} {gs : Nat} {s : Sh} {vM vH v9 : Value} {t : ByteArray} (h : ShS w0 w gs s vM vH) (hO : Kd.string.R 9 w9 w0.heap.size (fun k => gs < k) v9 (s.f1 ++ [t])) (hG : w.grownBy w9 vM.ownBlock) (hat : v9.ownBlock = vM.ownBlock ∨ ∃ k, v9.ownBlock = some k ∧ w.heap.size ≤ k) :
  ShS w0 (w9.setCell ⟨gs, 1, none⟩ v9) gs ⟨s.f0, s.f1 ++ [t], s.f2, s.f3⟩ v9 vH := by
 have h9 : w9.heap[gs]? = some (.cells #[.string s.f0, vM, vH, .bool s.f3] 47 (0, 0)) := blk_grown h.blk hG (fun he => Nat.lt_irrefl _ (h.rM.1 gs he.symm))
 refine ⟨blk_set h9 1 _, Kd.R_far hO (p := ⟨gs, 1, none⟩) (fun k hk (he : k = gs) => by omega) _, Kd.R_far (Kd.R_mono (Kd.R_grown (Kd.R_tight2 rfl h.rH) hG (fun k hk he => h.d k he.symm (hk.1.symm))) (fun k hk => hk.2)) (p := ⟨gs, 1, none⟩) (fun k hk (he : k = gs) => by omega) _, fun k hk hh => ?_⟩
 rcases hat with h1 | ⟨k2, h1, h2⟩
 ·exact h.d k (h1.symm.trans hk) hh
 ·rw [h1] at hk; cases hk; have := Kd.R_lt h.rH _ hh; omega
theorem ShS.head {w0 w w9 : World} {gs : Nat} {s : Sh} {vM vH v9 : Value} {t : ByteArray} (h : ShS w0 w gs s vM vH) (hO : Kd.string.R 9 w9 w0.heap.size (fun k => gs < k) v9 (s.f2 ++ [t])) (hG : w.grownBy w9 vH.ownBlock) (hat : v9.ownBlock = vH.ownBlock ∨ ∃ k, v9.ownBlock = some k ∧ w.heap.size ≤ k) :
  ShS w0 (w9.setCell ⟨gs, 2, none⟩ v9) gs ⟨s.f0, s.f1, s.f2 ++ [t], s.f3⟩ vM v9 := by
 have h9 : w9.heap[gs]? = some (.cells #[.string s.f0, vM, vH, .bool s.f3] 47 (0, 0)) := blk_grown h.blk hG (fun he => Nat.lt_irrefl _ (h.rH.1 gs he.symm))
 refine ⟨blk_set h9 2 _, Kd.R_far (Kd.R_mono (Kd.R_grown (Kd.R_tight2 rfl h.rM) hG (fun k hk he => h.d k hk.1.symm he.symm)) (fun k hk => hk.2)) (p := ⟨gs, 2, none⟩) (fun k hk (he : k = gs) => by omega) _, Kd.R_far hO (p := ⟨gs, 2, none⟩) (fun k hk (he : k = gs) => by omega) _, fun k hk hh => ?_⟩
 rcases hat with h1 | ⟨k2, h1, h2⟩
 ·exact h.d k hk (h1.symm.trans hh)
 ·rw [h1] at hh; cases hh; have := Kd.R_lt h.rM _ hk; omega
def SSit (T : List Tk) (e : Int) (R : Res Sh) (gk : Nat) (s : Sh) (i c a : Int) : Prop :=
 (c ≠ 0 ∧ 0 ≤ i ∧ R = .error (c, a)) ∨ ∃ (f q : Nat), i = (q : Int) ∧ c = 0 ∧ a = 0 ∧ R = shareL T e f s q ∧ T.length + 1 ≤ f + q ∧ T.length - q + 1 ≤ gk ∧ s.f1.length ≤ q ∧ s.f2.length ≤ q
section
variable {T : List Tk} {e : Int} {R : Res Sh} {f q : Nat} {s : Sh} {t : ByteArray} {i c a : Int}
theorem sit_meth (hQ : NxQ (takeP T e 1 (q + 1)) t i c a) (hR : R = shareM T e f s (takeP T e 1 (q + 1))) (hf : T.length ≤ f + q) (h1 : s.f1.length ≤ q) (h2 : s.f2.length ≤ q) (hq : q < T.length) : SSit T e R (T.length - q) ⟨s.f0, s.f1 ++ [t], s.f2, s.f3⟩ i c a := by
 cases ht : takeP T e 1 (q + 1) with
 | error x => obtain ⟨x, y⟩ := x; rw [ht] at hQ hR; obtain ⟨hx, hi, rfl, rfl, _⟩ := hQ; exact .inl ⟨hx, hi, hR⟩
 | ok x =>
  obtain ⟨t', q2⟩ := x
  rw [ht] at hQ hR
  obtain ⟨rfl, rfl, rfl, rfl⟩ := hQ
  have := takeP_mono ht
  exact .inr ⟨f, q2, rfl, rfl, rfl, hR, by omega, by omega, by show (s.f1 ++ [t]).length ≤ q2; rw [List.length_append, List.length_singleton]; omega, by show s.f2.length ≤ q2; omega⟩
theorem sit_head (hQ : NxQ (takeP T e 1 (q + 1)) t i c a) (hR : R = shareH T e f s (takeP T e 1 (q + 1))) (hf : T.length ≤ f + q) (h1 : s.f1.length ≤ q) (h2 : s.f2.length ≤ q) (hq : q < T.length) : SSit T e R (T.length - q) ⟨s.f0, s.f1, s.f2 ++ [t], s.f3⟩ i c a := by
 cases ht : takeP T e 1 (q + 1) with
 | error x => obtain ⟨x, y⟩ := x; rw [ht] at hQ hR; obtain ⟨hx, hi, rfl, rfl, _⟩ := hQ; exact .inl ⟨hx, hi, hR⟩
 | ok x =>
  obtain ⟨t', q2⟩ := x
  rw [ht] at hQ hR
  obtain ⟨rfl, rfl, rfl, rfl⟩ := hQ
  have := takeP_mono ht
  exact .inr ⟨f, q2, rfl, rfl, rfl, hR, by omega, by omega, by show s.f1.length ≤ q2; omega, by show (s.f2 ++ [t]).length ≤ q2; rw [List.length_append, List.length_singleton]; omega⟩
theorem share_first {p : Nat} (hQ : NxQ (takeP T e 2 p) t i c a) (hR : R = shareP T e p) : SSit T e R (T.length + 1) ⟨t, [], [], false⟩ i c a := by
 rw [shareP] at hR
 cases ht : takeP T e 2 p with
 | error x => obtain ⟨x, y⟩ := x; rw [ht] at hQ hR; obtain ⟨hx, hi, rfl, rfl, _⟩ := hQ; exact .inl ⟨hx, hi, hR⟩
 | ok x =>
  obtain ⟨t', q2⟩ := x
  rw [ht] at hQ hR
  obtain ⟨rfl, rfl, rfl, rfl⟩ := hQ
  exact .inr ⟨T.length + 1 - q2, q2, rfl, rfl, rfl, hR, by omega, by omega, Nat.zero_le _, Nat.zero_le _⟩
theorem share_word {w : ByteArray} (h : isP T e [w] q = true) (hw : memB w [wMethod, wHeader, wCreds] = true) : shareL T e (f + 1) s q = shareK T e f s (.ok (w, q + 1)) := by
 obtain ⟨h1, h2⟩ := one_word h
 rw [shareL_succ _ _ _ _ _ (show true = isP T e [wMethod, wHeader, wCreds] q by rw [isP, h1, h2, hw]; rfl), takeP, if_pos h1, h2]
theorem share_none (h0 : isP T e [wMethod] q = false) (h1 : isP T e [wHeader] q = false) (h2 : isP T e [wCreds] q = false) : ∀ f, shareL T e f s q = .ok (s, q)
 | 0 => rfl
 | f + 1 => by rw [shareL, isP_cons, isP_cons wHeader, h0, h1, h2]; rfl
end
theorem own_none {v : Value} {gs W : Nat} (h : ∀ k, v.ownBlock = some k → gs < k) (hW : W ≤ gs) : v.ownBlock = none ∨ ∃ b, v.ownBlock = some b ∧ W ≤ b := by
 cases hv : v.ownBlock with
 | none => exact .inl rfl
 | some b => exact .inr ⟨b, rfl, by have := h b hv; omega⟩
def ShareR (w0 w : World) (g : Nat) (T : List Tk) (e : Int) (r : Res Sh) (ed : Ending) (w' : World) : Prop :=
 ∃ (s : Sh) (i c a : Int) (v1 v2 : Value), ShQ r s i c a ∧ ed = .returned (.agg #[.string s.f0, v1, v2, .bool s.f3]) ∧ Kd.string.R 9 w' w0.heap.size (fun k => w.heap.size ≤ k) v1 s.f1 ∧ Kd.string.R 9 w' w0.heap.size (fun k => w.heap.size ≤ k) v2 s.f2 ∧ Step w0 w g T i e c a w'
set_option maxHeartbeats 16000000
set_option maxRecDepth 100000
theorem sh_one {vM vH : Value} (h : vM.oneCell' = true ∧ vH.oneCell' = true) (o : ByteArray) (b : Bool) : (#[.string o, vM, vH, .bool b] : Array Value).all (·.oneCell') = true := by
 rw [← Array.all_toList]
 show ((Value.string o).oneCell' && (vM.oneCell' && (vH.oneCell' && ((Value.bool b).oneCell' && true)))) = true
 rw [h.1, h.2]; rfl
theorem sc_share {p_ : Prop} (h_ : p_ := by
 obtain ⟨AM, nM, eM⟩ := Kd.R_slice HSS.out.rM
 obtain ⟨AH, nH, eH⟩ := Kd.R_slice HSS.out.rH
 have HCC : Aside0 (vM.oneCell' = true ∧ vH.oneCell' = true) := ⟨by rw [eM, eH]; exact ⟨rfl, rfl⟩⟩
 clear eM eH
 go_wp2_with (first | refine wpList_load_row rfl 47 _ rfl gs rfl 47 #[.string s.f0, vM, vH, .bool s.f3] (0, 0) _ HSS.out.blk Tryd.underlying47 rfl size_sh ?_ | refine wpList_store_row rfl 47 _ _ rfl gr #[.string s.f0, vM, vH, .bool s.f3] rfl rfl 47 _ HXX.out size_sh rfl (sh_one HCC.out _ _) ?_)
 exact bodyPost_ret (ret_row rfl _ _ gr 47 #[.string s.f0, vM, vH, .bool s.f3] (0, 0) rfl (setRow_heap _ _ _ _ _ _ HXX.out) Tryd.underlying47 size_sh) rfl ⟨s, _, _, _, vM, vH, HQQ.out, rfl, Kd.R_mono (Kd.R_kept HSS.out.rM (kept_setRow _ gr _) (fun k hk he => by have := HGS.out; omega)) (fun k hk => by have := HGS.out; omega), Kd.R_mono (Kd.R_kept HSS.out.rH (kept_setRow _ gr _) (fun k hk he => by have := HGS.out; omega)) (fun k hk => by have := HGS.out; omega), (HAA.out.setRow HG.out.1 HG.out.2.1 (Nat.le_of_eq HG.out.2.2.1) _).to⟩) : p_ := h_
theorem rshare_calls (w0 W : World) (g : Nat) (T : List Tk) (e : Int) (p : Nat) (h : IsR w0 W g T (p : Int) e 0 0) (hB : Below w0.heap.size w0 W) (hT : T.length ≤ 1000000) :
  Calls Tryd.prog 29 #[.pointer (some ⟨g, 0, none⟩)] W (ShareR w0 W g T e (shareP T e p)) := by
 have HT := Aside0.mk hT
 obtain ⟨gr, hgr⟩ : ∃ gr, gr = W.heap.size := ⟨_, rfl⟩
 have HA1 : Aside0 (At w0 W (W.alloc (.cells #[.string ⟨#[]⟩, .slice none 0 0, .slice none 0 0, .bool false] 47)) g T (p : Int) e 0 0) := ⟨(At.start h hB).alloc _⟩
 have HX1 : Aside0 ((W.alloc (.cells #[.string ⟨#[]⟩, .slice none 0 0, .slice none 0 0, .bool false] 47)).heap[gr]? = some (.cells #[.string ⟨#[]⟩, .slice none 0 0, .slice none 0 0, .bool false] 47 (0, 0))) := ⟨by rw [hgr]; exact blk_new _ _⟩
 have HG : Aside0 (gr ≠ g ∧ w0.heap.size ≤ gr ∧ W.heap.size = gr ∧ g < gr) := ⟨by have := IsS66.lt h; have := hB.size; omega⟩
 obtain ⟨R, hR⟩ : ∃ R, R = shareP T e p := ⟨_, rfl⟩
 rw [← hR]
 have HR0 := Aside0.mk hR
 clear hR h hB hT
 go_enter Tryd.func29, Tryd.ntmps29
 go_upto_region 1 with (fail)
 obtain ⟨w1, hw1⟩ : ∃ w1, w1 = W.alloc (.cells #[.string ⟨#[]⟩, .slice none 0 0, .slice none 0 0, .bool false] 47) := ⟨_, rfl⟩
 rw [← hw1] at HA1 HX1
 rw [← hw1, ← hgr]
 clear hw1 hgr
 obtain ⟨t, i2, c2, a2, hQ, hC⟩ := r_next (w0 := w0) (w := w1) (g := g) (T := T) (e := e) 2 p (by decide) HT.out HA1.out.i HA1.out.b
 have HQ := Aside0.mk hQ
 have HC := Aside0.mk hC
 clear hQ hC
 go_wp2_with fail
 refine HC.out.mono ?_
 rintro ed w2 ⟨rfl, hs⟩
 dsimp only
 have HA2 := Aside0.mk (HA1.out.step hs)
 have HX2 : Aside0 (w2.heap[gr]? = some (.cells #[.string ⟨#[]⟩, .slice none 0 0, .slice none 0 0, .bool false] 47 (0, 0))) := ⟨blk_keep HX1.out hs.2.2 HG.out.1⟩
 clear hs HC HA1 HX1
 obtain ⟨gs, hgs⟩ : ∃ gs, gs = w2.heap.size := ⟨_, rfl⟩
 go_wp2_with (refine wpList_store_row rfl 47 _ _ rfl w2.heap.size #[.string t, .slice none 0 0, .slice none 0 0, .bool false] rfl rfl 47 #[.string ⟨#[]⟩, .slice none 0 0, .slice none 0 0, .bool false] (blk_new _ _) size_sh rfl (by simp [Value.oneCell']) ?_)
 obtain ⟨w3, hw3⟩ : ∃ w3, w3 = (w2.alloc (.cells #[.string ⟨#[]⟩, .slice none 0 0, .slice none 0 0, .bool false] 47)).setRow w2.heap.size #[.string t, .slice none 0 0, .slice none 0 0, .bool false] := ⟨_, rfl⟩
 rw [← hw3, ← hgs]
 have HGS : Aside0 (gr < gs ∧ W.heap.size ≤ gs ∧ g < gs ∧ w0.heap.size ≤ gs ∧ g < gr ∧ gr = W.heap.size) := ⟨by have := HG.out; have := blk_lt HX2.out; omega⟩
 have HA3 : Aside0 (At w0 W w3 g T i2 e c2 a2) := ⟨by rw [hw3, ← hgs]; exact (HA2.out.alloc _).setRow (by have := HGS.out; omega) HGS.out.2.2.2.1 HGS.out.2.1 _⟩
 have HX3 : Aside0 (w3.heap[gr]? = some (.cells #[.string ⟨#[]⟩, .slice none 0 0, .slice none 0 0, .bool false] 47 (0, 0))) := ⟨by rw [hw3]; exact (setRow_other _ _ _ _ (by have := HGS.out; omega)).trans (blk_alloc HX2.out _)⟩
 have HS3 : Aside0 (ShS w0 w3 gs ⟨t, [], [], false⟩ (.slice none 0 0) (.slice none 0 0)) := ⟨⟨by rw [hw3, hgs]; exact setRow_heap _ _ _ _ _ _ (blk_new w2 (.cells #[.string ⟨#[]⟩, .slice none 0 0, .slice none 0 0, .bool false] 47)), Kd.R_nil _ _ _ _ _, Kd.R_nil _ _ _ _ _, fun k hk => by simp [Value.ownBlock] at hk⟩⟩
 have HK3 : Aside0 (SSit T e R (T.length + 1) ⟨t, [], [], false⟩ i2 c2 a2) := ⟨share_first HQ.out HR0.out⟩
 clear hw3 hgs HA2 HX2 HQ HR0
 have hput : ∀ (a : Act) (v : Value), a.put none v = a := fun _ _ => rfl
 rw [hput]
 clear hput
 go_loopg [] (T.length + 1) (fun gk wr => ∃ (s : Sh) (vM vH : Value) (i c a : Int), Aside0 (At w0 W wr g T i e c a) ∧ Aside0 (wr.heap[gr]? = some (.cells #[.string ⟨#[]⟩, .slice none 0 0, .slice none 0 0, .bool false] 47 (0, 0))) ∧ Aside0 (ShS w0 wr gs s vM vH) ∧ Aside0 (SSit T e R gk s i c a))
 case atStart => exact ⟨_, _, _, i2, c2, a2, HA3, HX3, HS3, HK3⟩
 case round =>
  clear HA3 HX3 HS3 HK3
  obtain ⟨s, vM, vH, i, c, a, HA, HX, HS, HK⟩ := hrel
  rcases HK.out with ⟨hc, hi, hR⟩ | ⟨f, q, rfl, rfl, rfl, hR, hf, hgk, h1, h2⟩
  ·have l0 : (c != (0 : Int)) = true := by simp [hc]
   have HQQ : Aside0 (ShQ R s i c a) := ⟨by rw [hR]; exact ⟨hc, hi, rfl, rfl⟩⟩
   clear hR hc hi HK
   go_wp2_with fail
   refine (bad_quiet w0 _ g T _ _ c a true l0 HA.out.i).mono ?_
   rintro ed w' ⟨rfl, hww⟩
   obtain rfl := hww.symm
   clear hww
   dsimp only
   have HAA := HA
   have HSS := HS
   have HXX := HX
   clear HA HS HX
   exact sc_share
  ·have l0 : ((0 : Int) != 0) = false := by decide
   have HR := Aside0.mk hR
   have HB : Aside0 (T.length + 1 ≤ f + q ∧ T.length - q + 1 ≤ gk ∧ s.f1.length ≤ q ∧ s.f2.length ≤ q) := ⟨⟨hf, hgk, h1, h2⟩⟩
   clear hR hf hgk h1 h2 HK
   go_wp2_with fail
   refine (bad_quiet w0 _ g T _ _ 0 0 false l0 HA.out.i).mono ?_
   rintro ed w' ⟨rfl, hww⟩
   obtain rfl := hww.symm
   clear hww l0
   dsimp only
   have HA3 := HA
   have HS3 := HS
   have HX3 := HX
   clear HA HS HX
   cases hif : isP T e [wMethod] q with
   | true =>
    have HIF := Aside0.mk hif
    have HQT : Aside0 (q < T.length) := ⟨isP_lt hif⟩
    obtain ⟨f', rfl⟩ : ∃ f', f = f' + 1 := ⟨f - 1, by have := HB.out; have := HQT.out; omega⟩
    replace HB : Aside0 (T.length ≤ f' + q ∧ T.length - q + 1 ≤ gk ∧ s.f1.length ≤ q ∧ s.f2.length ≤ q) := ⟨by have := HB.out; omega⟩
    have HRR : Aside0 (R = shareK T e f' s (.ok (wMethod, q + 1))) := ⟨by rw [HR.out]; exact share_word HIF.out (by decide +kernel)⟩
    clear hif HR
    go_wp2_with fail
    refine (r_take1 (T := T) (e := e) wMethod q HT.out HA3.out.i HA3.out.b HIF.out).mono ?_
    rintro ed w4 ⟨rfl, hs⟩
    dsimp only
    have HA4 := Aside0.mk (HA3.out.step hs)
    have HS4 : Aside0 (ShS w0 w4 gs s vM vH) := ⟨HS3.out.keep hs.2.2 HGS.out.2.2.1⟩
    have HX4 : Aside0 (w4.heap[gr]? = some (.cells #[.string ⟨#[]⟩, .slice none 0 0, .slice none 0 0, .bool false] 47 (0, 0))) := ⟨blk_keep HX3.out hs.2.2 HG.out.1⟩
    clear hs HA3 HS3 HX3
    replace HRR : Aside0 (R = shareM T e f' s (takeP T e 1 (q + 1))) := HRR
    have H7 := r_next (w0 := w0) (w := w4.drew) (g := g) (T := T) (e := e) 1 (q + 1) (by decide) HT.out HA4.out.i (below_drew HA4.out.b)
    obtain ⟨t, i7, c7, a7, hQ, hC⟩ := H7
    have HQ := Aside0.mk hQ
    have HC := Aside0.mk hC
    have HSD : Aside0 (ShS w0 w4.drew gs s vM vH) := ⟨HS4.out.keep (keepN 1 g) HGS.out.2.2.1⟩
    have HAD : Aside0 (At w0 W w4.drew g T ((q + 1 : Nat) : Int) e 0 0) := ⟨HA4.out.drew⟩
    have HLB : Aside0 ((s.f1.length + 1) * 16 ≤ 140737488355328) := ⟨by have := HB.out; have := HT.out; have := HQT.out; omega⟩
    have d0 : w4.drew.cell? ⟨gs, 1, none⟩ = some vM := blk_cell HSD.out.blk 1
    clear hQ hC HS4 HA4
    go_upto_region 5 with (fail)
    refine start_ (n := 8) (S := fun w' => w'.cell? ⟨gs, 1, none⟩ = some vM) (ds := [5, 7]) #[false, false, false, false, false, false, false, false] (by kernel_rfl) rfl rfl (d0) (fun hHeld => ?_)
    refine pure_ (i := 0) (N := some 14) (v := ?_) (a' := ?_) #[true, false, false, false, false, false, false, false] rfl rfl (by kernel_rfl) (fun _ _ _ h => h) (Or.inl ⟨by rfl, ?_⟩) ?_ ?_
    rotate_left
    ·intro w'
     go_simp
     with_reducible rfl
    rotate_left
    ·exact nAt8_
    refine pure_ (i := 2) (N := some 16) (v := ?_) (a' := ?_) #[true, false, true, false, false, false, false, false] rfl rfl (by kernel_rfl) (fun _ _ _ h => h) (Or.inl ⟨by rfl, ?_⟩) ?_ ?_
    rotate_left
    ·intro w'
     go_simp
     with_reducible rfl
    rotate_left
    ·exact nAt8_
    refine take_ (i := 1) (N := some 15) (v := ?_) (a' := ?_) #[true, true, true, false, false, false, false, false] rfl rfl (by kernel_rfl) (fun _ _ _ h => h) (Or.inl ⟨by rfl, ?_⟩) hHeld ?_ ?_
    rotate_left
    ·intro w' s0
     go_simp
     with_reducible rfl
    rotate_left
    ·exact nAt8_
    refine one_ (i := 3) (N := some 17) #[true, true, true, true, false, false, false, false] rfl rfl (by kernel_rfl) (by decide) (fun K hK => ?_)
    refine goes_ Tryd.func28 (by kernel_rfl) rfl #[.pointer (some ⟨g, 0, none⟩), .int .i64 1] (by rfl) rfl rfl (by simp only [List.map_toArray, List.map_cons, List.map_nil]; rfl) ?_
    refine HC.out.mono ?_
    rintro ed w11 ⟨rfl, hs11⟩
    refine ⟨_, rfl, ?_⟩
    have HA11 := Aside0.mk (HAD.out.step hs11)
    have HS11 : Aside0 (ShS w0 w11 gs s vM vH) := ⟨HSD.out.keep hs11.2.2 HGS.out.2.2.1⟩
    have HX11 : Aside0 (w11.heap[gr]? = some (.cells #[.string ⟨#[]⟩, .slice none 0 0, .slice none 0 0, .bool false] 47 (0, 0))) := ⟨blk_keep (show w4.drew.heap[gr]? = _ from HX4.out) hs11.2.2 HG.out.1⟩
    clear hs11
    refine hK.out _ _ ((blk_cell HS11.out.blk 1)) (fun hHeld => ?_)
    clear hK K
    refine norm_ (a' := ?_) ?_ ?_
    rotate_left
    ·show Act.put _ (some 17) _ = _
     exact nAt8_
    refine one_ (i := 4) (N := some 18) #[true, true, true, true, true, false, false, false] rfl rfl (by kernel_rfl) (by decide) (fun K hK => ?_)
    refine value_ (w1 := ?_) (v := ?_) (by rfl) rfl ?_ ?_
    rotate_left 2
    ·go_simp
     constructor
     ·rfl
     ·rfl
    refine hK.out _ _ ((blk_cell (show (w11.alloc _).heap[gs]? = _ from blk_alloc HS11.out.blk _) 1)) (fun hHeld => ?_)
    clear hK K
    refine norm_ (a' := ?_) ?_ ?_
    rotate_left
    ·show Act.put _ (some 18) _ = _
     exact nAt8_
    refine last_ (i := 5) (N := some 19) #[true, true, true, true, true, true, false, false] rfl rfl (by kernel_rfl) (by decide) (fun K hK => ?_)
    refine Kd.R_append_step Kd.string (w0 := w0) (W := w11) w0.heap.size (by rfl) _ _ 22 9 (.string ⟨#[]⟩) 16 rfl Tryd.underlying22 info_str rfl (by decide) (by decide) vM s.f1 t [.string t] (fun k => gs < k) (fun _ => False) rfl rfl rfl (fun _ hk => hk.elim) (fun k hk => by have := blk_lt HS11.out.blk; omega) HS11.out.rM HA11.out.b HA11.out.b.size HLB.out ?_
    intro v12 w12 hO12 hB12 hG12 hat12
    have hr0 : ∀ k, (vM : Value).ownBlock = some k → gs < k := HS11.out.rM.1
    have HA13 : Aside0 (At w0 W (w12.setCell ⟨gs, 1, none⟩ v12) g T i7 e c7 a7) := ⟨(HA11.out.grown hG12 (fun he => by have := hr0 g he.symm; have := HGS.out; omega) hB12 (own_none hr0 (by have := HGS.out; omega))).set (by have := HGS.out; omega) (by have := HGS.out; omega) (by have := HGS.out; omega) 1 _⟩
    have HX13 : Aside0 ((w12.setCell ⟨gs, 1, none⟩ v12).heap[gr]? = some (.cells #[.string ⟨#[]⟩, .slice none 0 0, .slice none 0 0, .bool false] 47 (0, 0))) := ⟨blk_far (blk_grown HX11.out hG12 (fun he => by have := hr0 gr he.symm; have := HGS.out; omega)) (p := ⟨gs, 1, none⟩) (by have := HGS.out; show gr ≠ gs; omega) _⟩
    have HS13 := Aside0.mk (HS11.out.meth hO12 hG12 hat12)
    have hp12 : w12.heap[gs]? = some (.cells #[.string s.f0, vM, vH, .bool s.f3] 47 (0, 0)) := blk_grown HS11.out.blk hG12 (fun he => Nat.lt_irrefl _ (hr0 gs he.symm))
    have HK13 : Aside0 (SSit T e R (T.length - q) ⟨s.f0, s.f1 ++ [t], s.f2, s.f3⟩ i7 c7 a7) := ⟨sit_meth HQ.out HRR.out HB.out.1 HB.out.2.2.1 HB.out.2.2.2 HQT.out⟩
    obtain ⟨A12, c12, e12⟩ := Kd.R_slice hO12
    obtain ⟨n12, hn12⟩ : ∃ n12, n12 = (s.f1 ++ [t]).length := ⟨_, rfl⟩
    rw [← hn12] at e12
    subst e12
    have e4 : w12.cell? ⟨gs, 1, none⟩ = some vM := blk_cell hp12 1
    have f4 := blk_frozen hp12 1
    clear hO12 hB12 hG12 hat12 hp12 hn12 hr0
    refine hK.out _ _ ?_
    clear hK K
    refine norm_ (a' := ?_) ?_ ?_
    rotate_left
    ·show Act.put _ (some 19) _ = _
     exact nAt8_
    refine pure_ (i := 6) (N := some 20) (v := ?_) (a' := ?_) #[true, true, true, true, true, true, true, false] rfl rfl (by kernel_rfl) (fun _ _ _ h => h) (Or.inl ⟨by rfl, ?_⟩) ?_ ?_
    rotate_left
    ·intro w'
     go_simp
     with_reducible rfl
    rotate_left
    ·exact nAt8_
    refine last_ (i := 7) (N := none) #[true, true, true, true, true, true, true, true] rfl rfl (by kernel_rfl) (by decide) (fun K hK => ?_)
    refine skip_ (w1 := ?_) (by rfl) rfl ?_ ?_
    rotate_left
    ·go_simp
     rfl
    refine hK.out _ _ ?_
    clear hK K
    refine done_ (by kernel_rfl) ?_

    go_wp2
    go_roundg (T.length - q)
    case measure => have := HB.out; have := HQT.out; omega
    case rel => exact ⟨_, _, _, i7, c7, a7, HA13, HX13, HS13, HK13⟩
   | false =>
    have HIF := Aside0.mk hif
    have HN3 := Aside0.mk hif
    clear hif
    go_wp2_with fail
    refine (r_take0 (T := T) (e := e) wMethod q HT.out HA3.out.i HA3.out.b HIF.out).mono ?_
    rintro ed w5 ⟨rfl, hs⟩
    dsimp only
    have HA5 := Aside0.mk (HA3.out.step hs)
    have HS5 : Aside0 (ShS w0 w5 gs s vM vH) := ⟨HS3.out.keep hs.2.2 HGS.out.2.2.1⟩
    have HX5 : Aside0 (w5.heap[gr]? = some (.cells #[.string ⟨#[]⟩, .slice none 0 0, .slice none 0 0, .bool false] 47 (0, 0))) := ⟨blk_keep HX3.out hs.2.2 HG.out.1⟩
    clear hs HA3 HS3 HX3
    clear HIF
    cases hif : isP T e [wHeader] q with
    | true =>
     have HIF := Aside0.mk hif
     have HQT : Aside0 (q < T.length) := ⟨isP_lt hif⟩
     obtain ⟨f', rfl⟩ : ∃ f', f = f' + 1 := ⟨f - 1, by have := HB.out; have := HQT.out; omega⟩
     replace HB : Aside0 (T.length ≤ f' + q ∧ T.length - q + 1 ≤ gk ∧ s.f1.length ≤ q ∧ s.f2.length ≤ q) := ⟨by have := HB.out; omega⟩
     have HRR : Aside0 (R = shareK T e f' s (.ok (wHeader, q + 1))) := ⟨by rw [HR.out]; exact share_word HIF.out (by decide +kernel)⟩
     clear hif HR
     go_wp2_with fail
     refine (r_take1 (T := T) (e := e) wHeader q HT.out HA5.out.i HA5.out.b HIF.out).mono ?_
     rintro ed w4 ⟨rfl, hs⟩
     dsimp only
     have HA4 := Aside0.mk (HA5.out.step hs)
     have HS4 : Aside0 (ShS w0 w4 gs s vM vH) := ⟨HS5.out.keep hs.2.2 HGS.out.2.2.1⟩
     have HX4 : Aside0 (w4.heap[gr]? = some (.cells #[.string ⟨#[]⟩, .slice none 0 0, .slice none 0 0, .bool false] 47 (0, 0))) := ⟨blk_keep HX5.out hs.2.2 HG.out.1⟩
     clear hs HA5 HS5 HX5
     replace HRR : Aside0 (R = shareH T e f' s (takeP T e 1 (q + 1))) := HRR
     have H7 := r_next (w0 := w0) (w := w4.drew) (g := g) (T := T) (e := e) 1 (q + 1) (by decide) HT.out HA4.out.i (below_drew HA4.out.b)
     obtain ⟨t, i7, c7, a7, hQ, hC⟩ := H7
     have HQ := Aside0.mk hQ
     have HC := Aside0.mk hC
     have HSD : Aside0 (ShS w0 w4.drew gs s vM vH) := ⟨HS4.out.keep (keepN 1 g) HGS.out.2.2.1⟩
     have HAD : Aside0 (At w0 W w4.drew g T ((q + 1 : Nat) : Int) e 0 0) := ⟨HA4.out.drew⟩
     have HLB : Aside0 ((s.f2.length + 1) * 16 ≤ 140737488355328) := ⟨by have := HB.out; have := HT.out; have := HQT.out; omega⟩
     have d0 : w4.drew.cell? ⟨gs, 2, none⟩ = some vH := blk_cell HSD.out.blk 2
     clear hQ hC HS4 HA4
     go_upto_region 7 with (fail)
     refine start_ (n := 8) (S := fun w' => w'.cell? ⟨gs, 2, none⟩ = some vH) (ds := [5, 7]) #[false, false, false, false, false, false, false, false] (by kernel_rfl) rfl rfl (d0) (fun hHeld => ?_)
     refine pure_ (i := 0) (N := some 24) (v := ?_) (a' := ?_) #[true, false, false, false, false, false, false, false] rfl rfl (by kernel_rfl) (fun _ _ _ h => h) (Or.inl ⟨by rfl, ?_⟩) ?_ ?_
     rotate_left
     ·intro w'
      go_simp
      with_reducible rfl
     rotate_left
     ·exact nAt8_
     refine pure_ (i := 2) (N := some 26) (v := ?_) (a' := ?_) #[true, false, true, false, false, false, false, false] rfl rfl (by kernel_rfl) (fun _ _ _ h => h) (Or.inl ⟨by rfl, ?_⟩) ?_ ?_
     rotate_left
     ·intro w'
      go_simp
      with_reducible rfl
     rotate_left
     ·exact nAt8_
     refine take_ (i := 1) (N := some 25) (v := ?_) (a' := ?_) #[true, true, true, false, false, false, false, false] rfl rfl (by kernel_rfl) (fun _ _ _ h => h) (Or.inl ⟨by rfl, ?_⟩) hHeld ?_ ?_
     rotate_left
     ·intro w' s0
      go_simp
      with_reducible rfl
     rotate_left
     ·exact nAt8_
     refine one_ (i := 3) (N := some 27) #[true, true, true, true, false, false, false, false] rfl rfl (by kernel_rfl) (by decide) (fun K hK => ?_)
     refine goes_ Tryd.func28 (by kernel_rfl) rfl #[.pointer (some ⟨g, 0, none⟩), .int .i64 1] (by rfl) rfl rfl (by simp only [List.map_toArray, List.map_cons, List.map_nil]; rfl) ?_
     refine HC.out.mono ?_
     rintro ed w11 ⟨rfl, hs11⟩
     refine ⟨_, rfl, ?_⟩
     have HA11 := Aside0.mk (HAD.out.step hs11)
     have HS11 : Aside0 (ShS w0 w11 gs s vM vH) := ⟨HSD.out.keep hs11.2.2 HGS.out.2.2.1⟩
     have HX11 : Aside0 (w11.heap[gr]? = some (.cells #[.string ⟨#[]⟩, .slice none 0 0, .slice none 0 0, .bool false] 47 (0, 0))) := ⟨blk_keep (show w4.drew.heap[gr]? = _ from HX4.out) hs11.2.2 HG.out.1⟩
     clear hs11
     refine hK.out _ _ ((blk_cell HS11.out.blk 2)) (fun hHeld => ?_)
     clear hK K
     refine norm_ (a' := ?_) ?_ ?_
     rotate_left
     ·show Act.put _ (some 27) _ = _
      exact nAt8_
     refine one_ (i := 4) (N := some 28) #[true, true, true, true, true, false, false, false] rfl rfl (by kernel_rfl) (by decide) (fun K hK => ?_)
     refine value_ (w1 := ?_) (v := ?_) (by rfl) rfl ?_ ?_
     rotate_left 2
     ·go_simp
      constructor
      ·rfl
      ·rfl
     refine hK.out _ _ ((blk_cell (show (w11.alloc _).heap[gs]? = _ from blk_alloc HS11.out.blk _) 2)) (fun hHeld => ?_)
     clear hK K
     refine norm_ (a' := ?_) ?_ ?_
     rotate_left
     ·show Act.put _ (some 28) _ = _
      exact nAt8_
     refine last_ (i := 5) (N := some 29) #[true, true, true, true, true, true, false, false] rfl rfl (by kernel_rfl) (by decide) (fun K hK => ?_)
     refine Kd.R_append_step Kd.string (w0 := w0) (W := w11) w0.heap.size (by rfl) _ _ 22 9 (.string ⟨#[]⟩) 16 rfl Tryd.underlying22 info_str rfl (by decide) (by decide) vH s.f2 t [.string t] (fun k => gs < k) (fun _ => False) rfl rfl rfl (fun _ hk => hk.elim) (fun k hk => by have := blk_lt HS11.out.blk; omega) HS11.out.rH HA11.out.b HA11.out.b.size HLB.out ?_
     intro v12 w12 hO12 hB12 hG12 hat12
     have hr0 : ∀ k, (vH : Value).ownBlock = some k → gs < k := HS11.out.rH.1
     have HA13 : Aside0 (At w0 W (w12.setCell ⟨gs, 2, none⟩ v12) g T i7 e c7 a7) := ⟨(HA11.out.grown hG12 (fun he => by have := hr0 g he.symm; have := HGS.out; omega) hB12 (own_none hr0 (by have := HGS.out; omega))).set (by have := HGS.out; omega) (by have := HGS.out; omega) (by have := HGS.out; omega) 2 _⟩
     have HX13 : Aside0 ((w12.setCell ⟨gs, 2, none⟩ v12).heap[gr]? = some (.cells #[.string ⟨#[]⟩, .slice none 0 0, .slice none 0 0, .bool false] 47 (0, 0))) := ⟨blk_far (blk_grown HX11.out hG12 (fun he => by have := hr0 gr he.symm; have := HGS.out; omega)) (p := ⟨gs, 2, none⟩) (by have := HGS.out; show gr ≠ gs; omega) _⟩
     have HS13 := Aside0.mk (HS11.out.head hO12 hG12 hat12)
     have hp12 : w12.heap[gs]? = some (.cells #[.string s.f0, vM, vH, .bool s.f3] 47 (0, 0)) := blk_grown HS11.out.blk hG12 (fun he => Nat.lt_irrefl _ (hr0 gs he.symm))
     have HK13 : Aside0 (SSit T e R (T.length - q) ⟨s.f0, s.f1, s.f2 ++ [t], s.f3⟩ i7 c7 a7) := ⟨sit_head HQ.out HRR.out HB.out.1 HB.out.2.2.1 HB.out.2.2.2 HQT.out⟩
     obtain ⟨A12, c12, e12⟩ := Kd.R_slice hO12
     obtain ⟨n12, hn12⟩ : ∃ n12, n12 = (s.f2 ++ [t]).length := ⟨_, rfl⟩
     rw [← hn12] at e12
     subst e12
     have e4 : w12.cell? ⟨gs, 2, none⟩ = some vH := blk_cell hp12 2
     have f4 := blk_frozen hp12 2
     clear hO12 hB12 hG12 hat12 hp12 hn12 hr0
     refine hK.out _ _ ?_
     clear hK K
     refine norm_ (a' := ?_) ?_ ?_
     rotate_left
     ·show Act.put _ (some 29) _ = _
      exact nAt8_
     refine pure_ (i := 6) (N := some 30) (v := ?_) (a' := ?_) #[true, true, true, true, true, true, true, false] rfl rfl (by kernel_rfl) (fun _ _ _ h => h) (Or.inl ⟨by rfl, ?_⟩) ?_ ?_
     rotate_left
     ·intro w'
      go_simp
      with_reducible rfl
     rotate_left
     ·exact nAt8_
     refine last_ (i := 7) (N := none) #[true, true, true, true, true, true, true, true] rfl rfl (by kernel_rfl) (by decide) (fun K hK => ?_)
     refine skip_ (w1 := ?_) (by rfl) rfl ?_ ?_
     rotate_left
     ·go_simp
      rfl
     refine hK.out _ _ ?_
     clear hK K
     refine done_ (by kernel_rfl) ?_

     go_wp2
     go_roundg (T.length - q)
     case measure => have := HB.out; have := HQT.out; omega
     case rel => exact ⟨_, _, _, i7, c7, a7, HA13, HX13, HS13, HK13⟩
    | false =>
     have HIF := Aside0.mk hif
     have HN5 := Aside0.mk hif
     clear hif
     go_wp2_with fail
     refine (r_take0 (T := T) (e := e) wHeader q HT.out HA5.out.i HA5.out.b HIF.out).mono ?_
     rintro ed w6 ⟨rfl, hs⟩
     dsimp only
     have HA6 := Aside0.mk (HA5.out.step hs)
     have HS6 : Aside0 (ShS w0 w6 gs s vM vH) := ⟨HS5.out.keep hs.2.2 HGS.out.2.2.1⟩
     have HX6 : Aside0 (w6.heap[gr]? = some (.cells #[.string ⟨#[]⟩, .slice none 0 0, .slice none 0 0, .bool false] 47 (0, 0))) := ⟨blk_keep HX5.out hs.2.2 HG.out.1⟩
     clear hs HA5 HS5 HX5
     clear HIF
     cases hif : isP T e [wCreds] q with
     | true =>
      have HIF := Aside0.mk hif
      have HQT : Aside0 (q < T.length) := ⟨isP_lt hif⟩
      obtain ⟨f', rfl⟩ : ∃ f', f = f' + 1 := ⟨f - 1, by have := HB.out; have := HQT.out; omega⟩
      replace HB : Aside0 (T.length ≤ f' + q ∧ T.length - q + 1 ≤ gk ∧ s.f1.length ≤ q ∧ s.f2.length ≤ q) := ⟨by have := HB.out; omega⟩
      have HRR : Aside0 (R = shareK T e f' s (.ok (wCreds, q + 1))) := ⟨by rw [HR.out]; exact share_word HIF.out (by decide +kernel)⟩
      clear hif HR
      go_wp2_with fail
      refine (r_take1 (T := T) (e := e) wCreds q HT.out HA6.out.i HA6.out.b HIF.out).mono ?_
      rintro ed w4 ⟨rfl, hs⟩
      dsimp only
      have HA4 := Aside0.mk (HA6.out.step hs)
      have HS4 : Aside0 (ShS w0 w4 gs s vM vH) := ⟨HS6.out.keep hs.2.2 HGS.out.2.2.1⟩
      have HX4 : Aside0 (w4.heap[gr]? = some (.cells #[.string ⟨#[]⟩, .slice none 0 0, .slice none 0 0, .bool false] 47 (0, 0))) := ⟨blk_keep HX6.out hs.2.2 HG.out.1⟩
      clear hs HA6 HS6 HX6
      have HRC : Aside0 (R = shareL T e f' ⟨s.f0, s.f1, s.f2, true⟩ (q + 1)) := ⟨HRR.out⟩
      have e4 : w4.cell? ⟨gs, 3, none⟩ = some (.bool s.f3) := blk_cell HS4.out.blk 3
      have f4 := blk_frozen HS4.out.blk 3
      have HA13 : Aside0 (At w0 W (w4.setCell ⟨gs, 3, none⟩ (.bool true)) g T ((q + 1 : Nat) : Int) e 0 0) := ⟨HA4.out.set (by have := HGS.out; omega) (by have := HGS.out; omega) (by have := HGS.out; omega) 3 _⟩
      have HX13 : Aside0 ((w4.setCell ⟨gs, 3, none⟩ (.bool true)).heap[gr]? = some (.cells #[.string ⟨#[]⟩, .slice none 0 0, .slice none 0 0, .bool false] 47 (0, 0))) := ⟨blk_far HX4.out (p := ⟨gs, 3, none⟩) (by have := HGS.out; show gr ≠ gs; omega) _⟩
      have HS13 : Aside0 (ShS w0 (w4.setCell ⟨gs, 3, none⟩ (.bool true)) gs ⟨s.f0, s.f1, s.f2, true⟩ vM vH) := ⟨⟨blk_set HS4.out.blk 3 _, Kd.R_far HS4.out.rM (p := ⟨gs, 3, none⟩) (fun k hk (he : k = gs) => by omega) _, Kd.R_far HS4.out.rH (p := ⟨gs, 3, none⟩) (fun k hk (he : k = gs) => by omega) _, HS4.out.d⟩⟩
      have HK13 : Aside0 (SSit T e R (T.length - q) ⟨s.f0, s.f1, s.f2, true⟩ ((q + 1 : Nat) : Int) 0 0) := ⟨.inr ⟨f', q + 1, rfl, rfl, rfl, HRC.out, by have := HB.out; omega, by have := HQT.out; omega, by have := HB.out; show s.f1.length ≤ q + 1; omega, by have := HB.out; show s.f2.length ≤ q + 1; omega⟩⟩
      clear HA4 HX4 HS4
      go_wp2
      go_roundg (T.length - q)
      case measure => have := HB.out; have := HQT.out; omega
      case rel => exact ⟨_, _, _, _, _, _, HA13, HX13, HS13, HK13⟩
     | false =>
      have HIF := Aside0.mk hif
      have HN6 := Aside0.mk hif
      clear hif
      go_wp2_with fail
      refine (r_take0 (T := T) (e := e) wCreds q HT.out HA6.out.i HA6.out.b HIF.out).mono ?_
      rintro ed w7 ⟨rfl, hs⟩
      dsimp only
      have HA7 := Aside0.mk (HA6.out.step hs)
      have HS7 : Aside0 (ShS w0 w7 gs s vM vH) := ⟨HS6.out.keep hs.2.2 HGS.out.2.2.1⟩
      have HX7 : Aside0 (w7.heap[gr]? = some (.cells #[.string ⟨#[]⟩, .slice none 0 0, .slice none 0 0, .bool false] 47 (0, 0))) := ⟨blk_keep HX6.out hs.2.2 HG.out.1⟩
      clear hs HA6 HS6 HX6
      clear HIF
      have HQQ : Aside0 (ShQ R s (q : Int) 0 0) := ⟨by rw [HR.out, share_none HN3.out HN5.out HN6.out f]; exact ⟨rfl, rfl, rfl, rfl⟩⟩
      have HAA := HA7
      have HSS := HS7
      have HXX := HX7
      clear HA7 HS7 HX7 HR
      exact sc_share
end Go.Proofs.YtdlahgamdigkhaaDoor.Pu
namespace Go.Proofs.YtdlahgamdigkhaaDoor.Pu
open Go.RowKit Go.Proofs.YtdlahgamdigkhaaDoor.Pr Go.Proofs.YtdlahgamdigkhaaDoorW.PrintWords Go.Proofs.YtdlahgamdigkhaaDoorW.PrintLast Go.Proofs.YtdlahgamdigkhaaDoorW.PrintMore Go.Proofs.YtdlahgamdigkhaaDoor.Lx
open Go.Proofs.YtdlahgamdigkhaaDoor.Ps hiding Tk
theorem in_l (s : ByteArray) (ws : List ByteArray) (hl : ws.length ≤ 1000000) : ∀ (m i k : Nat), i + m = ws.length → m < k → parapetref1_In.l0 k s ws (i : Int) = some (memB s (ws.drop i))
 | 0, i, k + 1, h, _ => by
  rw [parapetref1_In.l0, if_neg (by omega), List.drop_eq_nil_of_le (by omega)]; rfl
 | m + 1, i, k + 1, h, hk => by
  have hi : i < ws.length := by omega
  have e1 : rdOf ByteArray.empty ws (i : Int) = ws[i] := by simp [rdOf, hi]
  have e2 : wrap64 ((i : Int) + 1) = ((i + 1 : Nat) : Int) := by unfold wrap64; omega
  rw [parapetref1_In.l0, if_pos (by omega), if_pos (by omega), e1, e2, List.drop_eq_getElem_cons hi, memB_cons]
  by_cases hs : ws[i].toList = s.toList
  ·rw [if_pos hs, decide_eq_true (bytes_toList.1 hs).symm, Bool.true_or]
  ·rw [if_neg hs, decide_eq_false (fun he => hs (by rw [he])), Bool.false_or]
   exact in_l s ws hl m (i + 1) k (by omega) (by omega)
theorem in_f (s : ByteArray) (ws : List ByteArray) (hl : ws.length ≤ 1000000) : parapetref1_In.f (ws.length + 1) s ws = some (memB s ws) := by
 have := in_l s ws hl ws.length 0 (ws.length + 1) (by omega) (by omega)
 rwa [List.drop_zero] at this
def six : List ByteArray := [wCsp, wShare, wMixed, wDefault, wAllow, wDeny]
structure RS (w0 W : World) (gr gp : Nat) (v0 v1 v3 : Value) (st : Pst) (okS okR : Nat → Prop) : Prop where
 blk : W.heap[gp]? = some (.cells (polcells v0 v1 st.mixed v3 st.allow) 26 (0, 0))
 rC : Kd.string.R 9 W w0.heap.size (fun _ => True) v0 st.csp
 rS : k47.R 47 W w0.heap.size okS v1 st.shares
 rR : k41.N 41 W w0.heap.size okR v3 st.rules
 dC : ∀ k, v0.ownBlock = some k → k ≠ gr ∧ k ≠ gp ∧ ¬ okS k ∧ ¬ okR k
 bS : ∀ k, okS k → k < W.heap.size ∧ w0.heap.size ≤ k ∧ k ≠ gr ∧ k ≠ gp ∧ ¬ okR k
 bR : ∀ k, okR k → k < W.heap.size ∧ w0.heap.size ≤ k ∧ k ≠ gr ∧ k ≠ gp
 ng : gr ≠ gp
 lg : w0.heap.size ≤ gp
 lr : gr < W.heap.size
 lC : st.csp.length ≤ st.items
 lS : st.shares.length ≤ st.items
 lR : st.rules.length ≤ st.items
 lI : st.items ≤ 60
 lM : st.metM ≤ 1
 lD : st.metD ≤ 1
 eM : st.metM = 0 → st.mixed = wBlock
 eD : st.metD = 0 → st.allow = false
theorem RS.kept {w0 W W2 : World} {gr gp : Nat} {v0 v1 v3 : Value} {st : Pst} {okS okR : Nat → Prop} (h : RS w0 W gr gp v0 v1 v3 st okS okR) (hk : Kept W W2 (fun k => k = gr)) : RS w0 W2 gr gp v0 v1 v3 st okS okR :=
 { h with
  blk := blk_kept h.blk hk (fun he => h.ng he.symm)
  rC := Kd.R_mono (Kd.R_kept (Kd.R_tight rfl h.rC) hk (fun k he hg => (h.dC k he.symm).1 hg)) (fun _ _ => trivial)
  rS := Kd.R_kept h.rS hk (fun k ho hg => (h.bS k ho).2.2.1 hg)
  rR := Kd.N_kept h.rR hk (fun k ho hg => (h.bR k ho).2.2.1 hg)
  bS := fun k ho => ⟨by have := (h.bS k ho).1; have := hk.1; omega, (h.bS k ho).2⟩
  bR := fun k ho => ⟨by have := (h.bR k ho).1; have := hk.1; omega, (h.bR k ho).2⟩
  lr := by have := h.lr; have := hk.1; omega }
theorem kept_of_keep {W W2 : World} {g : Nat} (h : KeepBut W W2 g none) : Kept W W2 (fun k => k = g) := ⟨h.1, fun k hk hne => h.2 k hk hne (by simp)⟩
theorem RS.keep {w0 W W2 : World} {gr gp : Nat} {v0 v1 v3 : Value} {st : Pst} {okS okR : Nat → Prop} (h : RS w0 W gr gp v0 v1 v3 st okS okR) (hk : KeepBut W W2 gr none) : RS w0 W2 gr gp v0 v1 v3 st okS okR := h.kept (kept_of_keep hk)
theorem RS.drewN {w0 W : World} {gr gp : Nat} {v0 v1 v3 : Value} {st : Pst} {okS okR : Nat → Prop} (h : RS w0 W gr gp v0 v1 v3 st okS okR) (n : Nat) : RS w0 (W.drewN n) gr gp v0 v1 v3 st okS okR := h.keep (keepN n gr)
theorem RS.count {w0 W : World} {gr gp : Nat} {v0 v1 v3 : Value} {st : Pst} {okS okR : Nat → Prop} (h : RS w0 W gr gp v0 v1 v3 st okS okR) (hi : st.items + 1 ≤ 60) : RS w0 W gr gp v0 v1 v3 { st with items := st.items + 1 } okS okR :=
 { h with
  lC := Nat.le_succ_of_le h.lC
  lS := Nat.le_succ_of_le h.lS
  lR := Nat.le_succ_of_le h.lR
  lI := hi }
theorem RS.csp {w0 W W9 : World} {gr gp : Nat} {v0 v1 v3 v9 : Value} {st : Pst} {okS okR : Nat → Prop} {t : ByteArray} (h : RS w0 W gr gp v0 v1 v3 st okS okR) (hO : Kd.string.R 9 W9 w0.heap.size (fun _ => True) v9 (st.csp ++ [t])) (hG : W.grownBy W9 v0.ownBlock)
  (hat : v9.ownBlock = v0.ownBlock ∨ ∃ k, v9.ownBlock = some k ∧ W.heap.size ≤ k) (hl : st.csp.length + 1 ≤ st.items) : RS w0 (W9.setCell ⟨gp, 0, none⟩ v9) gr gp v9 v1 v3 { st with csp := st.csp ++ [t] } okS okR := by
 have hk : Kept W W9 (fun k => v0.ownBlock = some k) := Kept.of_grown hG (Kept.refl _ _) (fun k hk => .inl hk)
 have hgp : v9.ownBlock ≠ some gp := by
  intro he
  rcases hat with h1 | ⟨k, h1, h2⟩
  ·exact (h.dC gp (h1.symm.trans he)).2.1 rfl
  ·rw [h1] at he; cases he; have := blk_lt h.blk; omega
 have hp9 : W9.heap[gp]? = some (.cells (polcells v0 v1 st.mixed v3 st.allow) 26 (0, 0)) := blk_kept h.blk hk (fun he => (h.dC gp he).2.1 rfl)
 exact { h with
  blk := blk_set hp9 0 _
  rC := Kd.R_mono (Kd.R_far (Kd.R_tight rfl hO) (p := ⟨gp, 0, none⟩) (fun k he hg => hgp (by rw [← he, show k = gp from hg])) _) (fun _ _ => trivial)
  rS := Kd.R_far (Kd.R_kept h.rS hk (fun k ho hs => (h.dC k hs).2.2.1 ho)) (p := ⟨gp, 0, none⟩) (fun k ho => (h.bS k ho).2.2.2.1) _
  rR := Kd.N_far (Kd.N_kept h.rR hk (fun k ho hs => (h.dC k hs).2.2.2 ho)) (p := ⟨gp, 0, none⟩) (fun k ho => (h.bR k ho).2.2.2) _
  dC := fun k he => by
   rcases hat with h1 | ⟨k2, h1, h2⟩
   ·exact h.dC k (h1.symm.trans he)
   ·rw [h1] at he; cases he
    exact ⟨by have := h.lr; omega, by have := blk_lt h.blk; omega, fun ho => by have := (h.bS _ ho).1; omega, fun ho => by have := (h.bR _ ho).1; omega⟩
  bS := fun k ho => ⟨by rw [World.size_setCell]; have := (h.bS k ho).1; have := hk.1; omega, (h.bS k ho).2⟩
  bR := fun k ho => ⟨by rw [World.size_setCell]; have := (h.bR k ho).1; have := hk.1; omega, (h.bR k ho).2⟩
  lr := by rw [World.size_setCell]; have := h.lr; have := hk.1; omega
  lC := by rw [List.length_append, List.length_singleton]; exact hl }
theorem RS.share {w0 W W7 W9 : World} {gr gp : Nat} {v0 v1 v3 v9 : Value} {st : Pst} {okS okR : Nat → Prop} {s : Sh} (h : RS w0 W gr gp v0 v1 v3 st okS okR) (h7 : RS w0 W7 gr gp v0 v1 v3 st okS okR) (hz : W.heap.size ≤ W7.heap.size)
  (hO : k47.R 47 W9 w0.heap.size (fun k => okS k ∨ W.heap.size ≤ k) v9 (st.shares ++ [s])) (hG : W7.grownBy W9 v1.ownBlock)
  (hl : st.shares.length + 1 ≤ st.items) (hw : w0.heap.size ≤ W.heap.size) (hng : gr < W.heap.size ∧ gp < W.heap.size) :
  RS w0 (W9.setCell ⟨gp, 1, none⟩ v9) gr gp v0 v9 v3 { st with shares := st.shares ++ [s] } (fun k => (okS k ∨ W.heap.size ≤ k) ∧ k < W9.heap.size) okR := by
 have hk : Kept W7 W9 (fun k => v1.ownBlock = some k) := Kept.of_grown hG (Kept.refl _ _) (fun k hk => .inl hk)
 have h1 : ∀ k, v1.ownBlock = some k → okS k := h7.rS.1
 have hp9 : W9.heap[gp]? = some (.cells (polcells v0 v1 st.mixed v3 st.allow) 26 (0, 0)) := blk_kept h7.blk hk (fun he => (h.bS gp (h1 gp he)).2.2.2.1 rfl)
 have hb0 : ∀ k, v0.ownBlock = some k → k < W.heap.size := fun k he => Kd.R_lt h.rC k he
 exact { h7 with
  blk := blk_set hp9 1 _
  rC := Kd.R_mono (Kd.R_far (Kd.R_kept (Kd.R_tight rfl h7.rC) hk (fun k he hs => (h.dC k he.symm).2.2.1 (h1 k hs))) (p := ⟨gp, 1, none⟩) (fun k he => (h.dC k he.symm).2.1) _) (fun _ _ => trivial)
  rS := Kd.R_mono (Kd.R_bound (Kd.R_far hO (p := ⟨gp, 1, none⟩) (fun k ho (hg : k = gp) => by
   rcases ho with ho | ho
   ·exact (h.bS k ho).2.2.2.1 hg
   ·have := hng.2; omega) _)) (fun k hk => ⟨hk.1, by have := hk.2.2.1; rwa [World.size_setCell] at this⟩)
  rR := Kd.N_far (Kd.N_kept h7.rR hk (fun k ho hs => (h.bS k (h1 k hs)).2.2.2.2 ho)) (p := ⟨gp, 1, none⟩) (fun k ho => (h.bR k ho).2.2.2) _
  dC := fun k he => ⟨(h.dC k he).1, (h.dC k he).2.1, fun ho => by
   rcases ho.1 with ho | ho
   ·exact (h.dC k he).2.2.1 ho
   ·have := hb0 k he; omega, (h.dC k he).2.2.2⟩
  bS := fun k ho => by
   rw [World.size_setCell]
   rcases ho with ⟨ho | ho, hlt⟩
   ·exact ⟨hlt, (h.bS k ho).2⟩
   ·exact ⟨hlt, by omega, by have := hng.1; omega, by have := hng.2; omega, fun hr => by have := (h.bR k hr).1; omega⟩
  bR := fun k ho => ⟨by rw [World.size_setCell]; have := (h7.bR k ho).1; have := hk.1; omega, (h.bR k ho).2⟩
  lr := by rw [World.size_setCell]; have := h7.lr; have := hk.1; omega
  lS := by rw [List.length_append, List.length_singleton]; exact hl }
theorem RS.rule {w0 W W7 W9 : World} {gr gp : Nat} {v0 v1 v3 v9 : Value} {st : Pst} {okS okR : Nat → Prop} {s : Rl} (h : RS w0 W gr gp v0 v1 v3 st okS okR) (h7 : RS w0 W7 gr gp v0 v1 v3 st okS okR) (hz : W.heap.size ≤ W7.heap.size)
  (hO : k41.N 41 W9 w0.heap.size (fun k => okR k ∨ W.heap.size ≤ k) v9 (st.rules ++ [s])) (hG : W7.grownBy W9 v3.ownBlock)
  (hl : st.rules.length + 1 ≤ st.items) (hw : w0.heap.size ≤ W.heap.size) (hng : gr < W.heap.size ∧ gp < W.heap.size) :
  RS w0 (W9.setCell ⟨gp, 3, none⟩ v9) gr gp v0 v1 v9 { st with rules := st.rules ++ [s] } okS (fun k => (okR k ∨ W.heap.size ≤ k) ∧ k < W9.heap.size) := by
 have hk : Kept W7 W9 (fun k => v3.ownBlock = some k) := Kept.of_grown hG (Kept.refl _ _) (fun k hk => .inl hk)
 have h1 : ∀ k, v3.ownBlock = some k → okR k := h7.rR.1
 have hp9 : W9.heap[gp]? = some (.cells (polcells v0 v1 st.mixed v3 st.allow) 26 (0, 0)) := blk_kept h7.blk hk (fun he => (h.bR gp (h1 gp he)).2.2.2 rfl)
 have hb0 : ∀ k, v0.ownBlock = some k → k < W.heap.size := fun k he => Kd.R_lt h.rC k he
 exact { h7 with
  blk := blk_set hp9 3 _
  rC := Kd.R_mono (Kd.R_far (Kd.R_kept (Kd.R_tight rfl h7.rC) hk (fun k he hs => (h.dC k he.symm).2.2.2 (h1 k hs))) (p := ⟨gp, 3, none⟩) (fun k he => (h.dC k he.symm).2.1) _) (fun _ _ => trivial)
  rS := Kd.R_far (Kd.R_kept h7.rS hk (fun k ho hs => (h.bS k ho).2.2.2.2 (h1 k hs))) (p := ⟨gp, 3, none⟩) (fun k ho => (h.bS k ho).2.2.2.1) _
  rR := Kd.N_mono (Kd.N_bound (Kd.N_far hO (p := ⟨gp, 3, none⟩) (fun k ho (hg : k = gp) => by
   rcases ho with ho | ho
   ·exact (h.bR k ho).2.2.2 hg
   ·have := hng.2; omega) _)) (fun k hk => ⟨hk.1, by have := hk.2; rwa [World.size_setCell] at this⟩)
  dC := fun k he => ⟨(h.dC k he).1, (h.dC k he).2.1, (h.dC k he).2.2.1, fun ho => by
   rcases ho.1 with ho | ho
   ·exact (h.dC k he).2.2.2 ho
   ·have := hb0 k he; omega⟩
  bS := fun k ho => ⟨by rw [World.size_setCell]; have := (h7.bS k ho).1; have := hk.1; omega, (h.bS k ho).2.1, (h.bS k ho).2.2.1, (h.bS k ho).2.2.2.1, fun hr => by
   rcases hr.1 with hr | hr
   ·exact (h.bS k ho).2.2.2.2 hr
   ·have := (h.bS k ho).1; omega⟩
  bR := fun k ho => by
   rw [World.size_setCell]
   rcases ho with ⟨ho | ho, hlt⟩
   ·exact ⟨hlt, (h.bR k ho).2⟩
   ·exact ⟨hlt, by omega, by have := hng.1; omega, by have := hng.2; omega⟩
  lr := by rw [World.size_setCell]; have := h7.lr; have := hk.1; omega
  lR := by rw [List.length_append, List.length_singleton]; exact hl }
theorem RS.setMixed {w0 W : World} {gr gp : Nat} {v0 v1 v3 : Value} {st : Pst} {okS okR : Nat → Prop} (h : RS w0 W gr gp v0 v1 v3 st okS okR) (t : ByteArray) (hm : st.metM ≠ 0) : RS w0 (W.setCell ⟨gp, 2, none⟩ (.string t)) gr gp v0 v1 v3 { st with mixed := t } okS okR :=
 { h with
  blk := blk_set h.blk 2 _
  rC := Kd.R_mono (Kd.R_far (Kd.R_tight rfl h.rC) (p := ⟨gp, 2, none⟩) (fun k he => (h.dC k he.symm).2.1) _) (fun _ _ => trivial)
  rS := Kd.R_far h.rS (p := ⟨gp, 2, none⟩) (fun k ho => (h.bS k ho).2.2.2.1) _
  rR := Kd.N_far h.rR (p := ⟨gp, 2, none⟩) (fun k ho => (h.bR k ho).2.2.2) _
  bS := fun k ho => ⟨by rw [World.size_setCell]; exact (h.bS k ho).1, (h.bS k ho).2⟩
  bR := fun k ho => ⟨by rw [World.size_setCell]; exact (h.bR k ho).1, (h.bR k ho).2⟩
  lr := by rw [World.size_setCell]; exact h.lr
  eM := fun h0 => absurd h0 hm }
theorem RS.setAllow {w0 W : World} {gr gp : Nat} {v0 v1 v3 : Value} {st : Pst} {okS okR : Nat → Prop} (h : RS w0 W gr gp v0 v1 v3 st okS okR) (b : Bool) (hm : st.metD ≠ 0) : RS w0 (W.setCell ⟨gp, 4, none⟩ (.bool b)) gr gp v0 v1 v3 { st with allow := b } okS okR :=
 { h with
  blk := blk_set h.blk 4 _
  rC := Kd.R_mono (Kd.R_far (Kd.R_tight rfl h.rC) (p := ⟨gp, 4, none⟩) (fun k he => (h.dC k he.symm).2.1) _) (fun _ _ => trivial)
  rS := Kd.R_far h.rS (p := ⟨gp, 4, none⟩) (fun k ho => (h.bS k ho).2.2.2.1) _
  rR := Kd.N_far h.rR (p := ⟨gp, 4, none⟩) (fun k ho => (h.bR k ho).2.2.2) _
  bS := fun k ho => ⟨by rw [World.size_setCell]; exact (h.bS k ho).1, (h.bS k ho).2⟩
  bR := fun k ho => ⟨by rw [World.size_setCell]; exact (h.bR k ho).1, (h.bR k ho).2⟩
  lr := by rw [World.size_setCell]; exact h.lr
  eD := fun h0 => absurd h0 hm }
theorem RS.metM {w0 W : World} {gr gp : Nat} {v0 v1 v3 : Value} {st : Pst} {okS okR : Nat → Prop} (h : RS w0 W gr gp v0 v1 v3 st okS okR) (h0 : st.metM = 0) : RS w0 W gr gp v0 v1 v3 { st with metM := st.metM + 1 } okS okR :=
 { h with lM := by show st.metM + 1 ≤ 1; omega, eM := fun hn => absurd hn (Nat.succ_ne_zero _) }
theorem RS.metD {w0 W : World} {gr gp : Nat} {v0 v1 v3 : Value} {st : Pst} {okS okR : Nat → Prop} (h : RS w0 W gr gp v0 v1 v3 st okS okR) (h0 : st.metD = 0) : RS w0 W gr gp v0 v1 v3 { st with metD := st.metD + 1 } okS okR :=
 { h with lD := by show st.metD + 1 ≤ 1; omega, eD := fun hn => absurd hn (Nat.succ_ne_zero _) }
def Sit (w0 W : World) (gr gp : Nat) (T : List Tk) (e : Int) (R : Except (Int × Int) Pst) (gk : Nat) (mx df : Bool) (n i c a : Int) : Prop :=
 (c ≠ 0 ∧ 0 ≤ i ∧ R = .error (c, a)) ∨
 ∃ (f : Nat) (st : Pst) (p : Nat) (v0 v1 v3 : Value) (okS okR : Nat → Prop), i = (p : Int) ∧ c = 0 ∧ a = 0 ∧ mx = decide (st.metM = 1) ∧ df = decide (st.metD = 1) ∧ n = (st.items : Int) ∧ T.length + 1 ≤ f + p ∧ T.length - p + 1 ≤ gk ∧ R = itemsP T e f st p ∧ RS w0 W gr gp v0 v1 v3 st okS okR
def MidQ (w0 W : World) (gr gp : Nat) (T : List Tk) (e : Int) (R : Except (Int × Int) Pst) (p0 : Nat) (mx df : Bool) (n i c a : Int) : Prop :=
 (c ≠ 0 ∧ 0 ≤ i ∧ R = .error (c, a)) ∨
 ∃ (f : Nat) (st : Pst) (q : Nat) (v0 v1 v3 : Value) (okS okR : Nat → Prop), i = (q : Int) ∧ c = 0 ∧ a = 0 ∧ p0 < q ∧ mx = decide (st.metM = 1) ∧ df = decide (st.metD = 1) ∧ n + 1 = (st.items : Int) ∧ T.length ≤ f + p0 ∧ R = endK T e f st (takeP T e 5 q) ∧ RS w0 W gr gp v0 v1 v3 st okS okR
theorem mid_next {w0 w : World} {gr gp : Nat} {T : List Tk} {e : Int} {R : Except (Int × Int) Pst} {p0 : Nat} {mx df : Bool} {n i c a : Int} (h : MidQ w0 w gr gp T e R p0 mx df n i c a) (hp : p0 < T.length) (hT : T.length ≤ 1000000) (hI : IsR w0 w gr T i e c a) (hB : Below w0.heap.size w0 w) :
  Calls Tryd.prog 28 #[.pointer (some ⟨gr, 0, none⟩), .int .i64 5] w fun e' w' => ∃ t i2 c2 a2, e' = .returned (.string t) ∧ IsR w0 w' gr T i2 e c2 a2 ∧ Below w0.heap.size w0 w' ∧ Sit w0 w' gr gp T e R (T.length - p0) mx df (n + 1) i2 c2 a2 := by
 rcases h with ⟨hc, hi, hR⟩ | ⟨f, st, q, v0, v1, v3, okS, okR, rfl, rfl, rfl, hq, hm, hd, hn, hf, hR, hS⟩
 ·exact (r_next_bad 5 hi hc hT hI hB).mono fun e' w' ⟨h1, h2, h3, h4⟩ => ⟨_, i, c, a, h1, h2, h3, .inl ⟨hc, hi, hR⟩⟩
 ·obtain ⟨t, i2, c2, a2, hQ, hC⟩ := r_next (T := T) (e := e) 5 q (by decide) hT hI hB
  refine hC.mono fun e' w' ⟨h1, h2, h3, h4⟩ => ⟨t, i2, c2, a2, h1, h2, h3, ?_⟩
  cases ht : takeP T e 5 q with
  | error x =>
   obtain ⟨x, y⟩ := x
   rw [ht] at hQ hR
   obtain ⟨hx, hi, rfl, rfl, _⟩ := hQ
   exact .inl ⟨hx, hi, hR⟩
  | ok x =>
   obtain ⟨t', q2⟩ := x
   rw [ht] at hQ hR
   obtain ⟨rfl, rfl, rfl, rfl⟩ := hQ
   have h5 := takeP_mono ht
   exact .inr ⟨f, st, q2, v0, v1, v3, okS, okR, rfl, rfl, rfl, hm, hd, hn, by omega, by omega, hR, hS.keep h4⟩
def PolQR (w : World) (r : Except (Int × Int) Pst) (e : Ending) (w' : World) : Prop :=
 match r with
 | .ok st => ∃ v0 v1 v3, e = .returned (.tuple #[.agg (polcells v0 v1 st.mixed v3 st.allow), faultV (0, 0)]) ∧ Kd.R Kd.string 9 w' w.heap.size (fun k_ => (w.heap.size ≤ k_)) v0 st.csp ∧ Kd.R k47 47 w' w.heap.size (fun k_ => (w.heap.size ≤ k_) ∧ some k_ ≠ (v0 : Value).ownBlock) v1 st.shares ∧ Kd.V k41 41 w' w.heap.size (fun k_ => (w.heap.size ≤ k_) ∧ (some k_ ≠ (v0 : Value).ownBlock ∧ some k_ ≠ (v1 : Value).ownBlock)) v3 st.rules ∧ Below w.heap.size w w'
 | .error f => e = .returned (.tuple #[zeroPol, faultV f]) ∧ Below w.heap.size w w'
theorem rl_mkF (W : World) (ok : Nat → Prop) (x : Rl) {v : Value} (h : Kd.V k39 39 W 0 ok v x.f1.f2) : Kd.FK k41 W ok x [.bool x.f0, .int .i64 x.f1.f0, .string x.f1.f1.f0, .string x.f1.f1.f1, v] := by
 obtain ⟨A, c, rfl, hl, hF⟩ := h
 exact fun W2 hW => k41_mk W2 x hl (hF W2 hW)
theorem rpol_results (tmps : Array Value) (w : World) (gp gf : Nat) (cs fs : Array Value) (h2 : tmps.getD 2 undef = .pointer (some ⟨gp, 0, none⟩)) (h3 : tmps.getD 3 undef = .pointer (some ⟨gf, 0, none⟩))
  (hp : w.heap[gp]? = some (.cells cs 26 (0, 0))) (hf : w.heap[gf]? = some (.cells fs 50 (0, 0))) (hc : cs.size = 5) (hfs : fs.size = 2) :
  (results Tryd.f14 tmps).run Tryd.prog w = .ok (.tuple #[.agg cs, .agg fs]) w :=
 results_list (rs := [.cell 2 26, .cell 3 50]) rfl (by simp) (.cell gp _ cs (0, 0) _ h2 hp Tryd.underlying26 rfl (by rw [hc]; exact size_pol) (.cell gf _ fs (0, 0) _ h3 hf Tryd.underlying50 rfl (by rw [hfs]; exact size_fault) .nil))
end Go.Proofs.YtdlahgamdigkhaaDoor.Pu
