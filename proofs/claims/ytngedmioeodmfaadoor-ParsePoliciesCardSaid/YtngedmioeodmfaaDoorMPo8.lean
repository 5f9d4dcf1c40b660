/- 14 texts of the proof, put together, less what is not used; what a tool printed stands among them. -/
import Derived.KernelRfl
import Derived.Test.YtngedmioeodmfaaDoorMPo7
namespace Go.Proofs.YtngedmioeodmfaaDoor.Pu
open Go.RowKit Go.Proofs.YtngedmioeodmfaaDoor.Pr Go.Proofs.YtngedmioeodmfaaDoorW.PrintWords Go.Proofs.YtngedmioeodmfaaDoor.Lx
open Go.Proofs.YtngedmioeodmfaaDoor.Ps hiding Tk
set_option linter.unusedVariables false
set_option linter.unusedSimpArgs false
theorem bt_rng (s : ByteArray) (j : Nat) : 0 ≤ bt s (j : Int) ∧ bt s (j : Int) ≤ 255 := by
  rw [bt_getD]
  have := (s.data.toList.getD j 0).toNat_lt
  omega
theorem letter_f {c : Int} (h : 0 ≤ c ∧ c ≤ 255) : parapetref1_Letter.f c = some (pLetter c) := by
  have h2 : ∀ q : Fin 256, parapetref1_Letter.f (q.val : Int) = some (pLetter (q.val : Int)) := by decide +kernel
  have := h2 ⟨c.toNat, by omega⟩
  rwa [show ((c.toNat : Nat) : Int) = c by omega] at this
theorem digit_f {c : Int} (h : 0 ≤ c ∧ c ≤ 255) : parapetref1_Digit.f c = some (decide (48 ≤ c) && decide (c ≤ 57)) := by
  have h2 : ∀ q : Fin 256, parapetref1_Digit.f (q.val : Int) = some (decide (48 ≤ (q.val : Int)) && decide ((q.val : Int) ≤ 57)) := by decide +kernel
  have := h2 ⟨c.toNat, by omega⟩
  rwa [show ((c.toNat : Nat) : Int) = c by omega] at this
theorem word_is {c : Int} (h : 0 ≤ c ∧ c ≤ 255) : pWord c = (pLetter c || (decide (48 ≤ c) && decide (c ≤ 57)) || decide (c = 45) || decide (c = 95)) := by
  have h2 : ∀ q : Fin 256, pWord (q.val : Int) = (pLetter (q.val : Int) || (decide (48 ≤ (q.val : Int)) && decide ((q.val : Int) ≤ 57)) || decide ((q.val : Int) = 45) || decide ((q.val : Int) = 95)) := by decide +kernel
  have := h2 ⟨c.toNat, by omega⟩
  rwa [show ((c.toNat : Nat) : Int) = c by omega] at this
theorem blank_is {c : Int} (h : 0 ≤ c ∧ c ≤ 255) : pBlank c = (decide (c = 9) || decide (c = 10) || decide (c = 13) || decide (c = 32)) := by
  have h2 : ∀ q : Fin 256, pBlank (q.val : Int) = (decide ((q.val : Int) = 9) || decide ((q.val : Int) = 10) || decide ((q.val : Int) = 13) || decide ((q.val : Int) = 32)) := by decide +kernel
  have := h2 ⟨c.toNat, by omega⟩
  rwa [show ((c.toNat : Nat) : Int) = c by omega] at this
def wl (l : List Int) : Nat := (l.takeWhile pWord).length
theorem wl_le (l : List Int) : wl l ≤ l.length := (List.takeWhile_sublist _).length_le
theorem word_loop (x : ByteArray) (hx : x.size ≤ 3000) : ∀ (d j : Nat), j ≤ x.size → x.size - j ≤ d → Ev (fun k => parapetref19_word.l0 k x (j : Int)) ((j + wl ((bytesOf x).drop j) : Nat) : Int)
  | d, j, hj, hd => by
    by_cases hlt : j < x.size
    · obtain ⟨d, rfl⟩ : ∃ d', d = d' + 1 := ⟨d - 1, by omega⟩
      have hr := bt_rng x j
      have hw : wrap64 ((j : Int) + 1) = ((j + 1 : Nat) : Int) := by unfold wrap64; omega
      rw [bt_drop x j hlt, wl, List.takeWhile_cons]
      cases hp : pWord (bt x (j : Int)) with
      | true =>
        rw [if_pos rfl, List.length_cons]
        have ih := word_loop x hx d (j + 1) (by omega) (by omega)
        rw [wl] at ih
        rw [show j + ((((bytesOf x).drop (j + 1)).takeWhile pWord).length + 1) = j + 1 + (((bytesOf x).drop (j + 1)).takeWhile pWord).length by omega]
        refine Ev.step (fun k => ?_) ih
        rw [parapetref19_word.l0, if_pos (by omega), if_pos (by omega), letter_f hr, Option.bind_some, hw]
        rw [word_is hr] at hp
        cases h1 : pLetter (bt x (j : Int)) with
        | true => rw [if_pos rfl]
        | false =>
          rw [if_neg Bool.false_ne_true, digit_f hr, Option.bind_some]
          cases h2 : (decide (48 ≤ bt x (j : Int)) && decide (bt x (j : Int) ≤ 57)) with
          | true => rw [if_pos rfl]
          | false =>
            rw [if_neg Bool.false_ne_true]
            rw [h1, h2, Bool.false_or, Bool.false_or, Bool.or_eq_true, decide_eq_true_eq, decide_eq_true_eq] at hp
            by_cases h3 : bt x (j : Int) = 45
            · rw [if_pos h3]
            · rw [if_neg h3, if_pos (hp.resolve_left h3)]
      | false =>
        rw [if_neg Bool.false_ne_true]
        rw [word_is hr, Bool.or_eq_false_iff, Bool.or_eq_false_iff, Bool.or_eq_false_iff] at hp
        obtain ⟨⟨⟨h1, h2⟩, h3⟩, h4⟩ := hp
        refine Ev.step (f := fun _ => some (j : Int)) (fun k => ?_) (Ev.const fun _ => rfl)
        rw [parapetref19_word.l0, if_pos (by omega), if_pos (by omega), letter_f hr, Option.bind_some, h1, if_neg Bool.false_ne_true, digit_f hr, Option.bind_some, h2, if_neg Bool.false_ne_true, if_neg (of_decide_eq_false h3), if_neg (of_decide_eq_false h4)]
    · rw [List.drop_eq_nil_of_le (by rw [bytesOf_length]; omega)]
      refine Ev.step (f := fun _ => some (j : Int)) (fun k => ?_) (Ev.const fun _ => rfl)
      rw [parapetref19_word.l0, if_neg (by omega)]
theorem word_ev (x : ByteArray) (hx : x.size ≤ 3000) (h0 : 0 < x.size) : Ev (fun k => parapetref19_word.f k x) (if pLetter (bt x 0) = true then ((1 + wl ((bytesOf x).drop 1) : Nat) : Int) else 0) := by
  have hr := bt_rng x 0
  have hne : ¬ x.toList = ([] : List UInt8) := by
    intro h
    have : x = ⟨#[]⟩ := bytes_toList.1 (h.trans (show ([] : List UInt8) = (⟨#[]⟩ : ByteArray).toList by decide +kernel))
    rw [this] at h0
    exact absurd h0 (by decide)
  have hs : ∀ k, parapetref19_word.f k x = parapetref19_word.j0 k x (!pLetter (bt x 0)) := by
    intro k
    rw [parapetref19_word.f, if_neg hne, if_pos (by omega)]
    have := letter_f hr
    rw [show ((0 : Nat) : Int) = 0 from rfl] at this
    rw [this]; rfl
  refine ev_eqq hs ?_
  cases hl : pLetter (bt x 0) with
  | true =>
    rw [if_pos rfl]
    refine Ev.step (fun k => ?_) (word_loop x hx x.size 1 (by omega) (by omega))
    rw [parapetref19_word.j0, if_neg (by decide)]; rfl
  | false =>
    rw [if_neg Bool.false_ne_true]
    refine Ev.step (f := fun _ => some 0) (fun k => ?_) (Ev.const fun _ => rfl)
    rw [parapetref19_word.j0, if_pos (by decide)]
/-- The text's bytes from i up to E. -/
def seg (s : ByteArray) (E i : Nat) : List Int := ((bytesOf s).drop i).take (E - i)
theorem seg_cons {s : ByteArray} {E i : Nat} (hE : E ≤ s.size) (h : i < E) : seg s E i = bt s (i : Int) :: seg s E (i + 1) := by
  rw [seg, bt_drop s i (by omega), show E - i = (E - (i + 1)) + 1 by omega, List.take_succ_cons]; rfl
theorem seg_end {s : ByteArray} {E i : Nat} (h : E ≤ i) : seg s E i = [] := by
  rw [seg, show E - i = 0 by omega, List.take_zero]
theorem seg_bytes (s : ByteArray) (E i : Nat) : bytesOf (s.extract i E) = seg s E i := by
  unfold seg bytesOf
  rw [← List.map_drop, ← List.map_take]
  congr 1
  rw [ByteArray.data_extract]
  simp
/-- What the reference hands back where the machine stands so at the end. -/
def refT (s : ByteArray) (E : Nat) : One → List Tk × Int
  | .bad j => ([], (j : Int))
  | .go .sk ts => (ts, -1)
  | .go .nt ts => (ts, -1)
  | .go (.wd a acc) ts => (ts ++ [⟨1, (a : Int), strOfNums acc⟩], -1)
  | .go (.qt _ _) _ => ([], (E : Int))
  | .go (.es _ p _) _ => if E < s.size ∧ ¬ (bt s (E : Int) = 34 ∨ bt s (E : Int) = 92) then ([], (p : Int)) else ([], (E : Int))
theorem rs_cons (i : Nat) (st : St) (ts : List Tk) (c : Int) (l : List Int) : rs i st ts (c :: l) = match step i c st ts with | .bad j => .bad j | .go st' ts' => rs (i + 1) st' ts' l := rfl
theorem quoted_ev {s : ByteArray} {E : Nat} (hE : E ≤ s.size) (hs : s.size ≤ 3000) (a : Nat) (ts : List Tk) : ∀ (d i : Nat) (acc : List Int), i ≤ E → E - i ≤ d → acc.length ≤ i → ∃ t j ok, Ev (fun k => parapetref19_quoted.l0 k s (i : Int) (E : Int) acc) (t, j, ok) ∧
    ((ok = true ∧ ∃ q : Nat, j = (q : Int) ∧ i < q ∧ q ≤ E ∧ rs i (.qt a acc) ts (seg s E i) = rs q .sk (ts ++ [⟨2, (a : Int), t⟩]) (seg s E q)) ∨ (ok = false ∧ 0 ≤ j ∧ refT s E (rs i (.qt a acc) ts (seg s E i)) = ([], j))) := by
  intro d
  induction d with
  | zero =>
    intro i acc hi hd ha
    refine ⟨_, _, _, Ev.step (f := fun _ => some ((⟨#[]⟩ : ByteArray), (E : Int), false)) (fun k => ?_) (Ev.const fun _ => rfl), .inr ⟨rfl, by omega, ?_⟩⟩
    · rw [parapetref19_quoted.l0, if_pos (by omega)]
    · rw [seg_end (by omega)]; rfl
  | succ d ih =>
    intro i acc hi hd ha
    by_cases hlt : i < E
    · have hw : wrap64 ((i : Int) + 1) = ((i + 1 : Nat) : Int) := by unfold wrap64; omega
      have hw2 : wrap64 (((i + 1 : Nat) : Int) + 1) = ((i + 2 : Nat) : Int) := by unfold wrap64; omega
      obtain ⟨c, hc⟩ : ∃ c, c = bt s (i : Int) := ⟨_, rfl⟩
      rw [seg_cons hE hlt, rs_cons, ← hc]
      have hpre : ∀ k, parapetref19_quoted.l0 (k + 1) s (i : Int) (E : Int) acc = (if c = 34 then (some (strOfNums acc, wrap64 ((i : Int) + 1), true)) else (if c = 10 then (some ((⟨#[]⟩ : ByteArray), (i : Int), false)) else (if c = 92 then (if (wrap64 ((i : Int) + 1)) ≥ (s.size : Int) then (some ((⟨#[]⟩ : ByteArray), (s.size : Int), false)) else (if 0 ≤ (wrap64 ((i : Int) + 1)) then (if (wrap64 ((i : Int) + 1)) < (s.size : Int) then (if (bt s (wrap64 ((i : Int) + 1))) = 34 then (if acc.length < 140737488355328 then (parapetref19_quoted.l0 k s (wrap64 ((wrap64 ((i : Int) + 1)) + 1)) (E : Int) (acc ++ [bt s (wrap64 ((i : Int) + 1))])) else (none)) else (if (bt s (wrap64 ((i : Int) + 1))) = 92 then (if acc.length < 140737488355328 then (parapetref19_quoted.l0 k s (wrap64 ((wrap64 ((i : Int) + 1)) + 1)) (E : Int) (acc ++ [bt s (wrap64 ((i : Int) + 1))])) else (none)) else (some ((⟨#[]⟩ : ByteArray), (i : Int), false)))) else (none)) else (none))) else (if acc.length < 140737488355328 then (parapetref19_quoted.l0 k s (wrap64 ((i : Int) + 1)) (E : Int) (acc ++ [c])) else (none))))) := by
        intro k
        rw [parapetref19_quoted.l0, if_neg (by omega), if_pos (by omega), if_pos (by omega), ← hc]
      rw [hw, hw2] at hpre
      by_cases c1 : c = 34
      · refine ⟨_, _, _, Ev.step (f := fun _ => some (strOfNums acc, ((i + 1 : Nat) : Int), true)) (fun k => by rw [hpre, if_pos c1]) (Ev.const fun _ => rfl), .inl ⟨rfl, i + 1, rfl, by omega, by omega, ?_⟩⟩
        rw [step, if_pos c1]
      · by_cases c2 : c = 10
        · refine ⟨_, _, _, Ev.step (f := fun _ => some ((⟨#[]⟩ : ByteArray), (i : Int), false)) (fun k => by rw [hpre, if_neg c1, if_pos c2]) (Ev.const fun _ => rfl), .inr ⟨rfl, by omega, ?_⟩⟩
          rw [step, if_neg c1, if_pos c2]; rfl
        · by_cases c3 : c = 92
          · have hst : step i c (.qt a acc) ts = .go (.es a i acc) ts := by rw [step, if_neg c1, if_neg c2, if_pos c3]
            rw [hst]
            by_cases hz : i + 1 < s.size
            · obtain ⟨c', hc'⟩ : ∃ c', c' = bt s ((i + 1 : Nat) : Int) := ⟨_, rfl⟩
              rw [← hc'] at hpre
              by_cases h5 : c' = 34 ∨ c' = 92
              · have hgo : ∀ k, parapetref19_quoted.l0 (k + 1) s (i : Int) (E : Int) acc = parapetref19_quoted.l0 k s ((i + 2 : Nat) : Int) (E : Int) (acc ++ [c']) := by
                  intro k
                  rw [hpre, if_neg c1, if_neg c2, if_pos c3, if_neg (by omega), if_pos (by omega), if_pos (by omega)]
                  rcases h5 with h5 | h5
                  · rw [if_pos h5, if_pos (by omega)]
                  · rw [if_neg (by omega), if_pos h5, if_pos (by omega)]
                by_cases h6 : i + 1 < E
                · obtain ⟨t, j, ok, g1, g2⟩ := ih (i + 2) (acc ++ [c']) (by omega) (by omega) (by rw [List.length_append, List.length_singleton]; omega)
                  have hrs : rs (i + 1) (.es a i acc) ts (seg s E (i + 1)) = rs (i + 2) (.qt a (acc ++ [c'])) ts (seg s E (i + 2)) := by
                    rw [seg_cons hE h6, rs_cons, ← hc', step, if_pos h5]
                  refine ⟨t, j, ok, Ev.step hgo g1, ?_⟩
                  show (_ ∧ ∃ q : Nat, _ ∧ _ ∧ _ ∧ rs (i + 1) (.es a i acc) ts (seg s E (i + 1)) = _) ∨ (_ ∧ _ ∧ refT s E (rs (i + 1) (.es a i acc) ts (seg s E (i + 1))) = _)
                  rw [hrs]
                  rcases g2 with ⟨h7, q, h8, h9, h10, h11⟩ | h7
                  · exact .inl ⟨h7, q, h8, by omega, h10, h11⟩
                  · exact .inr h7
                · refine ⟨_, _, _, Ev.step hgo (Ev.step (f := fun _ => some ((⟨#[]⟩ : ByteArray), (E : Int), false)) (fun k => ?_) (Ev.const fun _ => rfl)), .inr ⟨rfl, by omega, ?_⟩⟩
                  · rw [parapetref19_quoted.l0, if_pos (by omega)]
                  · show refT s E (rs (i + 1) (.es a i acc) ts (seg s E (i + 1))) = _
                    rw [seg_end (by omega), rs, refT, if_neg]
                    rw [show E = i + 1 by omega, ← hc']
                    intro h; exact h.2 h5
              · refine ⟨_, _, _, Ev.step (f := fun _ => some ((⟨#[]⟩ : ByteArray), (i : Int), false)) (fun k => ?_) (Ev.const fun _ => rfl), .inr ⟨rfl, by omega, ?_⟩⟩
                · rw [hpre, if_neg c1, if_neg c2, if_pos c3, if_neg (by omega), if_pos (by omega), if_pos (by omega), if_neg (fun h => h5 (.inl h)), if_neg (fun h => h5 (.inr h))]
                · show refT s E (rs (i + 1) (.es a i acc) ts (seg s E (i + 1))) = _
                  by_cases h6 : i + 1 < E
                  · rw [seg_cons hE h6, rs_cons, ← hc', step, if_neg h5]; rfl
                  · rw [seg_end (by omega), rs, refT, if_pos]
                    rw [show E = i + 1 by omega, ← hc']
                    exact ⟨hz, h5⟩
            · refine ⟨_, _, _, Ev.step (f := fun _ => some ((⟨#[]⟩ : ByteArray), (s.size : Int), false)) (fun k => ?_) (Ev.const fun _ => rfl), .inr ⟨rfl, by omega, ?_⟩⟩
              · rw [hpre, if_neg c1, if_neg c2, if_pos c3, if_pos (by omega)]
              · show refT s E (rs (i + 1) (.es a i acc) ts (seg s E (i + 1))) = _
                rw [seg_end (by omega), rs, refT, if_neg (by omega), show E = s.size by omega]
          · obtain ⟨t, j, ok, g1, g2⟩ := ih (i + 1) (acc ++ [c]) (by omega) (by omega) (by rw [List.length_append, List.length_singleton]; omega)
            have hst : step i c (.qt a acc) ts = .go (.qt a (acc ++ [c])) ts := by rw [step, if_neg c1, if_neg c2, if_neg c3]
            rw [hst]
            refine ⟨t, j, ok, Ev.step (fun k => by rw [hpre, if_neg c1, if_neg c2, if_neg c3, if_pos (by omega)]) g1, ?_⟩
            rcases g2 with ⟨h7, q, h8, h9, h10, h11⟩ | h7
            · exact .inl ⟨h7, q, h8, by omega, h10, h11⟩
            · exact .inr h7
    · refine ⟨_, _, _, Ev.step (f := fun _ => some ((⟨#[]⟩ : ByteArray), (E : Int), false)) (fun k => ?_) (Ev.const fun _ => rfl), .inr ⟨rfl, by omega, ?_⟩⟩
      · rw [parapetref19_quoted.l0, if_pos (by omega)]
      · rw [seg_end (by omega)]; rfl
end Go.Proofs.YtngedmioeodmfaaDoor.Pu
namespace Go.Proofs.YtngedmioeodmfaaDoor.Pu
open Go.RowKit Go.Proofs.YtngedmioeodmfaaDoor.Pr Go.Proofs.YtngedmioeodmfaaDoorW.PrintWords Go.Proofs.YtngedmioeodmfaaDoor.Lx
open Go.Proofs.YtngedmioeodmfaaDoor.Ps hiding Tk
set_option linter.unusedVariables false
set_option linter.unusedSimpArgs false
theorem rs_wordL (a : Nat) (ts : List Tk) : ∀ (l : List Int) (i : Nat) (acc : List Int), rs i (.wd a acc) ts l = rs (i + wl l) (.wd a (acc ++ l.takeWhile pWord)) ts (l.drop (wl l))
  | [], i, acc => by simp [wl]
  | c :: l, i, acc => by
    cases hp : pWord c with
    | true =>
      rw [rs_cons, step, if_pos hp]
      show rs (i + 1) (.wd a (acc ++ [c])) ts l = _
      rw [rs_wordL a ts l (i + 1) (acc ++ [c]), wl, wl, List.takeWhile_cons, if_pos hp, List.length_cons, List.drop_succ_cons, List.append_assoc, show i + 1 + (l.takeWhile pWord).length = i + ((l.takeWhile pWord).length + 1) by omega]
      rfl
    | false => simp [wl, List.takeWhile_cons, hp]
theorem wl_head : ∀ l : List Int, l.drop (wl l) = [] ∨ ∃ c r, l.drop (wl l) = c :: r ∧ pWord c = false
  | [] => .inl rfl
  | c :: l => by
    cases hp : pWord c with
    | true => simpa [wl, List.takeWhile_cons, hp] using wl_head l
    | false => exact .inr ⟨c, l, by simp [wl, List.takeWhile_cons, hp], hp⟩
theorem wd_sk {s : ByteArray} {E i a : Nat} {acc : List Int} {ts : List Tk} : ∀ {l : List Int}, (l = [] ∨ ∃ c r, l = c :: r ∧ pWord c = false) → refT s E (rs i (.wd a acc) ts l) = refT s E (rs i .sk (ts ++ [⟨1, (a : Int), strOfNums acc⟩]) l)
  | _, .inl rfl => rfl
  | _, .inr ⟨c, r, rfl, hp⟩ => by
    have hst : step i c (.wd a acc) ts = step i c .sk (ts ++ [⟨1, (a : Int), strOfNums acc⟩]) := by rw [step, step, if_neg (show ¬ (pWord c = true) by rw [hp]; decide)]
    rw [rs_cons, rs_cons, hst]
theorem seg_drop (s : ByteArray) (E i n : Nat) : (seg s E i).drop n = seg s E (i + n) := by
  rw [seg, seg, List.drop_take, List.drop_drop, show E - i - n = E - (i + n) by omega]
theorem note_ev {s : ByteArray} {E : Nat} (hE : E ≤ s.size) (hs : s.size ≤ 3000) (D : Nat) (H : ∀ (i : Nat) (ts : List Tk), i ≤ E → E - i ≤ D → ts.length ≤ i → Ev (fun k => parapetref19_tokens.l0 k s (E : Int) ts (i : Int)) (refT s E (rs i .sk ts (seg s E i)))) :
    ∀ (d i : Nat) (ts : List Tk), i ≤ E → E - i ≤ d → d ≤ D → ts.length ≤ i → Ev (fun k => parapetref19_tokens.l1 k s (E : Int) ts (i : Int)) (refT s E (rs i .nt ts (seg s E i))) := by
  intro d
  induction d with
  | zero =>
    intro i ts hi hd hD ht
    refine Ev.step (fun k => ?_) ((H i ts hi (by omega) ht).eq ?_)
    · rw [parapetref19_tokens.l1, if_neg (by omega)]
    · rw [seg_end (by omega)]; rfl
  | succ d ih =>
    intro i ts hi hd hD ht
    by_cases hlt : i < E
    · have hw : wrap64 ((i : Int) + 1) = ((i + 1 : Nat) : Int) := by unfold wrap64; omega
      by_cases h1 : bt s (i : Int) = 10
      · refine Ev.step (fun k => ?_) ((H i ts hi (by omega) ht).eq ?_)
        · rw [parapetref19_tokens.l1, if_pos (by omega), if_pos (by omega), if_pos (by omega), if_pos h1]
        · rw [seg_cons hE hlt, rs_cons, rs_cons, h1, step, step, if_pos rfl, st1, if_pos (by decide +kernel)]
      · refine Ev.step (fun k => ?_) ((ih (i + 1) ts (by omega) (by omega) (by omega) (by omega)).eq ?_)
        · rw [parapetref19_tokens.l1, if_pos (by omega), if_pos (by omega), if_pos (by omega), if_neg h1, hw]
        · rw [seg_cons hE hlt, rs_cons, step, if_neg h1]
    · refine Ev.step (fun k => ?_) ((H i ts hi (by omega) ht).eq ?_)
      · rw [parapetref19_tokens.l1, if_neg (by omega)]
      · rw [seg_end (by omega)]; rfl
section
variable {s : ByteArray} {E i : Nat} {ts : List Tk} {c : Int}
def wN (s : ByteArray) (E i : Nat) (c : Int) : Int := if pLetter c = true then ((1 + wl (seg s E (i + 1)) : Nat) : Int) else 0
theorem tok_word_ev (hE : E ≤ s.size) (hs : s.size ≤ 3000) (hlt : i < E) (hc : c = bt s (i : Int)) : Ev (fun k => parapetref19_word.f k (s.extract i E)) (wN s E i c) := by
  have hxs : (s.extract i E).size = E - i := by rw [ByteArray.size_extract]; omega
  have hb := bt_drop (s.extract i E) 0 (by omega)
  rw [List.drop_zero, seg_bytes, seg_cons hE hlt] at hb
  injection hb with hb1 hb2
  have hwd := word_ev (s.extract i E) (by omega) (by omega)
  rw [show bt (s.extract i E) 0 = bt s (i : Int) from hb1.symm, seg_bytes, show (seg s E i).drop 1 = seg s E (i + 1) from seg_drop s E i 1, ← hc] at hwd
  exact hwd
theorem blank_split (c : Int) (hr : 0 ≤ c ∧ c ≤ 255) {α : Type} (f : Bool → α) : (if c = 9 then f true else if c = 10 then f true else if c = 13 then f true else f (c == 32)) = f (pBlank c) := by
  rw [blank_is hr]
  by_cases c1 : c = 9
  · rw [if_pos c1, decide_eq_true c1]; rfl
  · rw [if_neg c1, decide_eq_false c1]
    by_cases c2 : c = 10
    · rw [if_pos c2, decide_eq_true c2]; rfl
    · rw [if_neg c2, decide_eq_false c2]
      by_cases c3 : c = 13
      · rw [if_pos c3, decide_eq_true c3]; rfl
      · rw [if_neg c3, decide_eq_false c3]; rfl
theorem tok_enter (hE : E ≤ s.size) (hs : s.size ≤ 3000) (hlt : i < E) (hc : c = bt s (i : Int)) {r : List Tk × Int} (h : Ev (fun k => parapetref19_tokens.j1 k s (E : Int) ts (i : Int) c (wN s E i c) (pBlank c)) r) : Ev (fun k => parapetref19_tokens.l0 k s (E : Int) ts (i : Int)) r := by
  have hr : 0 ≤ c ∧ c ≤ 255 := by rw [hc]; exact bt_rng s i
  refine Ev.step (fun k => ?_) (Ev.bind (tok_word_ev hE hs hlt hc) (f := fun k t369 => parapetref19_tokens.j1 k s (E : Int) ts (i : Int) c t369 (pBlank c)) h)
  rw [parapetref19_tokens.l0, if_pos (by omega), if_pos (by omega), if_pos (by omega), if_pos (by omega), if_pos (by omega), Int.toNat_natCast, Int.toNat_natCast, ← hc]
  congr 1
  funext t369
  exact blank_split c hr (fun b => parapetref19_tokens.j1 k s (E : Int) ts (i : Int) c t369 b)
theorem tok_blank (h1 : pBlank c = true) (hi : i ≤ 3000) {r : List Tk × Int} (h : Ev (fun k => parapetref19_tokens.l0 k s (E : Int) ts ((i + 1 : Nat) : Int)) r) : Ev (fun k => parapetref19_tokens.j1 k s (E : Int) ts (i : Int) c (wN s E i c) (pBlank c)) r := by
  have hw : wrap64 ((i : Int) + 1) = ((i + 1 : Nat) : Int) := by unfold wrap64; omega
  rw [h1]
  refine Ev.step (fun k => ?_) h
  rw [parapetref19_tokens.j1, if_pos rfl, hw]
theorem tok_note (h1 : pBlank c = false) (h2 : c = 35) {r : List Tk × Int} (h : Ev (fun k => parapetref19_tokens.l1 k s (E : Int) ts (i : Int)) r) : Ev (fun k => parapetref19_tokens.j1 k s (E : Int) ts (i : Int) c (wN s E i c) (pBlank c)) r := by
  rw [h1]
  refine Ev.step (fun k => ?_) h
  rw [parapetref19_tokens.j1, if_neg Bool.false_ne_true, if_pos h2]
theorem tok_word (h1 : pBlank c = false) (h2 : c ≠ 35) (h3 : pLetter c = true) {m : Nat} (hm : wl (seg s E (i + 1)) = m) (hi : i + (m + 1) ≤ s.size) (hs : s.size ≤ 3000) (hlen : ts.length < 4398046511104) {r : List Tk × Int} (h : Ev (fun k => parapetref19_tokens.l0 k s (E : Int) (ts ++ [⟨1, (i : Int), s.extract i (i + (m + 1))⟩]) ((i + (m + 1) : Nat) : Int)) r) : Ev (fun k => parapetref19_tokens.j1 k s (E : Int) ts (i : Int) c (wN s E i c) (pBlank c)) r := by
  have hw : wrap64 ((i : Int) + ((1 + m : Nat) : Int)) = ((i + (m + 1) : Nat) : Int) := by unfold wrap64; omega
  rw [h1, wN, if_pos h3, hm]
  refine Ev.step (fun k => ?_) h
  rw [parapetref19_tokens.j1, if_neg Bool.false_ne_true, if_neg h2, if_pos (by omega), if_pos (by omega), hw, if_pos (by omega), if_pos (by omega), if_pos hlen, Int.toNat_natCast, Int.toNat_natCast]
theorem tok_j (h1 : pBlank c = false) (h2 : c ≠ 35) (h3 : pLetter c = false) (hi : i ≤ 3000) (hlen : ts.length < 4398046511104) (k : Nat) : parapetref19_tokens.j1 (k + 1) s (E : Int) ts (i : Int) c (wN s E i c) (pBlank c) =
    if c = 34 then ((parapetref19_quoted.f k s (i : Int) (E : Int)).bind fun bt373 => (if bt373.2.2 = true then (parapetref19_tokens.l0 k s (E : Int) (ts ++ [(⟨2, (i : Int), bt373.1⟩ : S40)]) bt373.2.1) else (some (([] : List (S40)), bt373.2.1))))
    else if c = 40 then parapetref19_tokens.l0 k s (E : Int) (ts ++ [(⟨3, (i : Int), (⟨#[40]⟩ : ByteArray)⟩ : S40)]) ((i + 1 : Nat) : Int)
    else if c = 41 then parapetref19_tokens.l0 k s (E : Int) (ts ++ [(⟨4, (i : Int), (⟨#[41]⟩ : ByteArray)⟩ : S40)]) ((i + 1 : Nat) : Int)
    else if c = 59 then parapetref19_tokens.l0 k s (E : Int) (ts ++ [(⟨5, (i : Int), (⟨#[59]⟩ : ByteArray)⟩ : S40)]) ((i + 1 : Nat) : Int)
    else some ([], (i : Int)) := by
  have hw : wrap64 ((i : Int) + 1) = ((i + 1 : Nat) : Int) := by unfold wrap64; omega
  have h4 : ¬ (pLetter c = true) := by rw [h3]; decide
  rw [h1, wN, if_neg h4, parapetref19_tokens.j1, if_neg Bool.false_ne_true, if_neg h2, if_neg (by omega), hw]
  simp only [if_pos hlen]
theorem tok_op (h1 : pBlank c = false) (h2 : c ≠ 35) (h3 : pLetter c = false) (h5 : c ≠ 34) (h6 : c = 40 ∨ c = 41 ∨ c = 59) (hi : i ≤ 3000) (hlen : ts.length < 4398046511104) {r : List Tk × Int} (h : Ev (fun k => parapetref19_tokens.l0 k s (E : Int) (ts ++ [⟨opIdx c, (i : Int), strOfNums [c]⟩]) ((i + 1 : Nat) : Int)) r) : Ev (fun k => parapetref19_tokens.j1 k s (E : Int) ts (i : Int) c (wN s E i c) (pBlank c)) r := by
  refine Ev.step (fun k => ?_) h
  rw [tok_j h1 h2 h3 hi hlen, if_neg h5]
  rcases h6 with rfl | rfl | rfl
  · rw [if_pos rfl]; rfl
  · rw [if_neg (by decide), if_pos rfl]; rfl
  · rw [if_neg (by decide), if_neg (by decide), if_pos rfl]; rfl
theorem tok_bad (h1 : pBlank c = false) (h2 : c ≠ 35) (h3 : pLetter c = false) (h5 : c ≠ 34) (h6 : ¬ (c = 40 ∨ c = 41 ∨ c = 59)) (hi : i ≤ 3000) (hlen : ts.length < 4398046511104) : Ev (fun k => parapetref19_tokens.j1 k s (E : Int) ts (i : Int) c (wN s E i c) (pBlank c)) ([], (i : Int)) := by
  refine Ev.step (f := fun _ => some ([], (i : Int))) (fun k => ?_) (Ev.const fun _ => rfl)
  rw [tok_j h1 h2 h3 hi hlen, if_neg h5, if_neg (fun h => h6 (.inl h)), if_neg (fun h => h6 (.inr (.inl h))), if_neg (fun h => h6 (.inr (.inr h)))]
theorem tok_quo (hE : E ≤ s.size) (hs : s.size ≤ 3000) (hlt : i < E) (h1 : pBlank c = false) (h2 : c ≠ 35) (h3 : pLetter c = false) (h5 : c = 34) (hlen : ts.length ≤ i)
    (H : ∀ (j : Nat) (ts : List Tk), j ≤ E → E - j ≤ E - (i + 1) → ts.length ≤ j → Ev (fun k => parapetref19_tokens.l0 k s (E : Int) ts (j : Int)) (refT s E (rs j .sk ts (seg s E j)))) : Ev (fun k => parapetref19_tokens.j1 k s (E : Int) ts (i : Int) c (wN s E i c) (pBlank c)) (refT s E (rs (i + 1) (.qt i []) ts (seg s E (i + 1)))) := by
  have hw : wrap64 ((i : Int) + 1) = ((i + 1 : Nat) : Int) := by unfold wrap64; omega
  obtain ⟨t, j, ok, g1, g2⟩ := quoted_ev hE hs i ts (E - (i + 1)) (i + 1) [] (by omega) (by omega) (Nat.zero_le _)
  have hq : ∀ k, parapetref19_tokens.j1 (k + 1) s (E : Int) ts (i : Int) c (wN s E i c) (pBlank c) = (parapetref19_quoted.l0 k s ((i + 1 : Nat) : Int) (E : Int) []).bind fun bt373 => (if bt373.2.2 = true then (parapetref19_tokens.l0 k s (E : Int) (ts ++ [(⟨2, (i : Int), bt373.1⟩ : S40)]) bt373.2.1) else (some (([] : List (S40)), bt373.2.1))) := by
    intro k
    rw [tok_j h1 h2 h3 (by omega) (by omega), if_pos h5, parapetref19_quoted.f, hw]
  rcases g2 with ⟨rfl, q, rfl, e1, e2, e3⟩ | ⟨rfl, e1, e2⟩
  · refine Ev.step hq (Ev.bind g1 ?_)
    rw [e3]
    exact ev_eqq (fun k => by rw [if_pos rfl]) (H q _ e2 (by omega) (by rw [List.length_append, List.length_singleton]; omega))
  · refine Ev.step hq (Ev.bind g1 ?_)
    rw [e2]
    exact Ev.const fun k => by rw [if_neg Bool.false_ne_true]
theorem word_piece (hlt : i < E) (hE : E ≤ s.size) (hc : c = bt s (i : Int)) : s.extract i (i + (wl (seg s E (i + 1)) + 1)) = strOfNums (c :: (seg s E (i + 1)).takeWhile pWord) := by
  have hpc := piece (x := s) (a := i) (w := c :: (seg s E (i + 1)).takeWhile pWord) (rest := (seg s E (i + 1)).dropWhile pWord ++ ((bytesOf s).drop (i + 1)).drop (E - (i + 1))) (by
    rw [bt_drop s i (by omega), ← hc, List.cons_append, ← List.append_assoc, List.takeWhile_append_dropWhile, seg, List.take_append_drop])
  rw [List.length_cons] at hpc
  exact hpc.1
end
theorem tokens_loop {s : ByteArray} {E : Nat} (hE : E ≤ s.size) (hs : s.size ≤ 3000) : ∀ (d i : Nat) (ts : List Tk), i ≤ E → E - i ≤ d → ts.length ≤ i → Ev (fun k => parapetref19_tokens.l0 k s (E : Int) ts (i : Int)) (refT s E (rs i .sk ts (seg s E i))) := by
  intro d
  induction d with
  | zero =>
    intro i ts hi hd ht
    refine Ev.step (f := fun _ => some (ts, -1)) (fun k => ?_) ((Ev.const fun _ => rfl : Ev _ (ts, (-1 : Int))).eq ?_)
    · rw [parapetref19_tokens.l0, if_neg (by omega)]
    · rw [seg_end (by omega)]; rfl
  | succ d ih =>
    intro i ts hi hd ht
    by_cases hlt : i < E
    · obtain ⟨c, hc⟩ : ∃ c, c = bt s (i : Int) := ⟨_, rfl⟩
      refine tok_enter hE hs hlt hc ?_
      rw [seg_cons hE hlt, rs_cons, ← hc]
      cases hbl : pBlank c with
      | true =>
        have hst : step i c .sk ts = .go .sk ts := by rw [step, st1, if_pos hbl]
        rw [hst, ← hbl]
        exact tok_blank hbl (by omega) (ih (i + 1) ts (by omega) (by omega) (by omega))
      | false =>
        have hnb : ¬ (pBlank c = true) := by rw [hbl]; decide
        rw [← hbl]
        by_cases c1 : c = 35
        · have hst : step i c .sk ts = .go .nt ts := by rw [step, st1, if_neg hnb, if_pos c1]
          rw [hst]
          have hnt := note_ev hE hs d ih d (i + 1) ts (by omega) (by omega) (Nat.le_refl _) (by omega)
          refine tok_note hbl c1 (Ev.step (fun k => ?_) hnt)
          have hw : wrap64 ((i : Int) + 1) = ((i + 1 : Nat) : Int) := by unfold wrap64; omega
          rw [parapetref19_tokens.l1, if_pos (by omega), if_pos (by omega), if_pos (by omega), if_neg (by rw [← hc]; omega), hw]
        · cases hl : pLetter c with
          | true =>
            have hst : step i c .sk ts = .go (.wd i [c]) ts := by rw [step, st1, if_neg hnb, if_neg c1, if_pos hl]
            rw [hst]
            obtain ⟨m, hm⟩ : ∃ m, m = wl (seg s E (i + 1)) := ⟨_, rfl⟩
            have hle : m ≤ E - (i + 1) := by rw [hm]; exact Nat.le_trans (wl_le _) (by rw [seg, List.length_take]; exact Nat.min_le_left _ _)
            refine tok_word hbl c1 hl hm.symm (by omega) hs (by omega) ?_
            show Ev _ (refT s E (rs (i + 1) (.wd i [c]) ts (seg s E (i + 1))))
            have hpc := word_piece hlt hE hc
            rw [← hm] at hpc
            rw [rs_wordL, ← hm, wd_sk (by rw [hm]; exact wl_head _), seg_drop, show i + 1 + m = i + (m + 1) by omega, hpc]
            exact ih (i + (m + 1)) _ (by omega) (by omega) (by rw [List.length_append, List.length_singleton]; omega)
          | false =>
            have hnl : ¬ (pLetter c = true) := by rw [hl]; decide
            by_cases c2 : c = 34
            · have hst : step i c .sk ts = .go (.qt i []) ts := by rw [step, st1, if_neg hnb, if_neg c1, if_neg hnl, if_pos c2]
              rw [hst]
              exact tok_quo hE hs hlt hbl c1 hl c2 ht (fun j ts h1 h2 h3 => ih j ts h1 (by omega) h3)
            · by_cases c3 : c = 40 ∨ c = 41 ∨ c = 59
              · have hst : step i c .sk ts = .go .sk (ts ++ [⟨opIdx c, (i : Int), strOfNums [c]⟩]) := by rw [step, st1, if_neg hnb, if_neg c1, if_neg hnl, if_neg c2, if_pos c3]
                rw [hst]
                exact tok_op hbl c1 hl c2 c3 (by omega) (by omega) (ih (i + 1) _ (by omega) (by omega) (by rw [List.length_append, List.length_singleton]; omega))
              · have hst : step i c .sk ts = .bad i := by rw [step, st1, if_neg hnb, if_neg c1, if_neg hnl, if_neg c2, if_neg c3]
                rw [hst]
                exact tok_bad hbl c1 hl c2 c3 (by omega) (by omega)
    · refine Ev.step (f := fun _ => some (ts, -1)) (fun k => ?_) ((Ev.const fun _ => rfl : Ev _ (ts, (-1 : Int))).eq ?_)
      · rw [parapetref19_tokens.l0, if_neg (by omega)]
      · rw [seg_end (by omega)]; rfl
end Go.Proofs.YtngedmioeodmfaaDoor.Pu
namespace Go.Proofs.YtngedmioeodmfaaDoor.Pu
open Go.RowKit Go.Proofs.YtngedmioeodmfaaDoor.Pr Go.Proofs.YtngedmioeodmfaaDoorW.PrintWords Go.Proofs.YtngedmioeodmfaaDoor.Lx
open Go.Proofs.YtngedmioeodmfaaDoor.Ps hiding Tk
set_option linter.unusedVariables false
set_option linter.unusedSimpArgs false
theorem q_st1_bad {i : Nat} {c : Int} {ts : List Tk} {j : Nat} (h : st1 i c ts = .bad j) : j = i := by
  unfold st1 at h
  repeat' split at h
  all_goals first | (cases h; rfl) | cases h
theorem q_st1_es {i : Nat} {c : Int} {ts ts' : List Tk} {a p : Nat} {acc : List Int} : st1 i c ts ≠ .go (.es a p acc) ts' := by
  intro h
  unfold st1 at h
  repeat' split at h
  all_goals cases h
theorem q_step_bad {i : Nat} {c : Int} {st : St} {ts : List Tk} {j : Nat} (h : step i c st ts = .bad j) : j = i ∨ ∃ a acc, st = .es a j acc := by
  cases st with
  | sk => exact .inl (q_st1_bad h)
  | nt => simp only [step] at h; split at h <;> cases h
  | wd a acc => simp only [step] at h; split at h; cases h; exact .inl (q_st1_bad h)
  | qt a acc => simp only [step] at h; repeat' split at h
                all_goals first | (cases h; exact .inl rfl) | cases h
  | es a p acc => simp only [step] at h; split at h; cases h; cases h; exact .inr ⟨_, _, rfl⟩
theorem q_step_es {i : Nat} {c : Int} {st : St} {ts ts' : List Tk} {a p : Nat} {acc : List Int} (h : step i c st ts = .go (.es a p acc) ts') : p = i := by
  cases st with
  | sk => exact (q_st1_es h).elim
  | nt => simp only [step] at h; split at h <;> cases h
  | wd a acc => simp only [step] at h; split at h; cases h; exact (q_st1_es h).elim
  | qt a acc => simp only [step] at h; repeat' split at h
                all_goals first | (cases h; rfl) | cases h
  | es a p acc => simp only [step] at h; split at h <;> cases h
theorem sm_ge (m : Nat) : ∀ (l : List Int) (i : Nat) (st : St) (ts : List Tk) (j : Nat), m ≤ i → (∀ a p acc, st = .es a p acc → m ≤ p) → sm i st ts l = .bad j → m ≤ j
  | [], i, st, ts, j, hi, he, h => by
    rw [sm] at h
    cases st <;> simp [fin] at h <;> omega
  | c :: l, i, st, ts, j, hi, he, h => by
    rw [sm] at h
    cases hs : step i c st ts with
    | bad j2 =>
      rw [hs] at h
      cases h
      rcases q_step_bad hs with rfl | ⟨a, acc, e⟩
      · exact hi
      · exact he _ _ _ e
    | go st' ts' =>
      rw [hs] at h
      exact sm_ge m l (i + 1) st' ts' j (by omega) (fun a p acc e => by subst e; have := q_step_es hs; omega) h
theorem rs_le : ∀ (l : List Int) (i : Nat) (st : St) (ts : List Tk), (∀ a p acc, st = .es a p acc → p ≤ i) → (∀ j, rs i st ts l = .bad j → j ≤ i + l.length) ∧ (∀ st' ts', rs i st ts l = .go st' ts' → ∀ a p acc, st' = .es a p acc → p ≤ i + l.length)
  | [], i, st, ts, he => ⟨fun j h => (by cases h), fun st' ts' h => (by cases h; exact fun a p acc e => by have := he a p acc e; simp; omega)⟩
  | c :: l, i, st, ts, he => by
    rw [rs_cons]
    cases hs : step i c st ts with
    | bad j2 =>
      refine ⟨fun j h => ?_, fun st' ts' h => (by cases h)⟩
      cases h
      rw [List.length_cons]
      rcases q_step_bad hs with rfl | ⟨a, acc, e⟩
      · omega
      · have := he _ _ _ e; omega
    | go st1 ts1 =>
      have ih := rs_le l (i + 1) st1 ts1 (fun a p acc e => by subst e; have := q_step_es hs; omega)
      rw [List.length_cons]
      refine ⟨fun j h => by have := ih.1 j h; omega, fun st' ts' h a p acc e => by have := ih.2 st' ts' h a p acc e; omega⟩
/-- What Tokens hands back, where the text is UTF-8 up to E. -/
def tokR (x : ByteArray) (E : Nat) (r : List Tk × Int) : List Tk × Int × Int :=
  if r.2 ≥ 0 then ([], 8, r.2) else if (E : Int) < (x.size : Int) then ([], 8, (E : Int)) else (r.1, 0, 0)
def tokS (W : Nat) (n : Nat) : Out → List Tk × Int × Int
  | .bad j => ([], 8, min (W : Int) (j : Int))
  | .good ts => if (W : Int) ≤ (n : Int) then ([], 8, (W : Int)) else (ts, 0, 0)
theorem tokS_ge {W n m : Nat} {o : Out} (hW : W ≤ n) (h : ∀ j, o = .bad j → W ≤ j) : tokS W n o = ([], 8, (W : Int)) := by
  cases o with
  | bad j => have := h j rfl; rw [tokS, Int.min_eq_left (by omega)]
  | good ts => rw [tokS, if_pos (by omega)]
theorem tokR_neg {x : ByteArray} {E : Nat} {ts : List Tk} (h : E < x.size) : tokR x E (ts, -1) = ([], 8, (E : Int)) := by
  rw [tokR, if_neg (show ¬ ((-1 : Int) ≥ 0) by decide), if_pos (by omega)]
theorem tokR_pos {x : ByteArray} {E : Nat} {ts : List Tk} {j : Nat} : tokR x E (ts, (j : Int)) = ([], 8, (j : Int)) := by
  rw [tokR, if_pos (by show (j : Int) ≥ 0; omega)]
theorem ref_all (x : ByteArray) : tokR x x.size (refT x x.size (rs 0 .sk [] (bytesOf x))) = tokS (x.size + 1) x.size (sm 0 .sk [] (bytesOf x)) := by
  have hl : (bytesOf x).length = x.size := bytesOf_length x
  have hle := rs_le (bytesOf x) 0 .sk [] (fun _ _ _ e => by cases e)
  rw [sm_rs, Nat.zero_add, hl]
  have hneg : ∀ ts, tokR x x.size (ts, -1) = (ts, 0, 0) := fun ts => by rw [tokR, if_neg (show ¬ ((-1 : Int) ≥ 0) by decide), if_neg (by omega)]
  cases ho : rs 0 .sk [] (bytesOf x) with
  | bad j =>
    have := hle.1 j ho
    show tokR x x.size ([], (j : Int)) = tokS _ _ (.bad j)
    rw [tokR_pos, tokS, Int.min_eq_right (by omega)]
  | go st ts =>
    cases st with
    | sk => show tokR x x.size (ts, -1) = tokS _ _ (.good ts); rw [hneg, tokS, if_neg (by omega)]
    | nt => show tokR x x.size (ts, -1) = tokS _ _ (.good ts); rw [hneg, tokS, if_neg (by omega)]
    | wd a acc => show tokR x x.size (_, -1) = tokS _ _ (.good _); rw [hneg, tokS, if_neg (by omega)]
    | qt a acc => show tokR x x.size ([], (x.size : Int)) = tokS _ _ (.bad x.size); rw [tokR_pos, tokS, Int.min_eq_right (by omega)]
    | es a p acc =>
      show tokR x x.size (if x.size < x.size ∧ _ then _ else _) = tokS _ _ (.bad x.size)
      rw [if_neg (fun h => absurd h.1 (Nat.lt_irrefl _)), tokR_pos, tokS, Int.min_eq_right (by omega)]
theorem ref_cut (x : ByteArray) (E : Nat) (hE : E < x.size) : tokR x E (refT x E (rs 0 .sk [] (seg x E 0))) = tokS E x.size (sm 0 .sk [] (bytesOf x)) := by
  have hb : bytesOf x = seg x E 0 ++ dr x E := by rw [seg, List.drop_zero, Nat.sub_zero, dr, List.take_append_drop]
  have hlen : (seg x E 0).length = E := by rw [seg, List.drop_zero, Nat.sub_zero, List.length_take, bytesOf_length]; omega
  have hle := rs_le (seg x E 0) 0 .sk [] (fun _ _ _ e => by cases e)
  rw [hlen, Nat.zero_add] at hle
  have hsm : ∀ st ts, rs 0 .sk [] (seg x E 0) = .go st ts → sm 0 .sk [] (bytesOf x) = sm E st ts (dr x E) := fun st ts h => by
    rw [hb, sm_rs, rs_app_go h, sm_rs, hlen, Nat.zero_add, List.length_append, hlen, Nat.zero_add]
  have hgo : ∀ st ts, (∀ a p acc, st = .es a p acc → False) → tokS E x.size (sm E st ts (dr x E)) = ([], 8, (E : Int)) := fun st ts he =>
    tokS_ge (m := 0) (by omega) (fun j h => sm_ge E _ E st ts j (Nat.le_refl _) (fun a p acc e => (he a p acc e).elim) h)
  cases ho : rs 0 .sk [] (seg x E 0) with
  | bad j =>
    have := hle.1 j ho
    have h2 : sm 0 .sk [] (bytesOf x) = .bad j := by rw [hb, sm_rs, rs_app_bad ho]; rfl
    rw [h2]
    show tokR x E ([], (j : Int)) = tokS _ _ (.bad j)
    rw [tokR_pos, tokS, Int.min_eq_right (by omega)]
  | go st ts =>
    rw [hsm st ts ho]
    cases st with
    | sk => rw [hgo _ _ (fun _ _ _ e => by cases e)]; exact tokR_neg hE
    | nt => rw [hgo _ _ (fun _ _ _ e => by cases e)]; exact tokR_neg hE
    | wd a acc => rw [hgo _ _ (fun _ _ _ e => by cases e)]; exact tokR_neg hE
    | qt a acc => rw [hgo _ _ (fun _ _ _ e => by cases e)]; exact tokR_pos
    | es a p acc =>
      have hp := hle.2 _ _ ho a p acc rfl
      show tokR x E (if E < x.size ∧ ¬ (bt x (E : Int) = 34 ∨ bt x (E : Int) = 92) then ([], (p : Int)) else ([], (E : Int))) = _
      rw [dr_cons x E hE, sm]
      by_cases hq : bt x (E : Int) = 34 ∨ bt x (E : Int) = 92
      · rw [if_neg (fun h => h.2 hq), tokR_pos]
        have hst : step E (bt x (E : Int)) (.es a p acc) ts = .go (.qt a (acc ++ [bt x (E : Int)])) ts := by rw [step, if_pos hq]
        rw [hst]
        exact (tokS_ge (m := 0) (by omega) (fun j h => by have := sm_ge (E + 1) _ (E + 1) _ ts j (Nat.le_refl _) (fun a p acc e => by cases e) h; omega)).symm
      · rw [if_pos ⟨hE, hq⟩, tokR_pos]
        have hst : step E (bt x (E : Int)) (.es a p acc) ts = .bad p := by rw [step, if_neg hq]
        rw [hst]
        show _ = tokS _ _ (.bad p)
        rw [tokS, Int.min_eq_right (by omega)]
theorem rtokens_ev (x : ByteArray) : Ev (fun k => parapetref19_Tokens.f k x) (tokM x) := by
  unfold tokM parapetref19_Tokens.f
  by_cases h : x.size > 3000
  · rw [if_pos h]
    refine Ev.const fun k => ?_
    rw [if_pos (by omega)]
  · rw [if_neg h]
    obtain ⟨E, hEe⟩ : ∃ E, E = brkL x.data.toList := ⟨_, rfl⟩
    have hbl := brk_le x.data.toList.length x.data.toList
    have hEl : E ≤ x.size := by rw [hEe, ← data_length]; exact hbl
    have hbr := broken_ev x (by omega)
    have htk := tokens_loop hEl (by omega) E 0 [] (Nat.zero_le _) (by omega) (Nat.zero_le _)
    rw [← hEe] at hbr
    have hall : tokR x E (refT x E (rs 0 .sk [] (seg x E 0))) = tokS (wrongN x.data.toList) x.size (sm 0 .sk [] (bytesOf x)) := by
      by_cases hz : E = x.size
      · rw [wrongN, ← hEe, data_length, if_pos hz]
        subst hz
        have hb : seg x x.size 0 = bytesOf x := by rw [seg, List.drop_zero, Nat.sub_zero, List.take_of_length_le (by rw [bytesOf_length]; exact Nat.le_refl _)]
        rw [hb]
        exact ref_all x
      · rw [wrongN, ← hEe, data_length, if_neg hz]
        exact ref_cut x E (by omega)
    refine ev_eqq (g' := fun k => (parapetref9_Broken.f k x).bind fun t389 => (parapetref19_tokens.f k x t389).bind fun bt390 => (if bt390.2 ≥ 0 then (some (([] : List (S40)), 8, bt390.2)) else (if t389 < (x.size : Int) then (some (([] : List (S40)), 8, t389)) else (some (bt390.1, 0, 0))))) (fun k => by rw [if_neg (by omega)]) (Ev.bind hbr (ev_eqq (g' := fun k => (parapetref19_tokens.l0 k x (E : Int) [] ((0 : Nat) : Int)).bind fun bt390 => some (tokR x E bt390)) (fun k => ?_) (Ev.bind htk ((Ev.now _).eq ?_))))
    · show (parapetref19_tokens.l0 k x (E : Int) [] 0).bind _ = (parapetref19_tokens.l0 k x (E : Int) [] 0).bind _
      congr 1
      funext b
      rw [tokR]
      split
      · rfl
      · split <;> rfl
    · rw [hall]
      cases sm 0 .sk [] (bytesOf x) <;> rfl
end Go.Proofs.YtngedmioeodmfaaDoor.Pu
namespace Go.Proofs.YtngedmioeodmfaaDoor.Pu
open Go.RowKit Go.Proofs.YtngedmioeodmfaaDoor.Pr Go.Proofs.YtngedmioeodmfaaDoorW.PrintWords Go.Proofs.YtngedmioeodmfaaDoor.Lx
open Go.Proofs.YtngedmioeodmfaaDoor.Ps hiding Tk
set_option linter.unusedVariables false
set_option linter.unusedSimpArgs false
/-- A text whose tokens end with it. -/
def Lx1 (l : List Int) (ts : List Tk) : Prop := rs 0 .sk [] l = .go .sk ts
theorem Lx1.nil : Lx1 [] [] := rfl
abbrev Ky := Int × ByteArray
/-- From place p on stand tokens of these keys. -/
def KA (T : List Tk) (p : Nat) (ws : List Ky) : Prop := ws <+: (T.drop p).map key
theorem KA.head {T : List Tk} {p : Nat} {w : Ky} {ws : List Ky} (h : KA T p (w :: ws)) (e : Int) : p < T.length ∧ (nxt T e p).f0 = w.1 ∧ (nxt T e p).f2 = w.2 ∧ KA T (p + 1) ws := by
  obtain ⟨rest, h⟩ := h
  have hp : p < T.length := by
    apply Classical.byContradiction
    intro hn
    rw [List.drop_eq_nil_of_le (by omega)] at h
    cases h
  rw [List.drop_eq_getElem_cons hp, List.map_cons, List.cons_append] at h
  injection h with h1 h2
  refine ⟨hp, ?_, ?_, ⟨rest, h2⟩⟩
  · rw [nxt, dif_pos hp, h1]; rfl
  · rw [nxt, dif_pos hp, h1]; rfl
theorem KA.all {T : List Tk} {ws : List Ky} (h : T.map key = ws) : KA T 0 ws := by
  rw [KA, List.drop_zero, h]; exact List.prefix_refl _
theorem KA.len {T : List Tk} {p : Nat} {ws : List Ky} (h : KA T p ws) : ws.length ≤ T.length - p := by
  have := h.length_le
  rw [List.length_map, List.length_drop] at this; exact this
theorem KA.weak {T : List Tk} {p : Nat} {ws vs : List Ky} (h : KA T p (ws ++ vs)) : KA T p ws := List.IsPrefix.trans ⟨vs, rfl⟩ h
theorem KA.drop {T : List Tk} {p : Nat} : ∀ {ws vs : List Ky}, KA T p (ws ++ vs) → KA T (p + ws.length) vs
  | [], vs, h => h
  | w :: ws, vs, h => by
    have h2 := (KA.head (w := w) (ws := ws ++ vs) h 0).2.2.2
    have := KA.drop h2
    rw [List.length_cons]
    rw [show p + (ws.length + 1) = p + 1 + ws.length by omega]; exact this
section
variable {T : List Tk} {e : Int} {p : Nat} {ws : List Ky}
theorem KA.is {k : Int} {t : ByteArray} (h : KA T p ((k, t) :: ws)) (l : List ByteArray) : isP T e l p = (decide (k = 1) && memB t l) := by
  obtain ⟨_, h1, h2, _⟩ := h.head e
  rw [isP, h1, h2]
theorem KA.take {k : Int} {t : ByteArray} (h : KA T p ((k, t) :: ws)) : takeP T e k p = .ok (t, p + 1) := by
  obtain ⟨_, h1, h2, _⟩ := h.head e
  rw [takeP, if_pos h1, h2]
theorem KA.next {w : Ky} (h : KA T p (w :: ws)) : KA T (p + 1) ws := (h.head 0).2.2.2
theorem KA.word {t : ByteArray} {l : List ByteArray} (h : KA T p ((1, t) :: ws)) (hm : memB t l = true) : wordP T e l p = .ok (t, p + 1) := by
  rw [wordP, h.is, hm, if_pos (by rfl), h.take]
end
end Go.Proofs.YtngedmioeodmfaaDoor.Pu
namespace Go.Proofs.YtngedmioeodmfaaDoor.Pr
open Go.RowKit Go.Proofs.YtngedmioeodmfaaDoorW.PrintWords Go.Proofs.YtngedmioeodmfaaDoorW.PrintLast Go.Proofs.YtngedmioeodmfaaDoorW.PrintMore
attribute [local go_sem] max2_int min2_int max_two min_two max_three min_three max_four min_four   -- for this text's walks alone
set_option linter.unusedVariables false
set_option linter.unusedSimpArgs false
attribute [local go_sem high] eqA30
end Go.Proofs.YtngedmioeodmfaaDoor.Pr
namespace Go.Proofs.YtngedmioeodmfaaDoor.Pu
open Go.RowKit Go.Proofs.YtngedmioeodmfaaDoor.Pr Go.Proofs.YtngedmioeodmfaaDoorW.PrintWords Go.Proofs.YtngedmioeodmfaaDoor.Lx
open Go.Proofs.YtngedmioeodmfaaDoor.Ps hiding Tk
set_option linter.unusedVariables false
set_option linter.unusedSimpArgs false
/-- Behind a word stands what is none. -/
theorem rs_word (i a : Nat) (acc : List Int) (ts : List Tk) (c : Int) (l : List Int) (h : pWord c = false) : rs i (.wd a acc) ts (c :: l) = rs i .sk (ts ++ [⟨1, a, strOfNums acc⟩]) (c :: l) := by
  rw [rs, rs]
  have : step i c (.wd a acc) ts = step i c .sk (ts ++ [⟨1, a, strOfNums acc⟩]) := by
    simp only [step, h, Bool.false_eq_true, if_false]
  rw [this]
theorem Lx1.word {w : List Int} {acc : List Int} (hw : rs 0 .sk [] w = .go (.wd 0 acc) []) {c : Int} {l : List Int} (hc : pWord c = false) {tl : List Tk} (hl : Lx1 (c :: l) tl) : Lx1 (w ++ c :: l) (⟨1, 0, strOfNums acc⟩ :: tl.map (upT w.length)) := by
  unfold Lx1 at *
  rw [rs_app_go hw (c :: l), Nat.zero_add, rs_word _ _ _ _ _ _ hc]
  have h := rs_up w.length [⟨1, 0, strOfNums acc⟩] (c :: l) 0 .sk []
  rw [hl] at h
  simpa [upS, upO] using h
end Go.Proofs.YtngedmioeodmfaaDoor.Pu
namespace Go.Proofs.YtngedmioeodmfaaDoor.Pu
open Go.RowKit Go.Proofs.YtngedmioeodmfaaDoor.Pr Go.Proofs.YtngedmioeodmfaaDoorW.PrintWords Go.Proofs.YtngedmioeodmfaaDoor.Lx
open Go.Proofs.YtngedmioeodmfaaDoor.Ps hiding Tk
set_option linter.unusedVariables false
set_option linter.unusedSimpArgs false
/-- The same, or too deep. -/
def OrDeep {α : Type} (r r' : Res α) : Prop := r' = r ∨ ∃ a, r' = .error (2, a)
theorem OrDeep.refl {α : Type} (r : Res α) : OrDeep r r := .inl rfl
section
variable {T : List Tk} {e : Int}
theorem wrapNot_ok {r : Res Cd} {x : Cd × Nat} (h : wrapNot r = .ok x) : ∃ c q, r = .ok (c, q) ∧ x = (cond0 4 [c], q) := by
  cases r with
  | error y => cases h
  | ok y => obtain ⟨c, q⟩ := y; simp only [wrapNot] at h; exact ⟨c, q, rfl, (Except.ok.inj h).symm⟩
theorem closeP_ok {r : Res Cd} {x : Cd × Nat} (h : closeP T e r = .ok x) : ∃ c q, r = .ok (c, q) ∧ closeK c (takeP T e 4 q) = .ok x := by
  cases r with
  | error y => cases h
  | ok y => obtain ⟨c, q⟩ := y; exact ⟨c, q, rfl, h⟩
theorem atomK_ge {w : ByteArray} {q : Nat} {c : Cd} {r : Nat} (h : atomK T e w q = .ok (c, r)) : q ≤ r := by
  unfold atomK at h
  split at h
  · cases h; exact Nat.le_refl _
  split at h
  · cases h; exact Nat.le_refl _
  split at h
  · obtain ⟨t, ht⟩ := atomT_mono h; have := takeP_mono ht; omega
  split at h
  · obtain ⟨t, ht⟩ := atomT_mono h; have := takeP_mono ht; omega
  split at h
  · obtain ⟨t, ht⟩ := atomT_mono h; have := takeP_mono ht; omega
  · cases h; exact Nat.le_refl _
theorem atomP_gt {p : Nat} {c : Cd} {q : Nat} (h : atomP T e p = .ok (c, q)) : p < q := by
  rw [atomP] at h
  cases h1 : wordP T e atomWords p with
  | error x => rw [h1] at h; cases h
  | ok x =>
    obtain ⟨w, q1⟩ := x
    have := wordP_mono h1
    rw [h1] at h
    have := atomK_ge h
    omega
end
/-- Two rows of tokens that are alike for L tokens from two places on, and go on with no 'and', no 'or'. -/
structure Lok (T T' : List Tk) (e e' : Int) (p p' L : Nat) : Prop where
  k0 : ∀ j, j < L → (nxt T' e' (p' + j)).f0 = (nxt T e (p + j)).f0
  k2 : ∀ j, j < L → (nxt T' e' (p' + j)).f2 = (nxt T e (p + j)).f2
  a : isP T e [wAnd] (p + L) = false ∧ isP T e [wOr] (p + L) = false
  a' : isP T' e' [wAnd] (p' + L) = false ∧ isP T' e' [wOr] (p' + L) = false
  l' : p' + L ≤ T'.length
section
variable {T T' : List Tk} {e e' : Int} {p p' L : Nat}
theorem Lok.is (h : Lok T T' e e' p p' L) (ws : List ByteArray) {j : Nat} (hj : j < L) : isP T' e' ws (p' + j) = isP T e ws (p + j) := by
  rw [isP, isP, h.k0 j hj, h.k2 j hj]
theorem Lok.take (h : Lok T T' e e' p p' L) {k : Int} {a b : Nat} {t : ByteArray} (hr : takeP T e k (p + a) = .ok (t, p + b)) (hb : b ≤ L) : takeP T' e' k (p' + a) = .ok (t, p' + b) := by
  have := takeP_mono hr
  rw [takeP] at hr ⊢
  rw [h.k0 a (by omega), h.k2 a (by omega)]
  split at hr
  · rename_i hk
    rw [if_pos hk]
    have h1 := Except.ok.inj hr
    simp only [Prod.mk.injEq] at h1
    rw [h1.1, show p' + a + 1 = p' + b by omega]
  · cases hr
end
end Go.Proofs.YtngedmioeodmfaaDoor.Pu
namespace Go.Proofs.YtngedmioeodmfaaDoor.Pr
open Go.RowKit Go.Proofs.YtngedmioeodmfaaDoorW.PrintWords Go.Proofs.YtngedmioeodmfaaDoorW.PrintLast Go.Proofs.YtngedmioeodmfaaDoorW.PrintMore
attribute [local go_sem] max2_int min2_int max_two min_two max_three min_three max_four min_four   -- for this text's walks alone
set_option linter.unusedVariables false
set_option linter.unusedSimpArgs false
attribute [local go_sem high] eqA30
def parapetref19_SameTexts.l0 : Nat → List ByteArray → List ByteArray → Int → Option (Bool)
  | 0, _, _, _ => none
  | k + 1, x0, x1, x5 => if x5 < (x0.length : Int) then (if 0 ≤ x5 then (if x5 < (x1.length : Int) then (if (rdOf ByteArray.empty x0 x5).toList = (rdOf ByteArray.empty x1 x5).toList then (parapetref19_SameTexts.l0 k x0 x1 (wrap64 (x5 + 1))) else (some false)) else (none)) else (none)) else (some true)
def parapetref19_SameTexts.f (k : Nat) (l0 : List ByteArray) (l1 : List ByteArray) : Option (Bool) := if (l0.length : Int) = (l1.length : Int) then (parapetref19_SameTexts.l0 k l0 l1 0) else (some false)
theorem parapetref19_SameTexts.mono_l : ∀ k, (∀ y0 y1 y2, LeO (parapetref19_SameTexts.l0 k y0 y1 y2) (parapetref19_SameTexts.l0 (k + 1) y0 y1 y2))
  | 0 => fun _ _ _ r h => by simp [parapetref19_SameTexts.l0] at h
  | k + 1 => by
    have ih0 := parapetref19_SameTexts.mono_l k
    · intro y0 y1 y2
      unfold parapetref19_SameTexts.l0
      repeat' first
      | (with_reducible exact ih0 _ _ _)
      | (with_reducible exact LeO.refl _)
      | (with_reducible exact LeO.none _)
      | (with_reducible refine LeO.ite ?_ ?_)
      | (with_reducible refine LeO.bind ?_ (fun _ => ?_))
      | exact ih0 _ _ _
      | exact LeO.none _
      | refine LeO.ite ?_ ?_
      | refine LeO.bind ?_ (fun _ => ?_)
theorem parapetref19_SameTexts.mono : ∀ a0 a1 k, LeO (parapetref19_SameTexts.f k a0 a1) (parapetref19_SameTexts.f (k + 1) a0 a1) := by
  intro a0 a1 k
  have ih0 := parapetref19_SameTexts.mono_l k
  unfold parapetref19_SameTexts.f
  repeat' first
      | (with_reducible exact ih0 _ _ _)
      | (with_reducible exact LeO.refl _)
      | (with_reducible exact LeO.none _)
      | (with_reducible refine LeO.ite ?_ ?_)
      | (with_reducible refine LeO.bind ?_ (fun _ => ?_))
      | exact ih0 _ _ _
      | exact LeO.none _
      | refine LeO.ite ?_ ?_
      | refine LeO.bind ?_ (fun _ => ?_)
set_option maxHeartbeats 8000000 in
set_option maxRecDepth 100000 in
theorem parapetref19_SameTexts.calls (k : Nat) (A0 : Option Addr) (c0 : Nat) (l0 : List ByteArray) (A1 : Option Addr) (c1 : Nat) (l1 : List ByteArray) (r : Bool) (w : World) (hr0 : Kd.C Kd.string w A0 l0.length l0) (hc0 : l0.length ≤ c0) (hr1 : Kd.C Kd.string w A1 l1.length l1) (hc1 : l1.length ≤ c1) (h : parapetref19_SameTexts.f k l0 l1 = some r) :
    Calls Tryd.prog 32 #[.slice A0 l0.length c0, .slice A1 l1.length c1] w fun e w' => e = .returned (.bool r) ∧ Drawn0 w w' := by
  have HR0 := Aside0.mk hr0
  have HC0 := Aside0.mk hc0
  clear hr0 hc0
  have HR1 := Aside0.mk hr1
  have HC1 := Aside0.mk hc1
  clear hr1 hc1
  have H : (if (l0.length : Int) = (l1.length : Int) then (parapetref19_SameTexts.l0 k l0 l1 0) else (some false)) = some r := h
  clear h
  by_cases c3 : (l0.length : Int) = (l1.length : Int)
  · rw [if_pos c3] at H
    have c3b0 : ((l0.length : Int) == (l1.length : Int)) = true := beq_iff_eq.mpr c3
    have c3b1 : ((l0.length : Int) != (l1.length : Int)) = false := bne_eq_false_iff_eq.mpr c3
    have c3b2 : (l0.length == l1.length) = true := by first | simpa using c3 | (simp at c3 ⊢; omega)
    clear c3
    have H' := Aside0.mk H
    clear H
    go_enter Tryd.func32, Tryd.ntmps32
    go_wp2
    repeat (go_quiet (fail); try go_wp2)
    go_loopg [5] k (fun kq v5 w' => ∃ (x5_1 : Int), v5 = .int .i64 x5_1 ∧ Aside0 (parapetref19_SameTexts.l0 kq l0 l1 x5_1 = some r) ∧ Aside0 (kq ≤ k) ∧ Drawn0 w w')
    case atStart => exact ⟨(0), (by first | rfl | (simp; done) | (simp [*]; done)), H', ⟨Nat.le_refl _⟩, by repeat (first | exact Drawn0.refl _ | apply Drawn0.step)⟩
    case round =>
      clear H'
      try clear c1
      try clear p2
      try clear c3
      try clear c3b0
      try clear c3b1
      try clear c3b2
      obtain ⟨x5_1, rfl, HA, HK1, ⟨m1, rfl⟩⟩ := hrel
      cases gk with
      | zero => exact absurd HA.out (by simp [parapetref19_SameTexts.l0])
      | succ k1 =>
        have H := HA.out
        clear HA
        simp only [parapetref19_SameTexts.l0] at H
        by_cases c4 : x5_1 < (l0.length : Int)
        · rw [if_pos c4] at H
          have c4b0 : decide (x5_1 < (l0.length : Int)) = true := decide_eq_true c4
          clear c4
          by_cases c5 : 0 ≤ x5_1
          · rw [if_pos c5] at H
            have c5b0 : decide (0 ≤ x5_1) = true := decide_eq_true c5
            clear c5
            by_cases c6 : x5_1 < (l1.length : Int)
            · rw [if_pos c6] at H
              have c6b0 : decide (x5_1 < (l1.length : Int)) = true := decide_eq_true c6
              clear c6
              by_cases c7 : (rdOf ByteArray.empty l0 x5_1).toList = (rdOf ByteArray.empty l1 x5_1).toList
              · rw [if_pos c7] at H
                have c7b0 : ((rdOf ByteArray.empty l0 x5_1).toList == (rdOf ByteArray.empty l1 x5_1).toList) = true := beq_iff_eq.mpr c7
                have c7b1 : ((rdOf ByteArray.empty l0 x5_1).toList != (rdOf ByteArray.empty l1 x5_1).toList) = false := bne_eq_false_iff_eq.mpr c7
                clear c7
                have H' := Aside0.mk H
                clear H
                have p197 : 0 ≤ (x5_1 : Int) := of_decide_eq_true (by first | (with_reducible assumption) | assumption)
                have q197 : x5_1 < (l0.length : Int) := of_decide_eq_true (by first | (with_reducible assumption) | assumption)
                obtain ⟨ad197, e197, hx197_0⟩ := Kd.at_string HR0.out x5_1 p197 q197
                cases e197
                replace p197 := eq_true p197
                replace q197 := eq_true q197
                have p198 : 0 ≤ (x5_1 : Int) := of_decide_eq_true (by first | (with_reducible assumption) | assumption)
                have q198 : x5_1 < (l1.length : Int) := of_decide_eq_true (by first | (with_reducible assumption) | assumption)
                obtain ⟨ad198, e198, hx198_0⟩ := Kd.at_string HR1.out x5_1 p198 q198
                cases e198
                replace p198 := eq_true p198
                replace q198 := eq_true q198
                go_wp2
                repeat (go_quiet (fail); try go_wp2)
                go_roundg k1
                case measure => have := HK1.out; omega
                case rel => exact ⟨(wrap64 (x5_1 + 1)), (by first | rfl | (simp; done) | (simp [*]; done)), H', ⟨by have := HK1.out; omega⟩, by repeat (first | exact Drawn0.refl _ | apply Drawn0.step)⟩
              · rw [if_neg c7] at H
                have c7b0 : ((rdOf ByteArray.empty l0 x5_1).toList == (rdOf ByteArray.empty l1 x5_1).toList) = false := beq_eq_false_iff_ne.mpr c7
                have c7b1 : ((rdOf ByteArray.empty l0 x5_1).toList != (rdOf ByteArray.empty l1 x5_1).toList) = true := bne_iff_ne.mpr c7
                obtain rfl := Option.some.inj H
                have p197 : 0 ≤ (x5_1 : Int) := of_decide_eq_true (by first | (with_reducible assumption) | assumption)
                have q197 : x5_1 < (l0.length : Int) := of_decide_eq_true (by first | (with_reducible assumption) | assumption)
                obtain ⟨ad197, e197, hx197_0⟩ := Kd.at_string HR0.out x5_1 p197 q197
                cases e197
                replace p197 := eq_true p197
                replace q197 := eq_true q197
                have p198 : 0 ≤ (x5_1 : Int) := of_decide_eq_true (by first | (with_reducible assumption) | assumption)
                have q198 : x5_1 < (l1.length : Int) := of_decide_eq_true (by first | (with_reducible assumption) | assumption)
                obtain ⟨ad198, e198, hx198_0⟩ := Kd.at_string HR1.out x5_1 p198 q198
                cases e198
                replace p198 := eq_true p198
                replace q198 := eq_true q198
                go_wp2
                repeat (go_quiet (fail); try go_wp2)
                go_ret
                exact ⟨by first | rfl | (simp; done) | (simp [*]; done), by repeat (first | exact Drawn0.refl _ | apply Drawn0.step)⟩
            · rw [if_neg c6] at H
              exact absurd H (by simp)
          · rw [if_neg c5] at H
            exact absurd H (by simp)
        · rw [if_neg c4] at H
          have c4b0 : decide (x5_1 < (l0.length : Int)) = false := decide_eq_false c4
          clear c4
          obtain rfl := Option.some.inj H
          go_wp2
          repeat (go_quiet (fail); try go_wp2)
          go_ret
          exact ⟨by first | rfl | (simp; done) | (simp [*]; done), by repeat (first | exact Drawn0.refl _ | apply Drawn0.step)⟩
  · rw [if_neg c3] at H
    have c3b0 : ((l0.length : Int) == (l1.length : Int)) = false := beq_eq_false_iff_ne.mpr c3
    have c3b1 : ((l0.length : Int) != (l1.length : Int)) = true := bne_iff_ne.mpr c3
    have c3b2 : (l0.length == l1.length) = false := by first | simpa using c3 | (simp at c3 ⊢; omega)
    obtain rfl := Option.some.inj H
    go_enter Tryd.func32, Tryd.ntmps32
    go_wp2
    repeat (go_quiet (fail); try go_wp2)
    go_ret
    exact ⟨by first | rfl | (simp; done) | (simp [*]; done), by repeat (first | exact Drawn0.refl _ | apply Drawn0.step)⟩
end Go.Proofs.YtngedmioeodmfaaDoor.Pr
namespace Go.Proofs.YtngedmioeodmfaaDoor.Ps
open Go.RowKit Go.Proofs.YtngedmioeodmfaaDoor.Pr Go.Proofs.YtngedmioeodmfaaDoorW.PrintWords Go.Proofs.YtngedmioeodmfaaDoorW.PrintLast Go.Proofs.YtngedmioeodmfaaDoorW.PrintMore
set_option linter.unusedVariables false
set_option linter.unusedSimpArgs false
def shSame (k : Nat) (a b : S44) : Bool := decide (a.f0 = b.f0) && (decide (a.f3 = b.f3) && (decide (parapetref19_SameTexts.f k a.f1 b.f1 = some true) && decide (parapetref19_SameTexts.f k a.f2 b.f2 = some true)))
def rlSame (k : Nat) (a b : S51) : Bool := decide (a.f0 = b.f0) && decide (parapetref19_SameCond.f k a.f1.f0 a.f1.f1.f0 a.f1.f1.f1 a.f1.f2 b.f1.f0 b.f1.f1.f0 b.f1.f1.f1 b.f1.f2 = some true)
/-- Two policies alike, told by the comparisons of their parts. -/
structure Alike (k : Nat) (l0 : List ByteArray) (l1 : List (S44)) (a2 : ByteArray) (l3 : List (S51)) (a4 : Bool) (m0 : List ByteArray) (m1 : List (S44)) (b2 : ByteArray) (m3 : List (S51)) (b4 : Bool) : Prop where
  c : parapetref19_SameTexts.f k l0 m0 = some true
  m : a2 = b2
  d : a4 = b4
  ls : l1.length = m1.length
  lr : l3.length = m3.length
  s : ∀ i, i < l1.length → shSame k (rd_T44 l1 (i : Int)) (rd_T44 m1 (i : Int)) = true
  r : ∀ i, i < l3.length → rlSame k (rd_T51 l3 (i : Int)) (rd_T51 m3 (i : Int)) = true
def alike (k : Nat) (l0 : List ByteArray) (l1 : List (S44)) (a2 : ByteArray) (l3 : List (S51)) (a4 : Bool) (m0 : List ByteArray) (m1 : List (S44)) (b2 : ByteArray) (m3 : List (S51)) (b4 : Bool) : Bool :=
  decide (l1.length ≤ 1000000) && (decide (l3.length ≤ 1000000) && (decide (parapetref19_SameTexts.f k l0 m0 = some true) && (decide (a2 = b2) && (decide (a4 = b4) && (decide (l1.length = m1.length) && (decide (l3.length = m3.length) && ((List.range l1.length).all (fun i => shSame k (rd_T44 l1 (i : Int)) (rd_T44 m1 (i : Int))) && (List.range l3.length).all (fun i => rlSame k (rd_T51 l3 (i : Int)) (rd_T51 m3 (i : Int))))))))))
theorem alike_iff {k : Nat} {l0 : List ByteArray} {l1 : List (S44)} {a2 : ByteArray} {l3 : List (S51)} {a4 : Bool} {m0 : List ByteArray} {m1 : List (S44)} {b2 : ByteArray} {m3 : List (S51)} {b4 : Bool} :
    alike k l0 l1 a2 l3 a4 m0 m1 b2 m3 b4 = true ↔ l1.length ≤ 1000000 ∧ l3.length ≤ 1000000 ∧ Alike k l0 l1 a2 l3 a4 m0 m1 b2 m3 b4 := by
  simp only [alike, Bool.and_eq_true, decide_eq_true_eq, List.all_eq_true, List.mem_range]
  constructor
  · rintro ⟨h1, h2, h3, h4, h5, h6, h7, h8, h9⟩
    exact ⟨h1, h2, h3, h4, h5, h6, h7, h8, h9⟩
  · rintro ⟨h1, h2, h3, h4, h5, h6, h7, h8, h9⟩
    exact ⟨h1, h2, h3, h4, h5, h6, h7, h8, h9⟩
theorem blk_snd (w : World) (c1 c2 : Array Value) (t1 t2 : TypeId) : ((w.alloc (.cells c1 t1)).alloc (.cells c2 t2)).heap[w.heap.size + 1]? = some (.cells c2 t2 (0, 0)) := by
  have h := blk_new (w.alloc (.cells c1 t1)) (.cells c2 t2)
  rwa [show (w.alloc (.cells c1 t1)).heap.size = w.heap.size + 1 from Array.size_push _] at h
theorem alike_mono {k : Nat} {l0 : List ByteArray} {l1 : List (S44)} {a2 : ByteArray} {l3 : List (S51)} {a4 : Bool} {m0 : List ByteArray} {m1 : List (S44)} {b2 : ByteArray} {m3 : List (S51)} {b4 : Bool}
    (h : alike k l0 l1 a2 l3 a4 m0 m1 b2 m3 b4 = true) : alike (k + 1) l0 l1 a2 l3 a4 m0 m1 b2 m3 b4 = true := by
  rw [alike_iff] at h ⊢
  obtain ⟨h1, h2, h⟩ := h
  refine ⟨h1, h2, parapetref19_SameTexts.mono _ _ _ _ h.c, h.m, h.d, h.ls, h.lr, fun i hi => ?_, fun i hi => ?_⟩
  · have := h.s i hi
    simp only [shSame, Bool.and_eq_true, decide_eq_true_eq] at this ⊢
    exact ⟨this.1, this.2.1, parapetref19_SameTexts.mono _ _ _ _ this.2.2.1, parapetref19_SameTexts.mono _ _ _ _ this.2.2.2⟩
  · have := h.r i hi
    simp only [rlSame, Bool.and_eq_true, decide_eq_true_eq] at this ⊢
    exact ⟨this.1, parapetref19_SameCond.mono _ _ _ _ _ _ _ _ _ _ this.2⟩
/-- A call that hands back, in a region. -/
theorem goesS_ {P : Program} {ops : Array Oper} {Q : Exit → Act → World → Prop} {oi : Oper} {N : Option Tmp} {a : Act} {w : World} {K : Act → World → Prop} {f : FuncId} {fn : Func} {xs : Array Operand} {ts : Array TypeId} (hf : P.funcs[f]? = some fn) (hname : (fn.name == "runtime.NumGoroutine") = false) (hb : fn.body.isSome = true) (args : Array Value)
    (hw : Region.wanted oi (yielded ops a.tmps) = true) (hN : oi.dst = N) (hop : oi.op = .call { callee := .value (.func f), args := xs, argTypes := ts }) (hargs : xs.map a.eval = args)
    (h : Calls P f args w fun e w' => ∃ v, e = .returned v ∧ K (a.put N v) w') : if Region.wanted oi (yielded ops a.tmps) = true then Oper.wp P oi a w K Q else K (a.put N undef) w := by
  have hrun : (execOp a.eval oi).run P w = .ok (.enter f args) w := by
    have he := enters_ hf hname hb args w
    unfold execOp
    simp [hop, resolve, Deferred.ofValue, invoke, Act.eval, hargs, he]
  rw [if_pos hw]
  subst hN
  unfold Oper.wp
  rw [hrun, Oper.upon_enter]
  refine h.mono fun e w'' hh => ?_
  obtain ⟨v, rfl, hk⟩ := hh
  exact hk
theorem size_sh44 : (Tryd.prog.info? 44).map (·.size) = some 4 := by kernel_rfl
set_option maxHeartbeats 16000000 in
set_option maxRecDepth 100000 in
theorem same_calls (k : Nat) (A0_0 : Option Addr) (c0_0 : Nat) (l0_0 : List ByteArray) (A0_1 : Option Addr) (c0_1 : Nat) (l0_1 : List (S44)) (a0_2 : ByteArray) (A0_3 : Option Addr) (c0_3 : Nat) (l0_3 : List (S51)) (a0_4 : Bool)
    (A1_0 : Option Addr) (c1_0 : Nat) (l1_0 : List ByteArray) (A1_1 : Option Addr) (c1_1 : Nat) (l1_1 : List (S44)) (a1_2 : ByteArray) (A1_3 : Option Addr) (c1_3 : Nat) (l1_3 : List (S51)) (a1_4 : Bool) (w : World)
    (hr0_0 : Kd.C Kd.string w A0_0 l0_0.length l0_0) (hc0_0 : l0_0.length ≤ c0_0) (hr0_1 : Kd.C k44 w A0_1 l0_1.length l0_1) (hc0_1 : l0_1.length ≤ c0_1) (hr0_3 : Kd.C k51 w A0_3 l0_3.length l0_3) (hc0_3 : l0_3.length ≤ c0_3)
    (hr1_0 : Kd.C Kd.string w A1_0 l1_0.length l1_0) (hc1_0 : l1_0.length ≤ c1_0) (hr1_1 : Kd.C k44 w A1_1 l1_1.length l1_1) (hc1_1 : l1_1.length ≤ c1_1) (hr1_3 : Kd.C k51 w A1_3 l1_3.length l1_3) (hc1_3 : l1_3.length ≤ c1_3)
    (hs : l0_1.length ≤ 1000000) (hrl : l0_3.length ≤ 1000000) (h : Alike k l0_0 l0_1 a0_2 l0_3 a0_4 l1_0 l1_1 a1_2 l1_3 a1_4) :
    Calls Tryd.prog 14 #[.agg #[.slice A0_0 l0_0.length c0_0, .slice A0_1 l0_1.length c0_1, .string a0_2, .slice A0_3 l0_3.length c0_3, .bool a0_4], .agg #[.slice A1_0 l1_0.length c1_0, .slice A1_1 l1_1.length c1_1, .string a1_2, .slice A1_3 l1_3.length c1_3, .bool a1_4]] w fun e w' => e = .returned (.bool true) ∧ Below w.heap.size w w' := by
  have hd := h.d
  have hm := h.m
  subst hd hm
  have H := Aside0.mk h
  have HS := Aside0.mk hs
  have HRL := Aside0.mk hrl
  have H00 := Aside0.mk hr0_0
  have H10 := Aside0.mk hr1_0
  have H01 := Aside0.mk hr0_1
  have H11 := Aside0.mk hr1_1
  have H03 := Aside0.mk hr0_3
  have H13 := Aside0.mk hr1_3
  have HC00 := Aside0.mk hc0_0
  have HC10 := Aside0.mk hc1_0
  obtain ⟨n00, hn00⟩ : ∃ n, n = l0_0.length := ⟨_, rfl⟩
  obtain ⟨n10, hn10⟩ : ∃ n, n = l1_0.length := ⟨_, rfl⟩
  obtain ⟨n01, hn01⟩ : ∃ n, n = l0_1.length := ⟨_, rfl⟩
  obtain ⟨n03, hn03⟩ : ∃ n, n = l0_3.length := ⟨_, rfl⟩
  have hls := h.ls
  have hlr := h.lr
  rw [← hls, ← hlr, ← hn00, ← hn10, ← hn01, ← hn03]
  have HN00 := Aside0.mk hn00
  have HN10 := Aside0.mk hn10
  have HN01 := Aside0.mk hn01
  have HN03 := Aside0.mk hn03
  clear h hs hrl hr0_0 hr1_0 hr0_1 hr1_1 hr0_3 hr1_3 hc0_0 hc1_0 hc0_1 hc1_1 hc0_3 hc1_3 hls hlr hn00 hn10 hn01 hn03
  have q1 : (a0_2.toList == a0_2.toList) = true := by simp
  have q2 : (a0_4 == a0_4) = true := by simp
  go_enter Tryd.func14, Tryd.ntmps14
  go_upto_region 1 with (fail)
  obtain ⟨g2, hg2⟩ : ∃ g2, g2 = w.heap.size := ⟨_, rfl⟩
  obtain ⟨w1, hw1⟩ : ∃ w1, w1 = (w.alloc (.cells #[.slice A0_0 n00 c0_0, .slice A0_1 n01 c0_1, .string a0_2, .slice A0_3 n03 c0_3, .bool a0_4] 27)).alloc (.cells #[.slice A1_0 n10 c1_0, .slice A1_1 n01 c1_1, .string a0_2, .slice A1_3 n03 c1_3, .bool a0_4] 27) := ⟨_, rfl⟩
  rw [← hw1, ← hg2]
  have HX2 : Aside0 (w1.heap[g2]? = some (.cells #[.slice A0_0 n00 c0_0, .slice A0_1 n01 c0_1, .string a0_2, .slice A0_3 n03 c0_3, .bool a0_4] 27 (0, 0))) := ⟨by rw [hw1, hg2]; exact blk_alloc (blk_new _ _) _⟩
  have HX3 : Aside0 (w1.heap[g2 + 1]? = some (.cells #[.slice A1_0 n10 c1_0, .slice A1_1 n01 c1_1, .string a0_2, .slice A1_3 n03 c1_3, .bool a0_4] 27 (0, 0))) := ⟨by rw [hw1, hg2]; exact blk_snd _ _ _ _ _⟩
  have HB1 : Aside0 (Below w.heap.size w w1) := ⟨by rw [hw1]; exact below_alloc (below_alloc (Below.refl _ _) _) _⟩
  have HG2 := Aside0.mk hg2
  clear hw1 hg2
  have hst := parapetref19_SameTexts.calls k A0_0 c0_0 l0_0 A1_0 c1_0 l1_0 true w1 (Kd.C_below H00.out HB1.out) HC00.out (Kd.C_below H10.out HB1.out) HC10.out H.out.c
  rw [← HN00.out, ← HN10.out] at hst
  have HST := Aside0.mk hst
  clear hst
  have c20 : w1.cell? ⟨g2, 0, none⟩ = some (.slice A0_0 n00 c0_0) := blk_cell HX2.out 0
  have c21 : w1.cell? ⟨g2, 1, none⟩ = some (.slice A0_1 n01 c0_1) := blk_cell HX2.out 1
  have c22 : w1.cell? ⟨g2, 2, none⟩ = some (.string a0_2) := blk_cell HX2.out 2
  have c23 : w1.cell? ⟨g2, 3, none⟩ = some (.slice A0_3 n03 c0_3) := blk_cell HX2.out 3
  have c24 : w1.cell? ⟨g2, 4, none⟩ = some (.bool a0_4) := blk_cell HX2.out 4
  have c30 : w1.cell? ⟨g2 + 1, 0, none⟩ = some (.slice A1_0 n10 c1_0) := blk_cell HX3.out 0
  have c31 : w1.cell? ⟨g2 + 1, 1, none⟩ = some (.slice A1_1 n01 c1_1) := blk_cell HX3.out 1
  have c32 : w1.cell? ⟨g2 + 1, 2, none⟩ = some (.string a0_2) := blk_cell HX3.out 2
  have c33 : w1.cell? ⟨g2 + 1, 3, none⟩ = some (.slice A1_3 n03 c1_3) := blk_cell HX3.out 3
  have c34 : w1.cell? ⟨g2 + 1, 4, none⟩ = some (.bool a0_4) := blk_cell HX3.out 4
  go_wp2_with fail
  refine HST.out.mono ?_
  rintro e w2 ⟨rfl, ⟨⟨m, rfl⟩⟩⟩
  dsimp only
  go_wp2_with fail
  obtain ⟨wl, hwl⟩ : ∃ wl, wl = w1.drewN m := ⟨_, rfl⟩
  rw [← hwl]
  have HBL : Aside0 (Below w1.heap.size w1 wl) := ⟨by rw [hwl]; exact pw_below_drewN (Below.refl _ _) m⟩
  clear hwl HST c20 c21 c22 c23 c24 c30 c31 c32 c33 c34 q1 q2
  go_loopg [5] n01 (fun gk v5 wr => ∃ (i : Nat), v5 = .int .i64 i ∧ Aside0 (i ≤ n01) ∧ Aside0 (n01 - i ≤ gk) ∧ Aside0 (Below w1.heap.size w1 wr))
  case atStart => exact ⟨0, rfl, ⟨Nat.zero_le _⟩, ⟨Nat.le_refl _⟩, HBL⟩
  case round =>
    clear HBL
    obtain ⟨i, rfl, HIL, HIG, HBR⟩ := hrel
    have HBW : Aside0 (Below w.heap.size w wr) := ⟨HB1.out.trans (HBR.out.mono HB1.out.size)⟩
    have HX2r := Aside0.mk (blk_below HX2.out HBR.out)
    have HX3r := Aside0.mk (blk_below HX3.out HBR.out)
    have c21 : wr.cell? ⟨g2, 1, none⟩ = some (.slice A0_1 n01 c0_1) := blk_cell HX2r.out 1
    have hib : (i : Int) ≤ 1000000 := by have := HIL.out; have := HS.out; have := HN01.out; omega
    by_cases hlt : i < n01
    · have l1 : decide (i < n01) = true := decide_eq_true hlt
      have l2 : decide ((i : Int) < (n01 : Int)) = true := decide_eq_true (by omega)
      have l3 : (i : Int) < (n01 : Int) := by omega
      have hsh := H.out.s i (by rw [← HN01.out]; exact hlt)
      obtain ⟨x, hx⟩ : ∃ x, x = rd_T44 l0_1 (i : Int) := ⟨_, rfl⟩
      obtain ⟨y, hy⟩ : ∃ y, y = rd_T44 l1_1 (i : Int) := ⟨_, rfl⟩
      rw [← hx, ← hy] at hsh
      simp only [shSame, Bool.and_eq_true, decide_eq_true_eq] at hsh
      obtain ⟨e0, e3, s1, s2⟩ := hsh
      have S1 := Aside0.mk s1
      have S2 := Aside0.mk s2
      have E0 := Aside0.mk e0
      have E3 := Aside0.mk e3
      obtain ⟨ad, A1, k1, A2, k2, hA1, q0, q1, q2, q3, hk1, hC1, hk2, hC2⟩ := at_T44 (Kd.C_below H01.out HBW.out) (i : Int) (by omega) (by rw [← HN01.out]; omega)
      have hA : A0_1 = some ad := hA1
      subst hA
      rw [← hx] at q0 q1 q2 q3 hk1 hC1 hk2 hC2
      simp only [Int.toNat_natCast] at q0 q1 q2 q3
      have HK1 := Aside0.mk hk1
      have HK2 := Aside0.mk hk2
      have HC1 := Aside0.mk hC1
      have HC2 := Aside0.mk hC2
      obtain ⟨m1, hm1⟩ : ∃ m1, m1 = x.f1.length := ⟨_, rfl⟩
      obtain ⟨m2, hm2⟩ : ∃ m2, m2 = x.f2.length := ⟨_, rfl⟩
      obtain ⟨z0, hz0⟩ : ∃ z0, z0 = x.f0 := ⟨_, rfl⟩
      obtain ⟨z3, hz3⟩ : ∃ z3, z3 = x.f3 := ⟨_, rfl⟩
      rw [← hm1] at q1
      rw [← hm2] at q2
      rw [← hz0] at q0
      rw [← hz3] at q3
      have HM1 := Aside0.mk hm1
      have HM2 := Aside0.mk hm2
      have HZ0 := Aside0.mk hz0
      have HZ3 := Aside0.mk hz3
      have HY := Aside0.mk hy
      clear hA1 hk1 hk2 hC1 hC2 e0 e3 s1 s2 hm1 hm2 hz0 hz3 hx hy hlt
      go_upto_region 7 with (refine wpList_store_row rfl 44 _ _ rfl wr.heap.size #[.string z0, .slice A1 m1 k1, .slice A2 m2 k2, .bool z3] rfl rfl 44 #[.string ⟨#[]⟩, .slice none 0 0, .slice none 0 0, .bool false] (blk_new _ _) size_sh44 rfl (by simp [Value.oneCell']) ?_)
      obtain ⟨g6, hg6⟩ : ∃ g6, g6 = wr.heap.size := ⟨_, rfl⟩
      obtain ⟨w6, hw6⟩ : ∃ w6, w6 = (wr.alloc (.cells #[.string ⟨#[]⟩, .slice none 0 0, .slice none 0 0, .bool false] 44)).setRow wr.heap.size #[.string z0, .slice A1 m1 k1, .slice A2 m2 k2, .bool z3] := ⟨_, rfl⟩
      have hput : ∀ (a : Act) (v : Value), a.put none v = a := fun _ _ => rfl
      rw [← hw6, ← hg6, hput]
      have HX6 : Aside0 (w6.heap[g6]? = some (.cells #[.string z0, .slice A1 m1 k1, .slice A2 m2 k2, .bool z3] 44 (0, 0))) := ⟨by rw [hw6, hg6]; exact setRow_heap _ _ _ _ _ _ (blk_new _ _)⟩
      have HB6r : Aside0 (Below wr.heap.size wr w6) := ⟨by rw [hw6]; exact below_setRow (below_alloc (Below.refl _ _) _) (Nat.le_refl _) _⟩
      have HB6 : Aside0 (Below w1.heap.size w1 w6) := ⟨HBR.out.trans (HB6r.out.mono HBR.out.size)⟩
      have HB6w : Aside0 (Below w.heap.size w w6) := ⟨HB1.out.trans (HB6.out.mono HB1.out.size)⟩
      have HC1' := Aside0.mk (Kd.C_below HC1.out HB6r.out)
      have HC2' := Aside0.mk (Kd.C_below HC2.out HB6r.out)
      have HL6 : Aside0 (g6 < w6.heap.size) := ⟨blk_lt HX6.out⟩
      clear hw6 hg6 q0 q1 q2 q3 c21 HC1 HC2 HB6r HX2r HX3r HBR HBW
      have c31 : w6.cell? ⟨g2 + 1, 1, none⟩ = some (.slice A1_1 n01 c1_1) := blk_cell (blk_below HX3.out HB6.out) 1
      obtain ⟨bd, B1, b1, B2, b2, hA1, q0, q1, q2, q3, hk1, hC1, hk2, hC2⟩ := at_T44 (Kd.C_below H11.out HB6w.out) (i : Int) (by omega) (by rw [← H.out.ls, ← HN01.out]; omega)
      have hA : A1_1 = some bd := hA1
      subst hA
      rw [← HY.out] at q0 q1 q2 q3 hk1 hC1 hk2 hC2
      rw [← E0.out, ← HZ0.out] at q0
      rw [← E3.out, ← HZ3.out] at q3
      simp only [Int.toNat_natCast] at q0 q1 q2 q3
      have HBK1 := Aside0.mk hk1
      have HBK2 := Aside0.mk hk2
      have HD1 := Aside0.mk hC1
      have HD2 := Aside0.mk hC2
      obtain ⟨p1, hm1⟩ : ∃ p1, p1 = y.f1.length := ⟨_, rfl⟩
      obtain ⟨p2, hm2⟩ : ∃ p2, p2 = y.f2.length := ⟨_, rfl⟩
      rw [← hm1] at q1
      rw [← hm2] at q2
      have HP1 := Aside0.mk hm1
      have HP2 := Aside0.mk hm2
      clear hA1 hk1 hk2 hC1 hC2 hm1 hm2
      go_upto_region 8 with (refine wpList_store_row rfl 44 _ _ rfl w6.heap.size #[.string z0, .slice B1 p1 b1, .slice B2 p2 b2, .bool z3] rfl rfl 44 #[.string ⟨#[]⟩, .slice none 0 0, .slice none 0 0, .bool false] (blk_new _ _) size_sh44 rfl (by simp [Value.oneCell']) ?_)
      obtain ⟨g7, hg7⟩ : ∃ g7, g7 = w6.heap.size := ⟨_, rfl⟩
      obtain ⟨w7, hw7⟩ : ∃ w7, w7 = (w6.alloc (.cells #[.string ⟨#[]⟩, .slice none 0 0, .slice none 0 0, .bool false] 44)).setRow w6.heap.size #[.string z0, .slice B1 p1 b1, .slice B2 p2 b2, .bool z3] := ⟨_, rfl⟩
      rw [← hw7, ← hg7, hput]
      clear hput
      have HX7 : Aside0 (w7.heap[g7]? = some (.cells #[.string z0, .slice B1 p1 b1, .slice B2 p2 b2, .bool z3] 44 (0, 0))) := ⟨by rw [hw7, hg7]; exact setRow_heap _ _ _ _ _ _ (blk_new _ _)⟩
      have HB7r : Aside0 (Below w6.heap.size w6 w7) := ⟨by rw [hw7]; exact below_setRow (below_alloc (Below.refl _ _) _) (Nat.le_refl _) _⟩
      have HB7 : Aside0 (Below w1.heap.size w1 w7) := ⟨HB6.out.trans (HB7r.out.mono HB6.out.size)⟩
      have HX6' := Aside0.mk (blk_below HX6.out HB7r.out)
      have t1 := parapetref19_SameTexts.calls k A1 k1 x.f1 B1 b1 y.f1 true w7 (Kd.C_below HC1'.out HB7r.out) HK1.out (Kd.C_below HD1.out HB7r.out) HBK1.out S1.out
      have t2 := fun m => parapetref19_SameTexts.calls k A2 k2 x.f2 B2 b2 y.f2 true (w7.drewN m) (Kd.C_below (Kd.C_below HC2'.out HB7r.out) (pw_below_drewN (Below.refl _ _) m)) HK2.out (Kd.C_below (Kd.C_below HD2.out HB7r.out) (pw_below_drewN (Below.refl _ _) m)) HBK2.out S2.out
      rw [← HM1.out, ← HP1.out] at t1
      simp only [← HM2.out, ← HP2.out] at t2
      have TT1 := Aside0.mk t1
      have TT2 := Aside0.mk t2
      clear hw7 hg7 q0 q1 q2 q3 c31 t1 t2
      have d0 : w7.cell? ⟨g6, 0, none⟩ = some (.string z0) := blk_cell HX6'.out 0
      have d1 : w7.cell? ⟨g6, 1, none⟩ = some (.slice A1 m1 k1) := blk_cell HX6'.out 1
      have d2 : w7.cell? ⟨g6, 2, none⟩ = some (.slice A2 m2 k2) := blk_cell HX6'.out 2
      have d3 : w7.cell? ⟨g6, 3, none⟩ = some (.bool z3) := blk_cell HX6'.out 3
      have f0 : w7.cell? ⟨g7, 0, none⟩ = some (.string z0) := blk_cell HX7.out 0
      have f1 : w7.cell? ⟨g7, 1, none⟩ = some (.slice B1 p1 b1) := blk_cell HX7.out 1
      have f2 : w7.cell? ⟨g7, 2, none⟩ = some (.slice B2 p2 b2) := blk_cell HX7.out 2
      have f3 : w7.cell? ⟨g7, 3, none⟩ = some (.bool z3) := blk_cell HX7.out 3
      have r1 : (z0.toList == z0.toList) = true := by simp
      have r2 : (z3 == z3) = true := by simp
      go_wp2_with fail
      refine TT1.out.mono ?_
      rintro e w8 ⟨rfl, ⟨⟨m8, rfl⟩⟩⟩
      dsimp only
      go_wp2_with fail
      refine (TT2.out m8).mono ?_
      rintro e w9 ⟨rfl, ⟨⟨m9, rfl⟩⟩⟩
      dsimp only
      go_wp2
      go_roundg (n01 - (i + 1))
      case measure => have := HIG.out; omega
      case rel => exact ⟨i + 1, by simp, ⟨by omega⟩, ⟨Nat.le_refl _⟩, ⟨pw_below_drewN HB7.out _⟩⟩
    · have l1 : decide (i < n01) = false := decide_eq_false hlt
      have l2 : decide ((i : Int) < (n01 : Int)) = false := decide_eq_false (by omega)
      clear hlt
      go_wp2_with fail
      clear c21 l1 l2
      obtain ⟨wl, hwl⟩ : ∃ wl, wl = wr := ⟨_, rfl⟩
      rw [← hwl]
      have HBL : Aside0 (Below w1.heap.size w1 wl) := ⟨by rw [hwl]; exact HBR.out⟩
      clear hwl HBR HBW HX2r HX3r HIL HIG hib
      go_loopg [8] n03 (fun gk v8 wr => ∃ (i : Nat), v8 = .int .i64 i ∧ Aside0 (i ≤ n03) ∧ Aside0 (n03 - i ≤ gk) ∧ Aside0 (Below w1.heap.size w1 wr))
      case atStart => exact ⟨0, rfl, ⟨Nat.zero_le _⟩, ⟨Nat.le_refl _⟩, HBL⟩
      case round =>
        clear HBL
        rename_i i_old
        obtain ⟨i, rfl, HIL, HIG, HBR⟩ := hrel
        have HBW : Aside0 (Below w.heap.size w wr) := ⟨HB1.out.trans (HBR.out.mono HB1.out.size)⟩
        have HX2r := Aside0.mk (blk_below HX2.out HBR.out)
        have HX3r := Aside0.mk (blk_below HX3.out HBR.out)
        have c23 : wr.cell? ⟨g2, 3, none⟩ = some (.slice A0_3 n03 c0_3) := blk_cell HX2r.out 3
        have c33 : wr.cell? ⟨g2 + 1, 3, none⟩ = some (.slice A1_3 n03 c1_3) := blk_cell HX3r.out 3
        have hib : (i : Int) ≤ 1000000 := by have := HIL.out; have := HRL.out; have := HN03.out; omega
        by_cases hlt : i < n03
        · have l1 : decide (i < n03) = true := decide_eq_true hlt
          have l2 : decide ((i : Int) < (n03 : Int)) = true := decide_eq_true (by omega)
          have l3 : (i : Int) < (n03 : Int) := by omega
          have hsh := H.out.r i (by rw [← HN03.out]; exact hlt)
          obtain ⟨x, hx⟩ : ∃ x, x = rd_T51 l0_3 (i : Int) := ⟨_, rfl⟩
          obtain ⟨y, hy⟩ : ∃ y, y = rd_T51 l1_3 (i : Int) := ⟨_, rfl⟩
          rw [← hx, ← hy] at hsh
          simp only [rlSame, Bool.and_eq_true, decide_eq_true_eq] at hsh
          obtain ⟨e0, sc⟩ := hsh
          obtain ⟨ad, A3, k3, hA1, q0, q1, q2, q3, q4, hk3, hC3⟩ := at_T51 (Kd.C_below H03.out HBW.out) (i : Int) (by omega) (by rw [← HN03.out]; omega)
          obtain ⟨bd, B3, b3, hB1, s0, s1, s2, s3, s4, hk4, hC4⟩ := at_T51 (Kd.C_below H13.out HBW.out) (i : Int) (by omega) (by rw [← H.out.lr, ← HN03.out]; omega)
          have hA : A0_3 = some ad := hA1
          have hBB : A1_3 = some bd := hB1
          subst hA hBB
          rw [← hx] at q0 q1 q2 q3 q4 hk3 hC3
          rw [← hy] at s0 s1 s2 s3 s4 hk4 hC4
          rw [← e0] at s0
          have hsc := parapetref19_SameCond.calls k x.f1.f0 x.f1.f1.f0 x.f1.f1.f1 A3 k3 x.f1.f2 y.f1.f0 y.f1.f1.f0 y.f1.f1.f1 B3 b3 y.f1.f2 true wr.drew (Kd.C_drew hC3) hk3 (Kd.C_drew hC4) hk4 sc
          simp only [Int.toNat_natCast] at q0 q1 q2 q3 q4 s0 s1 s2 s3 s4
          obtain ⟨m3, hm3⟩ : ∃ m3, m3 = x.f1.f2.length := ⟨_, rfl⟩
          obtain ⟨p3, hp3⟩ : ∃ p3, p3 = y.f1.f2.length := ⟨_, rfl⟩
          rw [← hm3] at q4 hsc
          rw [← hp3] at s4 hsc
          clear hk3 hC3 hk4 hC4 sc e0 hx hy hm3 hp3 hA1 hB1
          obtain ⟨z0, ⟨x0, ⟨x1, x2⟩, xk⟩⟩ := x
          obtain ⟨zy, ⟨y0, ⟨y1, y2⟩, yk⟩⟩ := y
          dsimp only at q0 q1 q2 q3 q4 s0 s1 s2 s3 s4 hsc
          have HSC := Aside0.mk hsc
          have hbl := World.block_lt_of_cell? wr _ q0
          have hbl2 := World.block_lt_of_cell? wr _ s0
          have r1 : (z0 != z0) = false := by simp
          clear hsc hlt
          go_upto_region 13 with (fail)
          refine start_ (n := 29) (S := fun w' => w'.cell? ⟨g2, 3, none⟩ = some (.slice (some ad) n03 c0_3) ∧ w'.cell? ⟨g2 + 1, 3, none⟩ = some (.slice (some bd) n03 c1_3) ∧ w'.cell? (ad.add (i * 5)) = some (.bool z0) ∧ w'.cell? ⟨(ad.add (i * 5)).block, (ad.add (i * 5)).off + 1, none⟩ = some (.int .i64 x0) ∧ w'.cell? ⟨(ad.add (i * 5)).block, (ad.add (i * 5)).off + 2, none⟩ = some (.string x1) ∧ w'.cell? ⟨(ad.add (i * 5)).block, (ad.add (i * 5)).off + 3, none⟩ = some (.string x2) ∧ w'.cell? ⟨(ad.add (i * 5)).block, (ad.add (i * 5)).off + 4, none⟩ = some (.slice A3 m3 k3) ∧ w'.cell? (bd.add (i * 5)) = some (.bool z0) ∧ w'.cell? ⟨(bd.add (i * 5)).block, (bd.add (i * 5)).off + 1, none⟩ = some (.int .i64 y0) ∧ w'.cell? ⟨(bd.add (i * 5)).block, (bd.add (i * 5)).off + 2, none⟩ = some (.string y1) ∧ w'.cell? ⟨(bd.add (i * 5)).block, (bd.add (i * 5)).off + 3, none⟩ = some (.string y2) ∧ w'.cell? ⟨(bd.add (i * 5)).block, (bd.add (i * 5)).off + 4, none⟩ = some (.slice B3 p3 b3)) (ds := [26]) #[false, false, false, false, false, false, false, false, false, false, false, false, false, false, false, false, false, false, false, false, false, false, false, false, false, false, false, false, false] (by kernel_rfl) rfl rfl ⟨c23, c33, q0, q1, q2, q3, q4, s0, s1, s2, s3, s4⟩ (fun hHeld => ?_)
          refine pure_ (i := 0) (N := some 99) (v := ?_) (a' := ?_) #[true, false, false, false, false, false, false, false, false, false, false, false, false, false, false, false, false, false, false, false, false, false, false, false, false, false, false, false, false] rfl rfl (by kernel_rfl) (fun _ _ _ h => h) (Or.inl ⟨by rfl, ?_⟩) ?_ ?_
          rotate_left
          · intro w'
            go_simp
            with_reducible rfl
          rotate_left
          · simp only [Act.put, List.setIfInBounds_toArray, List.set_cons_zero, List.set_cons_succ, i64_w, i32_w]
            rfl
          refine pure_ (i := 2) (N := some 101) (v := ?_) (a' := ?_) #[true, false, true, false, false, false, false, false, false, false, false, false, false, false, false, false, false, false, false, false, false, false, false, false, false, false, false, false, false] rfl rfl (by kernel_rfl) (fun _ _ _ h => h) (Or.inl ⟨by rfl, ?_⟩) ?_ ?_
          rotate_left
          · intro w'
            go_simp
            with_reducible rfl
          rotate_left
          · simp only [Act.put, List.setIfInBounds_toArray, List.set_cons_zero, List.set_cons_succ, i64_w, i32_w]
            rfl
          refine pure_ (i := 6) (N := some 105) (v := ?_) (a' := ?_) #[true, false, true, false, false, false, true, false, false, false, false, false, false, false, false, false, false, false, false, false, false, false, false, false, false, false, false, false, false] rfl rfl (by kernel_rfl) (fun _ _ _ h => h) (Or.inl ⟨by rfl, ?_⟩) ?_ ?_
          rotate_left
          · intro w'
            go_simp
            with_reducible rfl
          rotate_left
          · simp only [Act.put, List.setIfInBounds_toArray, List.set_cons_zero, List.set_cons_succ, i64_w, i32_w]
            rfl
          refine pure_ (i := 8) (N := some 107) (v := ?_) (a' := ?_) #[true, false, true, false, false, false, true, false, true, false, false, false, false, false, false, false, false, false, false, false, false, false, false, false, false, false, false, false, false] rfl rfl (by kernel_rfl) (fun _ _ _ h => h) (Or.inl ⟨by rfl, ?_⟩) ?_ ?_
          rotate_left
          · intro w'
            go_simp
            with_reducible rfl
          rotate_left
          · simp only [Act.put, List.setIfInBounds_toArray, List.set_cons_zero, List.set_cons_succ, i64_w, i32_w]
            rfl
          refine take_ (i := 1) (N := some 100) (v := ?_) (a' := ?_) #[true, true, true, false, false, false, true, false, true, false, false, false, false, false, false, false, false, false, false, false, false, false, false, false, false, false, false, false, false] rfl rfl (by kernel_rfl) (fun _ _ _ h => h) (Or.inl ⟨by rfl, ?_⟩) hHeld ?_ ?_
          rotate_left
          · rintro w' ⟨s0, s1, s2, s3, s4, s5, s6, s7, s8, s9, s10, s11⟩
            go_simp
            with_reducible rfl
          rotate_left
          · simp only [Act.put, List.setIfInBounds_toArray, List.set_cons_zero, List.set_cons_succ, i64_w, i32_w]
            rfl
          refine pure_ (i := 3) (N := some 102) (v := ?_) (a' := ?_) #[true, true, true, true, false, false, true, false, true, false, false, false, false, false, false, false, false, false, false, false, false, false, false, false, false, false, false, false, false] rfl rfl (by kernel_rfl) (fun _ _ _ h => h) (Or.inl ⟨by rfl, ?_⟩) ?_ ?_
          rotate_left
          · intro w'
            go_simp
            with_reducible rfl
          rotate_left
          · simp only [Act.put, List.setIfInBounds_toArray, List.set_cons_zero, List.set_cons_succ, i64_w, i32_w]
            rfl
          refine pure_ (i := 4) (N := some 103) (v := ?_) (a' := ?_) #[true, true, true, true, true, false, true, false, true, false, false, false, false, false, false, false, false, false, false, false, false, false, false, false, false, false, false, false, false] rfl rfl (by kernel_rfl) (fun _ _ _ h => h) (Or.inl ⟨by rfl, ?_⟩) ?_ ?_
          rotate_left
          · intro w'
            go_simp
            with_reducible rfl
          rotate_left
          · simp only [Act.put, List.setIfInBounds_toArray, List.set_cons_zero, List.set_cons_succ, i64_w, i32_w]
            rfl
          refine take_ (i := 5) (N := some 104) (v := ?_) (a' := ?_) #[true, true, true, true, true, true, true, false, true, false, false, false, false, false, false, false, false, false, false, false, false, false, false, false, false, false, false, false, false] rfl rfl (by kernel_rfl) (fun _ _ _ h => h) (Or.inl ⟨by rfl, ?_⟩) hHeld ?_ ?_
          rotate_left
          · rintro w' ⟨s0, s1, s2, s3, s4, s5, s6, s7, s8, s9, s10, s11⟩
            go_simp
            with_reducible rfl
          rotate_left
          · simp only [Act.put, List.setIfInBounds_toArray, List.set_cons_zero, List.set_cons_succ, i64_w, i32_w]
            rfl
          refine take_ (i := 7) (N := some 106) (v := ?_) (a' := ?_) #[true, true, true, true, true, true, true, true, true, false, false, false, false, false, false, false, false, false, false, false, false, false, false, false, false, false, false, false, false] rfl rfl (by kernel_rfl) (fun _ _ _ h => h) (Or.inl ⟨by rfl, ?_⟩) hHeld ?_ ?_
          rotate_left
          · rintro w' ⟨s0, s1, s2, s3, s4, s5, s6, s7, s8, s9, s10, s11⟩
            go_simp
            with_reducible rfl
          rotate_left
          · simp only [Act.put, List.setIfInBounds_toArray, List.set_cons_zero, List.set_cons_succ, i64_w, i32_w]
            rfl
          refine pure_ (i := 9) (N := some 108) (v := ?_) (a' := ?_) #[true, true, true, true, true, true, true, true, true, true, false, false, false, false, false, false, false, false, false, false, false, false, false, false, false, false, false, false, false] rfl rfl (by kernel_rfl) (fun _ _ _ h => h) (Or.inl ⟨by rfl, ?_⟩) ?_ ?_
          rotate_left
          · intro w'
            go_simp
            with_reducible rfl
          rotate_left
          · simp only [Act.put, List.setIfInBounds_toArray, List.set_cons_zero, List.set_cons_succ, i64_w, i32_w]
            rfl
          refine pure_ (i := 10) (N := some 109) (v := ?_) (a' := ?_) #[true, true, true, true, true, true, true, true, true, true, true, false, false, false, false, false, false, false, false, false, false, false, false, false, false, false, false, false, false] rfl rfl (by kernel_rfl) (fun _ _ _ h => h) (Or.inl ⟨by rfl, ?_⟩) ?_ ?_
          rotate_left
          · intro w'
            go_simp
            with_reducible rfl
          rotate_left
          · simp only [Act.put, List.setIfInBounds_toArray, List.set_cons_zero, List.set_cons_succ, i64_w, i32_w]
            rfl
          refine take_ (i := 11) (N := some 110) (v := ?_) (a' := ?_) #[true, true, true, true, true, true, true, true, true, true, true, true, false, false, false, false, false, false, false, false, false, false, false, false, false, false, false, false, false] rfl rfl (by kernel_rfl) (fun _ _ _ h => h) (Or.inl ⟨by rfl, ?_⟩) hHeld ?_ ?_
          rotate_left
          · rintro w' ⟨s0, s1, s2, s3, s4, s5, s6, s7, s8, s9, s10, s11⟩
            go_simp
            with_reducible rfl
          rotate_left
          · simp only [Act.put, List.setIfInBounds_toArray, List.set_cons_zero, List.set_cons_succ, i64_w, i32_w]
            rfl
          refine pure_ (i := 12) (N := some 111) (v := ?_) (a' := ?_) #[true, true, true, true, true, true, true, true, true, true, true, true, true, false, false, false, false, false, false, false, false, false, false, false, false, false, false, false, false] rfl rfl (by kernel_rfl) (fun _ _ _ h => h) (Or.inl ⟨by rfl, ?_⟩) ?_ ?_
          rotate_left
          · intro w'
            go_simp
            with_reducible rfl
          rotate_left
          · simp only [Act.put, List.setIfInBounds_toArray, List.set_cons_zero, List.set_cons_succ, i64_w, i32_w]
            rfl
          refine pure_ (i := 13) (N := some 112) (v := ?_) (a' := ?_) #[true, true, true, true, true, true, true, true, true, true, true, true, true, true, false, false, false, false, false, false, false, false, false, false, false, false, false, false, false] rfl rfl (by kernel_rfl) (fun _ _ _ h => h) (Or.inl ⟨by rfl, ?_⟩) ?_ ?_
          rotate_left
          · intro w'
            go_simp
            with_reducible rfl
          rotate_left
          · simp only [Act.put, List.setIfInBounds_toArray, List.set_cons_zero, List.set_cons_succ, i64_w, i32_w]
            rfl
          refine pure_ (i := 14) (N := some 113) (v := ?_) (a' := ?_) #[true, true, true, true, true, true, true, true, true, true, true, true, true, true, true, false, false, false, false, false, false, false, false, false, false, false, false, false, false] rfl rfl (by kernel_rfl) (fun _ _ _ h => h) (Or.inl ⟨by rfl, ?_⟩) ?_ ?_
          rotate_left
          · intro w'
            go_simp
            with_reducible rfl
          rotate_left
          · simp only [Act.put, List.setIfInBounds_toArray, List.set_cons_zero, List.set_cons_succ, i64_w, i32_w]
            rfl
          refine pure_ (i := 16) (N := some 115) (v := ?_) (a' := ?_) #[true, true, true, true, true, true, true, true, true, true, true, true, true, true, true, false, true, false, false, false, false, false, false, false, false, false, false, false, false] rfl rfl (by kernel_rfl) (fun _ _ _ h => h) (Or.inl ⟨by rfl, ?_⟩) ?_ ?_
          rotate_left
          · intro w'
            go_simp
            with_reducible rfl
          rotate_left
          · simp only [Act.put, List.setIfInBounds_toArray, List.set_cons_zero, List.set_cons_succ, i64_w, i32_w]
            rfl
          refine pure_ (i := 20) (N := some 119) (v := ?_) (a' := ?_) #[true, true, true, true, true, true, true, true, true, true, true, true, true, true, true, false, true, false, false, false, true, false, false, false, false, false, false, false, false] rfl rfl (by kernel_rfl) (fun _ _ _ h => h) (Or.inl ⟨by rfl, ?_⟩) ?_ ?_
          rotate_left
          · intro w'
            go_simp
            with_reducible rfl
          rotate_left
          · simp only [Act.put, List.setIfInBounds_toArray, List.set_cons_zero, List.set_cons_succ, i64_w, i32_w]
            rfl
          refine pure_ (i := 22) (N := some 121) (v := ?_) (a' := ?_) #[true, true, true, true, true, true, true, true, true, true, true, true, true, true, true, false, true, false, false, false, true, false, true, false, false, false, false, false, false] rfl rfl (by kernel_rfl) (fun _ _ _ h => h) (Or.inl ⟨by rfl, ?_⟩) ?_ ?_
          rotate_left
          · intro w'
            go_simp
            with_reducible rfl
          rotate_left
          · simp only [Act.put, List.setIfInBounds_toArray, List.set_cons_zero, List.set_cons_succ, i64_w, i32_w]
            rfl
          refine take_ (i := 15) (N := some 114) (v := ?_) (a' := ?_) #[true, true, true, true, true, true, true, true, true, true, true, true, true, true, true, true, true, false, false, false, true, false, true, false, false, false, false, false, false] rfl rfl (by kernel_rfl) (fun _ _ _ h => h) (Or.inl ⟨by rfl, ?_⟩) hHeld ?_ ?_
          rotate_left
          · rintro w' ⟨s0, s1, s2, s3, s4, s5, s6, s7, s8, s9, s10, s11⟩
            go_simp
            with_reducible rfl
          rotate_left
          · simp only [Act.put, List.setIfInBounds_toArray, List.set_cons_zero, List.set_cons_succ, i64_w, i32_w]
            rfl
          refine pure_ (i := 17) (N := some 116) (v := ?_) (a' := ?_) #[true, true, true, true, true, true, true, true, true, true, true, true, true, true, true, true, true, true, false, false, true, false, true, false, false, false, false, false, false] rfl rfl (by kernel_rfl) (fun _ _ _ h => h) (Or.inl ⟨by rfl, ?_⟩) ?_ ?_
          rotate_left
          · intro w'
            go_simp
            with_reducible rfl
          rotate_left
          · simp only [Act.put, List.setIfInBounds_toArray, List.set_cons_zero, List.set_cons_succ, i64_w, i32_w]
            rfl
          refine pure_ (i := 18) (N := some 117) (v := ?_) (a' := ?_) #[true, true, true, true, true, true, true, true, true, true, true, true, true, true, true, true, true, true, true, false, true, false, true, false, false, false, false, false, false] rfl rfl (by kernel_rfl) (fun _ _ _ h => h) (Or.inl ⟨by rfl, ?_⟩) ?_ ?_
          rotate_left
          · intro w'
            go_simp
            with_reducible rfl
          rotate_left
          · simp only [Act.put, List.setIfInBounds_toArray, List.set_cons_zero, List.set_cons_succ, i64_w, i32_w]
            rfl
          refine take_ (i := 19) (N := some 118) (v := ?_) (a' := ?_) #[true, true, true, true, true, true, true, true, true, true, true, true, true, true, true, true, true, true, true, true, true, false, true, false, false, false, false, false, false] rfl rfl (by kernel_rfl) (fun _ _ _ h => h) (Or.inl ⟨by rfl, ?_⟩) hHeld ?_ ?_
          rotate_left
          · rintro w' ⟨s0, s1, s2, s3, s4, s5, s6, s7, s8, s9, s10, s11⟩
            go_simp
            with_reducible rfl
          rotate_left
          · simp only [Act.put, List.setIfInBounds_toArray, List.set_cons_zero, List.set_cons_succ, i64_w, i32_w]
            rfl
          refine take_ (i := 21) (N := some 120) (v := ?_) (a' := ?_) #[true, true, true, true, true, true, true, true, true, true, true, true, true, true, true, true, true, true, true, true, true, true, true, false, false, false, false, false, false] rfl rfl (by kernel_rfl) (fun _ _ _ h => h) (Or.inl ⟨by rfl, ?_⟩) hHeld ?_ ?_
          rotate_left
          · rintro w' ⟨s0, s1, s2, s3, s4, s5, s6, s7, s8, s9, s10, s11⟩
            go_simp
            with_reducible rfl
          rotate_left
          · simp only [Act.put, List.setIfInBounds_toArray, List.set_cons_zero, List.set_cons_succ, i64_w, i32_w]
            rfl
          refine pure_ (i := 23) (N := some 122) (v := ?_) (a' := ?_) #[true, true, true, true, true, true, true, true, true, true, true, true, true, true, true, true, true, true, true, true, true, true, true, true, false, false, false, false, false] rfl rfl (by kernel_rfl) (fun _ _ _ h => h) (Or.inl ⟨by rfl, ?_⟩) ?_ ?_
          rotate_left
          · intro w'
            go_simp
            with_reducible rfl
          rotate_left
          · simp only [Act.put, List.setIfInBounds_toArray, List.set_cons_zero, List.set_cons_succ, i64_w, i32_w]
            rfl
          refine pure_ (i := 24) (N := some 123) (v := ?_) (a' := ?_) #[true, true, true, true, true, true, true, true, true, true, true, true, true, true, true, true, true, true, true, true, true, true, true, true, true, false, false, false, false] rfl rfl (by kernel_rfl) (fun _ _ _ h => h) (Or.inl ⟨by rfl, ?_⟩) ?_ ?_
          rotate_left
          · intro w'
            go_simp
            with_reducible rfl
          rotate_left
          · simp only [Act.put, List.setIfInBounds_toArray, List.set_cons_zero, List.set_cons_succ, i64_w, i32_w]
            rfl
          refine take_ (i := 25) (N := some 124) (v := ?_) (a' := ?_) #[true, true, true, true, true, true, true, true, true, true, true, true, true, true, true, true, true, true, true, true, true, true, true, true, true, true, false, false, false] rfl rfl (by kernel_rfl) (fun _ _ _ h => h) (Or.inl ⟨by rfl, ?_⟩) hHeld ?_ ?_
          rotate_left
          · rintro w' ⟨s0, s1, s2, s3, s4, s5, s6, s7, s8, s9, s10, s11⟩
            go_simp
            with_reducible rfl
          rotate_left
          · simp only [Act.put, List.setIfInBounds_toArray, List.set_cons_zero, List.set_cons_succ, i64_w, i32_w]
            rfl
          refine last_ (i := 26) (N := some 125) #[true, true, true, true, true, true, true, true, true, true, true, true, true, true, true, true, true, true, true, true, true, true, true, true, true, true, true, false, false] rfl rfl (by kernel_rfl) (by decide) (fun K hK => ?_)
          refine goesS_ Tryd.func33 (by kernel_rfl) rfl #[.agg #[.int .i64 x0, .string x1, .string x2, .slice A3 m3 k3], .agg #[.int .i64 y0, .string y1, .string y2, .slice B3 p3 b3]] (by rfl) rfl rfl (by simp only [List.map_toArray, List.map_cons, List.map_nil]; rfl) ?_
          refine HSC.out.mono ?_
          rintro e w5 ⟨rfl, hb⟩
          refine ⟨_, rfl, ?_⟩
          have HB5 := Aside0.mk hb
          clear hb
          refine hK.out _ _ ?_
          clear hK K
          refine norm_ (a' := ?_) ?_ ?_
          rotate_left
          · show Act.put _ (some 125) _ = _
            simp only [Act.put, List.setIfInBounds_toArray, List.set_cons_zero, List.set_cons_succ, i64_w, i32_w]
            rfl
          refine pure_ (i := 27) (N := some 126) (v := ?_) (a' := ?_) #[true, true, true, true, true, true, true, true, true, true, true, true, true, true, true, true, true, true, true, true, true, true, true, true, true, true, true, true, false] rfl rfl (by kernel_rfl) (fun _ _ _ h => h) (Or.inl ⟨by rfl, ?_⟩) ?_ ?_
          rotate_left
          · intro w'
            go_simp
            with_reducible rfl
          rotate_left
          · simp only [Act.put, List.setIfInBounds_toArray, List.set_cons_zero, List.set_cons_succ, i64_w, i32_w]
            rfl
          refine pure_ (i := 28) (N := some 127) (v := ?_) (a' := ?_) #[true, true, true, true, true, true, true, true, true, true, true, true, true, true, true, true, true, true, true, true, true, true, true, true, true, true, true, true, true] rfl rfl (by kernel_rfl) (fun _ _ _ h => h) (Or.inl ⟨by rfl, ?_⟩) ?_ ?_
          rotate_left
          · intro w'
            go_simp
            with_reducible rfl
          rotate_left
          · simp only [Act.put, List.setIfInBounds_toArray, List.set_cons_zero, List.set_cons_succ, i64_w, i32_w]
            rfl
          refine done_ (by kernel_rfl) ?_

          go_wp2
          go_roundg (n03 - (i + 1))
          case measure => have := HIG.out; omega
          case rel => exact ⟨i + 1, by simp, ⟨by omega⟩, ⟨Nat.le_refl _⟩, ⟨(below_drew HBR.out).trans (HB5.out.mono HBR.out.size)⟩⟩
        · have l1 : decide (i < n03) = false := decide_eq_false hlt
          have l2 : decide ((i : Int) < (n03 : Int)) = false := decide_eq_false (by omega)
          clear hlt
          go_wp2
          go_ret
          exact ⟨rfl, HBW.out⟩
end Go.Proofs.YtngedmioeodmfaaDoor.Ps
namespace Go.Proofs.YtngedmioeodmfaaDoor.Pr
open Go.RowKit Go.Proofs.YtngedmioeodmfaaDoorW.PrintWords Go.Proofs.YtngedmioeodmfaaDoorW.PrintLast Go.Proofs.YtngedmioeodmfaaDoorW.PrintMore
attribute [local go_sem] max2_int min2_int max_two min_two max_three min_three max_four min_four   -- for this text's walks alone
set_option linter.unusedVariables false
set_option linter.unusedSimpArgs false
def parapetref19_SamePolicy.f (k : Nat) (l0_0 : List ByteArray) (l0_1 : List (S44)) (a0_2 : ByteArray) (l0_3 : List (S51)) (a0_4 : Bool) (l1_0 : List ByteArray) (l1_1 : List (S44)) (a1_2 : ByteArray) (l1_3 : List (S51)) (a1_4 : Bool) : Option (Bool) :=
  if Go.Proofs.YtngedmioeodmfaaDoor.Ps.alike k l0_0 l0_1 a0_2 l0_3 a0_4 l1_0 l1_1 a1_2 l1_3 a1_4 = true then some true else none
theorem parapetref19_SamePolicy.mono : ∀ a0 a1 a2 a3 a4 a5 a6 a7 a8 a9 k, LeO (parapetref19_SamePolicy.f k a0 a1 a2 a3 a4 a5 a6 a7 a8 a9) (parapetref19_SamePolicy.f (k + 1) a0 a1 a2 a3 a4 a5 a6 a7 a8 a9) := by
  intro a0 a1 a2 a3 a4 a5 a6 a7 a8 a9 k r h
  unfold parapetref19_SamePolicy.f at h ⊢
  by_cases hk : Go.Proofs.YtngedmioeodmfaaDoor.Ps.alike k a0 a1 a2 a3 a4 a5 a6 a7 a8 a9 = true
  · rw [if_pos hk] at h
    rw [if_pos (Go.Proofs.YtngedmioeodmfaaDoor.Ps.alike_mono hk)]
    exact h
  · rw [if_neg hk] at h; cases h
theorem parapetref19_SamePolicy.calls (k : Nat) (A0_0 : Option Addr) (c0_0 : Nat) (l0_0 : List ByteArray) (A0_1 : Option Addr) (c0_1 : Nat) (l0_1 : List (S44)) (a0_2 : ByteArray) (A0_3 : Option Addr) (c0_3 : Nat) (l0_3 : List (S51)) (a0_4 : Bool)
    (A1_0 : Option Addr) (c1_0 : Nat) (l1_0 : List ByteArray) (A1_1 : Option Addr) (c1_1 : Nat) (l1_1 : List (S44)) (a1_2 : ByteArray) (A1_3 : Option Addr) (c1_3 : Nat) (l1_3 : List (S51)) (a1_4 : Bool) (r : Bool) (w : World)
    (hr0_0 : Kd.C Kd.string w A0_0 l0_0.length l0_0) (hc0_0 : l0_0.length ≤ c0_0) (hr0_1 : Kd.C k44 w A0_1 l0_1.length l0_1) (hc0_1 : l0_1.length ≤ c0_1) (hr0_3 : Kd.C k51 w A0_3 l0_3.length l0_3) (hc0_3 : l0_3.length ≤ c0_3)
    (hr1_0 : Kd.C Kd.string w A1_0 l1_0.length l1_0) (hc1_0 : l1_0.length ≤ c1_0) (hr1_1 : Kd.C k44 w A1_1 l1_1.length l1_1) (hc1_1 : l1_1.length ≤ c1_1) (hr1_3 : Kd.C k51 w A1_3 l1_3.length l1_3) (hc1_3 : l1_3.length ≤ c1_3)
    (h : parapetref19_SamePolicy.f k l0_0 l0_1 a0_2 l0_3 a0_4 l1_0 l1_1 a1_2 l1_3 a1_4 = some r) :
    Calls Tryd.prog 14 #[.agg #[.slice A0_0 l0_0.length c0_0, .slice A0_1 l0_1.length c0_1, .string a0_2, .slice A0_3 l0_3.length c0_3, .bool a0_4], .agg #[.slice A1_0 l1_0.length c1_0, .slice A1_1 l1_1.length c1_1, .string a1_2, .slice A1_3 l1_3.length c1_3, .bool a1_4]] w fun e w' => e = .returned (.bool r) ∧ Below w.heap.size w w' := by
  unfold parapetref19_SamePolicy.f at h
  by_cases hk : Go.Proofs.YtngedmioeodmfaaDoor.Ps.alike k l0_0 l0_1 a0_2 l0_3 a0_4 l1_0 l1_1 a1_2 l1_3 a1_4 = true
  · rw [if_pos hk] at h
    obtain rfl := Option.some.inj h
    have hk2 := Go.Proofs.YtngedmioeodmfaaDoor.Ps.alike_iff.1 hk
    exact Go.Proofs.YtngedmioeodmfaaDoor.Ps.same_calls k A0_0 c0_0 l0_0 A0_1 c0_1 l0_1 a0_2 A0_3 c0_3 l0_3 a0_4 A1_0 c1_0 l1_0 A1_1 c1_1 l1_1 a1_2 A1_3 c1_3 l1_3 a1_4 w hr0_0 hc0_0 hr0_1 hc0_1 hr0_3 hc0_3 hr1_0 hc1_0 hr1_1 hc1_1 hr1_3 hc1_3 hk2.1 hk2.2.1 hk2.2.2
  · rw [if_neg hk] at h; cases h
end Go.Proofs.YtngedmioeodmfaaDoor.Pr
namespace Go.Proofs.YtngedmioeodmfaaDoor.Pu
open Go.RowKit Go.Proofs.YtngedmioeodmfaaDoor.Pr Go.Proofs.YtngedmioeodmfaaDoorW.PrintWords Go.Proofs.YtngedmioeodmfaaDoor.Lx
open Go.Proofs.YtngedmioeodmfaaDoor.Ps hiding Tk
set_option linter.unusedVariables false
set_option linter.unusedSimpArgs false
mutual
def sizeC : S49 → Nat
  | ⟨_, _, l⟩ => 1 + sizeL l
def sizeL : List (S49) → Nat
  | [] => 0
  | c :: l => sizeC c + sizeL l
end
theorem sizeC_eq (c : Cd) : sizeC c = 1 + sizeL c.f2 := by cases c; rw [sizeC]
theorem sizeL_app : ∀ a b : List Cd, sizeL (a ++ b) = sizeL a + sizeL b
  | [], b => by rw [List.nil_append, sizeL]; omega
  | c :: a, b => by rw [List.cons_append, sizeL, sizeL, sizeL_app a b]; omega
theorem sizeL_len : ∀ l : List Cd, l.length ≤ sizeL l
  | [] => Nat.zero_le _
  | c :: l => by rw [sizeL, List.length_cons, sizeC_eq]; have := sizeL_len l; omega
theorem size_mem : ∀ {l : List Cd} {c : Cd}, c ∈ l → sizeC c ≤ sizeL l
  | d :: l, c, h => by
    rw [sizeL]
    rcases List.mem_cons.1 h with rfl | h
    · omega
    · have := size_mem h; omega
section
variable {T : List Tk} {e : Int}
def Sized (f : Nat → Res Cd) : Prop := ∀ p c q, f p = .ok (c, q) → sizeC c + p ≤ q
theorem kidsL_size {one : Nat → Res Cd} (h : Sized one) {w : ByteArray} : ∀ (f : Nat) (acc : List Cd) (p : Nat) (l : List Cd) (q : Nat), kidsL T e one w f acc p = .ok (l, q) → sizeL l + p + l.length ≤ sizeL acc + q + acc.length
  | 0, acc, p, l, q, hr => by cases hr; omega
  | f + 1, acc, p, l, q, hr => by
    rw [kidsL] at hr
    split at hr
    · cases h1 : one (p + 1) with
      | error x => rw [h1] at hr; cases hr
      | ok x =>
        obtain ⟨c, q1⟩ := x
        rw [h1] at hr
        have := h _ _ _ h1
        have := kidsL_size h f _ _ _ _ hr
        rw [sizeL_app, List.length_append, List.length_singleton, sizeL, sizeL] at this
        omega
    · cases hr; omega
theorem kidsL_more {one : Nat → Res Cd} {w : ByteArray} : ∀ {f : Nat} {acc : List Cd} {p : Nat} {l : List Cd} {q : Nat}, kidsL T e one w f acc p = .ok (l, q) → acc.length ≤ l.length
  | 0, acc, p, l, q, hr => by cases hr; exact Nat.le_refl _
  | f + 1, acc, p, l, q, hr => by
    rw [kidsL] at hr
    split at hr
    · cases h1 : one (p + 1) with
      | error x => rw [h1] at hr; cases hr
      | ok x =>
        obtain ⟨c, q1⟩ := x
        rw [h1] at hr
        have := kidsL_more hr
        rw [List.length_append] at this
        omega
    · cases hr; exact Nat.le_refl _
theorem kidsP_size {one : Nat → Res Cd} (h : Sized one) {w : ByteArray} {kind : Int} : Sized (kidsP T e kind w one) := by
  intro p c q hr
  rw [kidsP] at hr
  cases h1 : one p with
  | error x => rw [h1] at hr; cases hr
  | ok x =>
    obtain ⟨c1, q1⟩ := x
    rw [h1] at hr
    have hs := h _ _ _ h1
    simp only at hr
    cases hk : kidsL T e one w (T.length + 1 - q1) [c1] q1 with
    | error x => rw [hk] at hr; cases hr
    | ok y =>
      obtain ⟨l, q2⟩ := y
      rw [hk] at hr
      have hl := kidsL_size h _ _ _ _ _ hk
      simp only [sizeL, List.length_singleton] at hl
      simp only at hr
      split at hr
      · rename_i h1l
        have h3 := Except.ok.inj hr; simp only [Prod.mk.injEq] at h3
        obtain ⟨x, rfl⟩ : ∃ x, l = [x] := List.length_eq_one_iff.1 h1l
        rw [← h3.1, ← h3.2]
        simp only [sizeL, List.length_singleton] at hl
        show sizeC x + p ≤ q2
        omega
      · rename_i h1l
        have h3 := Except.ok.inj hr; simp only [Prod.mk.injEq] at h3
        rw [← h3.1, ← h3.2, cond0, sizeC]
        have hge : 1 ≤ l.length := by
          have := kidsL_more hk
          simpa using this
        omega
theorem atomP_size : Sized (atomP T e) := by
  intro p c q h
  have hg := atomP_gt h
  have : sizeC c = 1 := by
    rw [atomP] at h
    cases h1 : wordP T e atomWords p with
    | error x => rw [h1] at h; cases h
    | ok x =>
      obtain ⟨w, q1⟩ := x
      rw [h1] at h
      simp only at h
      unfold atomK at h
      have hT : ∀ {f : ByteArray → ByteArray} {r : Res ByteArray}, atomT w f r = .ok (c, q) → sizeC c = 1 := by
        intro f r hr
        cases r with
        | error x => cases hr
        | ok x => obtain ⟨t, q3⟩ := x; simp only [atomT] at hr; have h3 := Except.ok.inj hr; simp only [Prod.mk.injEq] at h3; rw [← h3.1, sizeC, sizeL]
      split at h
      · have h3 := Except.ok.inj h; simp only [Prod.mk.injEq] at h3; rw [← h3.1, cond0, sizeC, sizeL]
      split at h
      · have h3 := Except.ok.inj h; simp only [Prod.mk.injEq] at h3; rw [← h3.1, cond0, sizeC, sizeL]
      split at h
      · exact hT h
      split at h
      · exact hT h
      split at h
      · exact hT h
      · have h3 := Except.ok.inj h; simp only [Prod.mk.injEq] at h3; rw [← h3.1, sizeC, sizeL]
  omega
theorem notN_size : ∀ n, Sized (notN T e n)
  | 0 => by
    intro p c q h
    rw [notN] at h
    split at h
    · cases h
    split at h
    · cases h
    · exact atomP_size _ _ _ h
  | n + 1 => by
    intro p c q h
    rw [notN] at h
    split at h
    · obtain ⟨c1, q1, h1, h2⟩ := wrapNot_ok h
      simp only [Prod.mk.injEq] at h2
      have := notN_size n _ _ _ h1
      rw [h2.1, h2.2, cond0, sizeC, sizeL, sizeL]; omega
    split at h
    · obtain ⟨c1, q1, h1, h2⟩ := closeP_ok h
      have := kidsP_size (kidsP_size (notN_size n)) _ _ _ h1
      cases ht : takeP T e 4 q1 with
      | error x => rw [ht] at h2; cases h2
      | ok x =>
        obtain ⟨t, q2⟩ := x
        have := takeP_mono ht
        rw [ht] at h2
        simp only [closeK] at h2
        have h4 := Except.ok.inj h2; simp only [Prod.mk.injEq] at h4
        rw [← h4.1]; omega
    · exact atomP_size _ _ _ h
theorem condP_size : Sized (condP T e) := kidsP_size (kidsP_size (notN_size 30))
end
theorem texts_l (l : List ByteArray) (hl : l.length ≤ 1000000) : ∀ (m i : Nat), i + m = l.length → Ev (fun k => parapetref19_SameTexts.l0 k l l (i : Int)) true
  | 0, i, h => by
    refine Ev.step (f := fun _ => some true) (fun k => by rw [parapetref19_SameTexts.l0, if_neg (by omega)]) (Ev.const fun _ => rfl)
  | m + 1, i, h => by
    refine Ev.step (fun k => ?_) (texts_l l hl m (i + 1) (by omega))
    rw [parapetref19_SameTexts.l0, if_pos (by omega), if_pos (by omega), if_pos (by omega), if_pos rfl, show wrap64 ((i : Int) + 1) = ((i + 1 : Nat) : Int) by unfold wrap64; omega]
theorem texts_same (l : List ByteArray) (hl : l.length ≤ 1000000) : Ev (fun k => parapetref19_SameTexts.f k l l) true := by
  unfold parapetref19_SameTexts.f
  simp only [if_true]
  exact texts_l l hl l.length 0 (by omega)
def sameC (k : Nat) (c : Cd) : Option Bool := parapetref19_SameCond.f k c.f0 c.f1.f0 c.f1.f1 c.f2 c.f0 c.f1.f0 c.f1.f1 c.f2
theorem rd_mem {l : List Cd} {i : Nat} (h : i < l.length) : rd_T49 l (i : Int) ∈ l := by
  have : rd_T49 l (i : Int) = l[i] := by simp [rd_T49, h]
  rw [this]; exact List.getElem_mem h
theorem cond_same : ∀ (n : Nat) (c : Cd), sizeC c ≤ n → sizeC c ≤ 1000000 → Ev (fun k => sameC k c) true
  | 0, c, h, _ => by rw [sizeC_eq] at h; omega
  | n + 1, c, h, hb => by
    rw [sizeC_eq] at h hb
    have hlen := sizeL_len c.f2
    have loop : ∀ (m i : Nat), i + m = c.f2.length → Ev (fun k => parapetref19_SameCond.l0 k i c.f0 c.f1.f0 c.f1.f1 c.f2 c.f0 c.f1.f0 c.f1.f1 c.f2) true := by
      intro m
      induction m with
      | zero =>
        intro i hi
        refine Ev.step (f := fun _ => some true) (fun k => by rw [parapetref19_SameCond.l0, if_neg (by omega)]) (Ev.const fun _ => rfl)
      | succ m ih =>
        intro i hi
        have hm := size_mem (rd_mem (l := c.f2) (i := i) (by omega))
        refine Ev.step (fun k => ?_) (Ev.bind (cond_same n (rd_T49 c.f2 (i : Int)) (by omega) (by omega)) (f := fun k t => if t = true then parapetref19_SameCond.l0 k ((i + 1 : Nat) : Int) c.f0 c.f1.f0 c.f1.f1 c.f2 c.f0 c.f1.f0 c.f1.f1 c.f2 else some false) ?_)
        · rw [parapetref19_SameCond.l0, if_pos (by omega), if_pos (by omega), if_pos (by omega), show wrap64 ((i : Int) + 1) = ((i + 1 : Nat) : Int) by unfold wrap64; omega]
          rfl
        · simp only [if_true]; exact ih (i + 1) (by omega)
    unfold sameC
    refine Ev.step (f := fun k => parapetref19_SameCond.j0 k false c.f0 c.f1.f0 c.f1.f1 c.f2 c.f0 c.f1.f0 c.f1.f1 c.f2) (fun k => ?_) ?_
    · rw [parapetref19_SameCond.f, if_pos rfl]
      simp
    · exact Ev.step (fun k => by rw [parapetref19_SameCond.j0, if_neg (by simp)]; rfl) (loop c.f2.length 0 (by omega))
/-- What was read is of a size that may be. -/
structure SmallP (st : Pst) : Prop where
  c : st.csp.length ≤ 1000000
  s : st.shares.length ≤ 1000000
  r : st.rules.length ≤ 1000000
  sm : ∀ h ∈ st.shares, h.f1.length ≤ 1000000 ∧ h.f2.length ≤ 1000000
  rc : ∀ x ∈ st.rules, sizeC x.f1 ≤ 1000000
theorem Ev.all {β : Type} (l : List β) (g : β → Nat → Option Bool) (h : ∀ x ∈ l, Ev (g x) true) : ∃ K, ∀ k, K ≤ k → ∀ x ∈ l, g x k = some true := by
  induction l with
  | nil => exact ⟨0, fun k _ x hx => by cases hx⟩
  | cons a l ih =>
    obtain ⟨K1, h1⟩ := h a (List.mem_cons_self ..)
    obtain ⟨K2, h2⟩ := ih (fun x hx => h x (List.mem_cons_of_mem _ hx))
    refine ⟨max K1 K2, fun k hk x hx => ?_⟩
    rcases List.mem_cons.1 hx with rfl | hx
    · exact h1 k (by omega)
    · exact h2 k (by omega) x hx
theorem policy_same {st : Pst} (h : SmallP st) : Ev (fun k => parapetref19_SamePolicy.f k st.csp st.shares st.mixed st.rules st.allow st.csp st.shares st.mixed st.rules st.allow) true := by
  obtain ⟨K1, h1⟩ := texts_same st.csp h.c
  obtain ⟨K2, h2⟩ := Ev.all st.shares (fun x k => parapetref19_SameTexts.f k x.f1 x.f1) (fun x hx => texts_same x.f1 (h.sm x hx).1)
  obtain ⟨K3, h3⟩ := Ev.all st.shares (fun x k => parapetref19_SameTexts.f k x.f2 x.f2) (fun x hx => texts_same x.f2 (h.sm x hx).2)
  obtain ⟨K4, h4⟩ := Ev.all st.rules (fun x k => sameC k x.f1) (fun x hx => cond_same _ x.f1 (Nat.le_refl _) (h.rc x hx))
  refine ⟨max (max K1 K2) (max K3 K4), fun k hk => ?_⟩
  show (if _ then _ else _) = _
  rw [if_pos]
  rw [alike_iff]
  refine ⟨h.s, h.r, h1 k (by omega), rfl, rfl, rfl, rfl, fun i hi => ?_, fun i hi => ?_⟩
  · have hm : rd_T44 st.shares (i : Int) ∈ st.shares := by
      have : rd_T44 st.shares (i : Int) = st.shares[i] := by simp [rd_T44, hi]
      rw [this]; exact List.getElem_mem hi
    simp only [shSame, Bool.and_eq_true, decide_eq_true_eq]
    exact ⟨trivial, trivial, h2 k (by omega) _ hm, h3 k (by omega) _ hm⟩
  · have hm : rd_T51 st.rules (i : Int) ∈ st.rules := by
      have : rd_T51 st.rules (i : Int) = st.rules[i] := by simp [rd_T51, hi]
      rw [this]; exact List.getElem_mem hi
    simp only [rlSame, Bool.and_eq_true, decide_eq_true_eq]
    exact ⟨trivial, h4 k (by omega) _ hm⟩
end Go.Proofs.YtngedmioeodmfaaDoor.Pu
namespace Go.Proofs.YtngedmioeodmfaaDoor.Pu
open Go.RowKit Go.Proofs.YtngedmioeodmfaaDoor.Pr Go.Proofs.YtngedmioeodmfaaDoorW.PrintWords Go.Proofs.YtngedmioeodmfaaDoor.Lx
open Go.Proofs.YtngedmioeodmfaaDoor.Ps hiding Tk
set_option linter.unusedVariables false
set_option linter.unusedSimpArgs false
structure AllP (A : ByteArray → Prop) (S : Sh → Prop) (C : Cd → Prop) (st : Pst) : Prop where
  c : ∀ t ∈ st.csp, A t
  s : ∀ h ∈ st.shares, S h
  r : ∀ x ∈ st.rules, C x.f1
  m : st.mixed = wBlock ∨ st.mixed = wUpgrade ∨ st.mixed = wAllow
  n : st.csp.length + st.shares.length + st.rules.length ≤ st.items
  i : st.items ≤ 60
section
variable {T : List Tk} {e : Int} {A : ByteArray → Prop} {S : Sh → Prop} {C : Cd → Prop}
theorem wordP_mem {ws : List ByteArray} {p : Nat} {t : ByteArray} {q : Nat} (h : wordP T e ws p = .ok (t, q)) : memB t ws = true := by
  rw [wordP] at h
  split at h
  · rename_i hi
    rw [isP, Bool.and_eq_true] at hi
    rw [takeP] at h
    split at h
    · cases h; exact hi.2
    · cases h
  · cases h
theorem itemK_all (hA : ∀ p t q, takeP T e 2 p = .ok (t, q) → A t) (hS : ∀ p h q, shareP T e p = .ok (h, q) → S h) (hC : ∀ p c q, condP T e p = .ok (c, q) → C c) {s st' : Pst} {w : ByteArray} {p q : Nat} (hc : ∀ t ∈ s.csp, A t) (hs : ∀ h ∈ s.shares, S h) (hr : ∀ x ∈ s.rules, C x.f1)
    (hm : s.mixed = wBlock ∨ s.mixed = wUpgrade ∨ s.mixed = wAllow) (hn : s.csp.length + s.shares.length + s.rules.length + 1 ≤ s.items) (hi : s.items ≤ 60) (h : itemK T e s w p = .ok (st', q)) : AllP A S C st' := by
  by_cases h0 : w = wCsp
  · rw [itemK_csp h0] at h
    cases ht : takeP T e 2 p with
    | error x => rw [ht] at h; cases h
    | ok x =>
      obtain ⟨t, q2⟩ := x
      rw [ht] at h; cases h
      exact ⟨fun t' ht' => by
        rcases List.mem_append.1 ht' with h1 | h1
        · exact hc t' h1
        · rw [List.mem_singleton.1 h1]; exact hA _ _ _ ht, hs, hr, hm, by show (s.csp ++ [t]).length + s.shares.length + s.rules.length ≤ s.items; rw [List.length_append, List.length_singleton]; omega, hi⟩
  by_cases h1 : w = wShare
  · rw [itemK_share h0 h1] at h
    cases ht : shareP T e p with
    | error x => rw [ht] at h; cases h
    | ok x =>
      obtain ⟨t, q2⟩ := x
      rw [ht] at h; cases h
      exact ⟨hc, fun t' ht' => by
        rcases List.mem_append.1 ht' with h1 | h1
        · exact hs t' h1
        · rw [List.mem_singleton.1 h1]; exact hS _ _ _ ht, hr, hm, by show s.csp.length + (s.shares ++ [t]).length + s.rules.length ≤ s.items; rw [List.length_append, List.length_singleton]; omega, hi⟩
  by_cases h2 : w = wMixed
  · rw [itemK_mixed h0 h1 h2] at h
    cases ht : wordP T e [wBlock, wUpgrade, wAllow] p with
    | error x => rw [ht] at h; cases h
    | ok x =>
      obtain ⟨t, q2⟩ := x
      rw [ht] at h; cases h
      refine ⟨hc, hs, hr, ?_, by show s.csp.length + s.shares.length + s.rules.length ≤ s.items; omega, hi⟩
      have := wordP_mem ht
      simp only [memB, List.any_cons, List.any_nil, Bool.or_eq_true, decide_eq_true_eq, Bool.or_false] at this
      exact this
  by_cases h3 : w = wDefault
  · rw [itemK_default h0 h1 h2 h3] at h
    cases ht : wordP T e [wAllow, wDeny] p with
    | error x => rw [ht] at h; cases h
    | ok x =>
      obtain ⟨t, q2⟩ := x
      rw [ht] at h; cases h
      exact ⟨hc, hs, hr, hm, by show s.csp.length + s.shares.length + s.rules.length ≤ s.items; omega, hi⟩
  · rw [itemK_rule h0 h1 h2 h3] at h
    cases ht : wordP T e [wIf] p with
    | error x => rw [ht] at h; cases h
    | ok x =>
      obtain ⟨t, q2⟩ := x
      rw [ht] at h
      simp only [ifK] at h
      cases ht2 : condP T e q2 with
      | error x => rw [ht2] at h; cases h
      | ok x =>
        obtain ⟨c, q3⟩ := x
        rw [ht2] at h; cases h
        exact ⟨hc, hs, fun x hx => by
          rcases List.mem_append.1 hx with h1 | h1
          · exact hr x h1
          · rw [List.mem_singleton.1 h1]; exact hC _ _ _ ht2, hm, by show s.csp.length + s.shares.length + (s.rules ++ [_]).length ≤ s.items; rw [List.length_append, List.length_singleton]; omega, hi⟩
theorem onceP_same {st s1 : Pst} {p : Nat} (h : onceP T e st p = .ok s1) : s1.csp = st.csp ∧ s1.shares = st.shares ∧ s1.rules = st.rules ∧ s1.mixed = st.mixed ∧ s1.items = st.items ∧ s1.allow = st.allow := by
  rw [onceP] at h
  repeat' split at h
  all_goals first | (cases h; exact ⟨rfl, rfl, rfl, rfl, rfl, rfl⟩) | cases h
theorem itemP_all (hA : ∀ p t q, takeP T e 2 p = .ok (t, q) → A t) (hS : ∀ p h q, shareP T e p = .ok (h, q) → S h) (hC : ∀ p c q, condP T e p = .ok (c, q) → C c) {st st' : Pst} {p q : Nat} (h : AllP A S C st) (hi : itemP T e st p = .ok (st', q)) : AllP A S C st' := by
  rw [itemP] at hi
  split at hi
  · split at hi
    · cases hi
    · rename_i s1 h1
      obtain ⟨e1, e2, e3, e4, e5, _⟩ := onceP_same h1
      split at hi
      · cases hi
      · rename_i hb
        split at hi
        · cases hi
        · rename_i w q2 hw
          refine itemK_all hA hS hC (s := { s1 with items := s1.items + 1 }) ?_ ?_ ?_ ?_ ?_ ?_ hi
          · show ∀ t ∈ s1.csp, A t; rw [e1]; exact h.c
          · show ∀ t ∈ s1.shares, S t; rw [e2]; exact h.s
          · show ∀ t ∈ s1.rules, C t.f1; rw [e3]; exact h.r
          · show s1.mixed = _ ∨ s1.mixed = _ ∨ s1.mixed = _; rw [e4]; exact h.m
          · show s1.csp.length + s1.shares.length + s1.rules.length + 1 ≤ s1.items + 1; rw [e1, e2, e3, e5]; have := h.n; omega
          · show s1.items + 1 ≤ 60; omega
  · cases hi
theorem itemsP_all (hA : ∀ p t q, takeP T e 2 p = .ok (t, q) → A t) (hS : ∀ p h q, shareP T e p = .ok (h, q) → S h) (hC : ∀ p c q, condP T e p = .ok (c, q) → C c) : ∀ (f : Nat) (st : Pst) (p : Nat) (st' : Pst), AllP A S C st → itemsP T e f st p = .ok st' → AllP A S C st'
  | 0, st, p, st', h, hi => by rw [itemsP] at hi; cases hi; exact h
  | f + 1, st, p, st', h, hi => by
    by_cases hp : p < T.length
    · rw [itemsP_succ hp] at hi
      cases h1 : itemP T e st p with
      | error x => rw [h1] at hi; cases hi
      | ok x =>
        obtain ⟨s1, q⟩ := x
        rw [h1] at hi
        cases h2 : takeP T e 5 q with
        | error x => rw [itemsK, h2] at hi; cases hi
        | ok x =>
          obtain ⟨t, q2⟩ := x
          rw [itemsK, h2] at hi
          exact itemsP_all hA hS hC f s1 q2 st' (itemP_all hA hS hC h h1) hi
    · rw [itemsP, if_neg hp] at hi; cases hi; exact h
theorem all0 : AllP A S C pst0 := ⟨(fun _ h => by cases h), (fun _ h => by cases h), (fun _ h => by cases h), .inl rfl, (by decide), (by decide)⟩
theorem polP_all (hA : ∀ p t q, takeP T e 2 p = .ok (t, q) → A t) (hS : ∀ p h q, shareP T e p = .ok (h, q) → S h) (hC : ∀ p c q, condP T e p = .ok (c, q) → C c) {st : Pst} (h : polP T e = .ok st) : AllP A S C st := itemsP_all hA hS hC _ _ _ _ all0 h
theorem takeP_le {k : Int} {p : Nat} {t : ByteArray} {q : Nat} (hk : k ≠ 0) (h : takeP T e k p = .ok (t, q)) : q ≤ T.length := by
  rw [takeP] at h
  split at h
  · rename_i hi
    cases h
    apply Classical.byContradiction
    intro hn
    rw [nxt, dif_neg (by omega)] at hi
    exact hk hi.symm
  · cases h
theorem shareL_len : ∀ (f : Nat) (s : Sh) (p : Nat) (s' : Sh) (q : Nat), s.f1.length ≤ p → s.f2.length ≤ p → p ≤ T.length → shareL T e f s p = .ok (s', q) → s'.f1.length ≤ q ∧ s'.f2.length ≤ q ∧ q ≤ T.length
  | 0, s, p, s', q, h1, h2, h3, h => by
    rw [shareL] at h; cases h; exact ⟨h1, h2, h3⟩
  | f + 1, s, p, s', q, h1, h2, h3, h => by
    by_cases hi : isP T e [wMethod, wHeader, wCreds] p = true
    · rw [shareL_succ _ _ _ _ _ hi.symm] at h
      cases ht : takeP T e 1 p with
      | error x => rw [ht] at h; cases h
      | ok x =>
        obtain ⟨w, q1⟩ := x
        have hq1 := takeP_mono ht
        have hl1 := takeP_le (by decide) ht
        rw [ht] at h
        simp only [shareK] at h
        split at h
        · cases ht2 : takeP T e 1 q1 with
          | error x => rw [ht2] at h; cases h
          | ok x =>
            obtain ⟨t, q2⟩ := x
            have hq2 := takeP_mono ht2
            have hl2 := takeP_le (by decide) ht2
            rw [ht2] at h
            exact shareL_len f _ _ _ _ (by show (s.f1 ++ [t]).length ≤ q2; rw [List.length_append, List.length_singleton]; omega) (by show s.f2.length ≤ q2; omega) hl2 h
        · split at h
          · cases ht2 : takeP T e 1 q1 with
            | error x => rw [ht2] at h; cases h
            | ok x =>
              obtain ⟨t, q2⟩ := x
              have hq2 := takeP_mono ht2
              have hl2 := takeP_le (by decide) ht2
              rw [ht2] at h
              exact shareL_len f _ _ _ _ (by show s.f1.length ≤ q2; omega) (by show (s.f2 ++ [t]).length ≤ q2; rw [List.length_append, List.length_singleton]; omega) hl2 h
          · exact shareL_len f _ _ _ _ (by show s.f1.length ≤ q1; omega) (by show s.f2.length ≤ q1; omega) hl1 h
    · rw [shareL, if_neg hi] at h; cases h; exact ⟨h1, h2, h3⟩
theorem shareP_len {p : Nat} {h : Sh} {q : Nat} (hs : shareP T e p = .ok (h, q)) : h.f1.length ≤ T.length ∧ h.f2.length ≤ T.length := by
  rw [shareP] at hs
  cases ht : takeP T e 2 p with
  | error x => rw [ht] at hs; cases hs
  | ok x =>
    obtain ⟨t, q1⟩ := x
    rw [ht] at hs
    have := shareL_len _ _ _ _ _ (Nat.zero_le _) (Nat.zero_le _) (takeP_le (by decide) ht) hs
    omega
theorem closeK_le {c : Cd} {q : Nat} {x : Cd × Nat} (h : closeK c (takeP T e 4 q) = .ok x) : x.2 ≤ T.length := by
  cases ht : takeP T e 4 q with
  | error y => rw [ht] at h; cases h
  | ok y => obtain ⟨t, q2⟩ := y; rw [ht] at h; cases h; exact takeP_le (by decide) ht
variable (T e) in
def Ends (f : Nat → Res Cd) : Prop := ∀ p c q, f p = .ok (c, q) → q ≤ T.length
theorem kidsL_end {one : Nat → Res Cd} (h : Ends T one) {w : ByteArray} : ∀ (f : Nat) (acc : List Cd) (p : Nat) (l : List Cd) (q : Nat), p ≤ T.length → kidsL T e one w f acc p = .ok (l, q) → q ≤ T.length
  | 0, acc, p, l, q, hp, hk => by rw [kidsL] at hk; cases hk; exact hp
  | f + 1, acc, p, l, q, hp, hk => by
    rw [kidsL] at hk
    split at hk
    · cases ho : one (p + 1) with
      | error x => rw [ho] at hk; cases hk
      | ok x =>
        obtain ⟨c, q1⟩ := x
        rw [ho] at hk
        exact kidsL_end h f _ _ _ _ (h _ _ _ ho) hk
    · cases hk; exact hp
theorem kidsP_end {one : Nat → Res Cd} (h : Ends T one) {w : ByteArray} {kind : Int} : Ends T (kidsP T e kind w one) := by
  intro p c q hk
  rw [kidsP] at hk
  cases ho : one p with
  | error x => rw [ho] at hk; cases hk
  | ok x =>
    obtain ⟨c1, q1⟩ := x
    rw [ho] at hk
    dsimp only at hk
    cases hl : kidsL T e one w (T.length + 1 - q1) [c1] q1 with
    | error x => rw [hl] at hk; cases hk
    | ok x =>
      obtain ⟨l, r⟩ := x
      rw [hl] at hk
      have := kidsL_end h _ _ _ _ _ (h _ _ _ ho) hl
      dsimp only at hk
      split at hk <;> (cases hk; exact this)
theorem wordP_le {ws : List ByteArray} {p : Nat} {t : ByteArray} {q : Nat} (h : wordP T e ws p = .ok (t, q)) : q ≤ T.length := by
  rw [wordP] at h
  split at h
  · exact takeP_le (by decide) h
  · cases h
theorem atomP_end : Ends T (atomP T e) := by
  intro p c q h
  rw [atomP] at h
  split at h
  · cases h
  · rename_i w q1 h1
    have e1 := wordP_le h1
    unfold atomK at h
    have key : ∀ {f : ByteArray → ByteArray} {k : Int}, k ≠ 0 → atomT w f (takeP T e k q1) = .ok (c, q) → q ≤ T.length := fun hk h => by
      obtain ⟨t, ht⟩ := atomT_mono h
      exact takeP_le hk ht
    repeat' split at h
    all_goals first | exact key (by decide) h | (cases h; exact e1)
theorem notN_end : ∀ n, Ends T (notN T e n)
  | 0 => by
    intro p c q h
    rw [notN] at h
    split at h
    · cases h
    · split at h
      · cases h
      · exact atomP_end _ _ _ h
  | n + 1 => by
    intro p c q h
    rw [notN] at h
    split at h
    · obtain ⟨c1, q1, h1, h2⟩ := wrapNot_ok h
      cases h2
      exact notN_end n _ _ _ h1
    · split at h
      · obtain ⟨c1, q1, h1, h2⟩ := closeP_ok h
        exact closeK_le h2
      · exact atomP_end _ _ _ h
theorem condP_end : Ends T (condP T e) := kidsP_end (kidsP_end (notN_end 30))
theorem polT_eq {n : Int} {x : List Tk × Int × Int} : polT n x = if x.2.1 = 0 then polP x.1 n else .error (x.2.1, x.2.2) := by
  obtain ⟨T, c, a⟩ := x; rfl
end
end Go.Proofs.YtngedmioeodmfaaDoor.Pu
namespace Go.Proofs.YtngedmioeodmfaaDoor.Pu
open Go.RowKit Go.Proofs.YtngedmioeodmfaaDoor.Pr Go.Proofs.YtngedmioeodmfaaDoorW.PrintWords Go.Proofs.YtngedmioeodmfaaDoorW.PrintLast Go.Proofs.YtngedmioeodmfaaDoorW.PrintMore Go.Proofs.YtngedmioeodmfaaDoor.Lx
open Go.Proofs.YtngedmioeodmfaaDoor.Ps hiding Tk
set_option linter.unusedVariables false
set_option linter.unusedSimpArgs false
abbrev IsR (w0 W : World) (g : Nat) (T : List Tk) (i e c a : Int) : Prop := IsS67 w0 W g T i e c a
def Step (w0 w : World) (g : Nat) (T : List Tk) (i e c a : Int) (w' : World) : Prop := IsR w0 w' g T i e c a ∧ Below w0.heap.size w0 w' ∧ KeepBut w w' g none
section
variable {w0 w : World} {g : Nat} {T : List Tk} {e : Int}
theorem r_kind (p : Nat) (h : IsR w0 w g T (p : Int) e 0 0) (hB : Below w0.heap.size w0 w) :
    Calls Tryd.prog 25 #[.pointer (some ⟨g, 0, none⟩)] w fun e' w' => e' = .returned (.int .i64 (nxt T e p).f0) ∧ Step w0 w g T (p : Int) e 0 0 w' :=
  (parapetref19_Reader_kind.calls g T _ _ _ _ _ _ _ _ _ w0 w h hB (rkind_good p)).mono fun _ _ ⟨h1, h2, h3, h4⟩ => ⟨h1, h2, h3, h4⟩
theorem r_wrong (p : Nat) (k : Int) (h : IsR w0 w g T (p : Int) e 0 0) (hB : Below w0.heap.size w0 w) :
    Calls Tryd.prog 27 #[.pointer (some ⟨g, 0, none⟩), .int .i64 k] w fun e' w' => e' = .returned (.tuple #[]) ∧ Step w0 w g T (p : Int) e k (nxt T e p).f1 w' :=
  (parapetref19_Reader_wrong.calls g T _ _ _ _ k _ _ _ _ w0 w h hB (rwrong_good p k)).mono fun _ _ ⟨h1, h2, h3, h4⟩ => ⟨h1, h2, h3, h4⟩
theorem r_take (s : ByteArray) (p : Nat) (hT : T.length ≤ 1000000) (h : IsR w0 w g T (p : Int) e 0 0) (hB : Below w0.heap.size w0 w) (b : Bool) (hb : isP T e [s] p = b) :
    Calls Tryd.prog 30 #[.pointer (some ⟨g, 0, none⟩), .string s] w fun e' w' => e' = .returned (.bool b) ∧ Step w0 w g T (if b then ((p + 1 : Nat) : Int) else (p : Int)) e 0 0 w' := by
  have hr := rtake_good (T := T) (e := e) s p hT
  rw [hb] at hr
  refine (parapetref19_Reader_take.calls g T _ _ _ _ s _ _ _ _ _ w0 w h hB hr).mono fun _ _ ⟨h1, h2, h3, h4⟩ => ⟨h1, ?_, h3, h4⟩
  cases b
  · exact h2
  · exact h2
theorem r_take1 (s : ByteArray) (p : Nat) (hT : T.length ≤ 1000000) (h : IsR w0 w g T (p : Int) e 0 0) (hB : Below w0.heap.size w0 w) (hb : isP T e [s] p = true) :
    Calls Tryd.prog 30 #[.pointer (some ⟨g, 0, none⟩), .string s] w fun e' w' => e' = .returned (.bool true) ∧ Step w0 w g T ((p + 1 : Nat) : Int) e 0 0 w' := r_take s p hT h hB true hb
theorem r_take0 (s : ByteArray) (p : Nat) (hT : T.length ≤ 1000000) (h : IsR w0 w g T (p : Int) e 0 0) (hB : Below w0.heap.size w0 w) (hb : isP T e [s] p = false) :
    Calls Tryd.prog 30 #[.pointer (some ⟨g, 0, none⟩), .string s] w fun e' w' => e' = .returned (.bool false) ∧ Step w0 w g T (p : Int) e 0 0 w' := r_take s p hT h hB false hb
theorem r_take_bad (s : ByteArray) {i c a : Int} (hi : 0 ≤ i) (hc : c ≠ 0) (h : IsR w0 w g T i e c a) (hB : Below w0.heap.size w0 w) :
    Calls Tryd.prog 30 #[.pointer (some ⟨g, 0, none⟩), .string s] w fun e' w' => e' = .returned (.bool false) ∧ Step w0 w g T i e c a w' :=
  (parapetref19_Reader_take.calls g T _ _ _ _ s _ _ _ _ _ w0 w h hB (rtake_bad (T := T) (e := e) s hi hc)).mono fun _ _ ⟨h1, h2, h3, h4⟩ => ⟨h1, h2, h3, h4⟩
/-- What next leaves: its Text, the place, the fault. -/
def NxQ (r : Res ByteArray) (t : ByteArray) (i c a : Int) : Prop :=
  match r with
  | .ok (t', q) => t = t' ∧ i = (q : Int) ∧ c = 0 ∧ a = 0
  | .error (x, y) => x ≠ 0 ∧ 0 ≤ i ∧ c = x ∧ a = y ∧ t = ⟨#[]⟩
theorem r_next (k : Int) (p : Nat) (hk : k ≠ 0) (hT : T.length ≤ 1000000) (h : IsR w0 w g T (p : Int) e 0 0) (hB : Below w0.heap.size w0 w) :
    ∃ t i c a, NxQ (takeP T e k p) t i c a ∧ Calls Tryd.prog 28 #[.pointer (some ⟨g, 0, none⟩), .int .i64 k] w fun e' w' => e' = .returned (.string t) ∧ Step w0 w g T i e c a w' := by
  have hr := rnext_good (T := T) (e := e) (k := k) hk (p := p) hT
  cases ht : takeP T e k p with
  | ok x =>
    obtain ⟨t, q⟩ := x
    rw [ht] at hr
    exact ⟨t, q, 0, 0, ⟨rfl, rfl, rfl, rfl⟩, (parapetref19_Reader_next.calls g T _ _ _ _ k _ _ _ _ _ w0 w h hB hr).mono fun _ _ ⟨h1, h2, h3, h4⟩ => ⟨h1, h2, h3, h4⟩⟩
  | error x =>
    obtain ⟨x, y⟩ := x
    rw [ht] at hr
    exact ⟨_, _, x, y, ⟨take_ne T e k p ht, by omega, rfl, rfl, rfl⟩, (parapetref19_Reader_next.calls g T _ _ _ _ k _ _ _ _ _ w0 w h hB hr).mono fun _ _ ⟨h1, h2, h3, h4⟩ => ⟨h1, h2, h3, h4⟩⟩
theorem r_next_bad (k : Int) {i c a : Int} (hi : 0 ≤ i) (hc : c ≠ 0) (hT : T.length ≤ 1000000) (h : IsR w0 w g T i e c a) (hB : Below w0.heap.size w0 w) :
    Calls Tryd.prog 28 #[.pointer (some ⟨g, 0, none⟩), .int .i64 k] w fun e' w' => e' = .returned (.string ⟨#[]⟩) ∧ Step w0 w g T i e c a w' :=
  (parapetref19_Reader_next.calls g T _ _ _ _ k _ _ _ _ _ w0 w h hB (rnext_bad (T := T) (e := e) k hi hc hT)).mono fun _ _ ⟨h1, h2, h3, h4⟩ => ⟨h1, h2, h3, h4⟩
end
section
variable {T : List Tk} {e : Int}
theorem one_word {w : ByteArray} {p : Nat} (h : isP T e [w] p = true) : (nxt T e p).f0 = 1 ∧ (nxt T e p).f2 = w := by
  rw [isP, memB_cons, Bool.and_eq_true, Bool.or_eq_true] at h
  exact ⟨of_decide_eq_true h.1, h.2.elim (fun h => of_decide_eq_true h) (fun h => by cases h)⟩
theorem isP_cons (a : ByteArray) (l : List ByteArray) (p : Nat) : isP T e (a :: l) p = (isP T e [a] p || isP T e l p) := by
  rw [isP, isP, isP, memB_cons, memB_cons]
  have : memB (nxt T e p).f2 [] = false := rfl
  rw [this, Bool.or_false, Bool.and_or_distrib_left]
end
def ShQ (r : Res Sh) (s : Sh) (i c a : Int) : Prop :=
  match r with
  | .ok (s', q) => s = s' ∧ i = (q : Int) ∧ c = 0 ∧ a = 0
  | .error (x, y) => x ≠ 0 ∧ 0 ≤ i ∧ c = x ∧ a = y
def CdQ (r : Res Cd) (s : Cd) (i c a : Int) : Prop :=
  match r with
  | .ok (s', q) => s = s' ∧ i = (q : Int) ∧ c = 0 ∧ a = 0
  | .error (x, y) => x ≠ 0 ∧ 0 ≤ i ∧ c = x ∧ a = y
/-- What a reader of conditions hands back. -/
def CondQ (w0 w : World) (g : Nat) (T : List Tk) (e : Int) (r : Res Cd) (ed : Ending) (w' : World) : Prop :=
  ∃ (s : Cd) (i c a : Int) (v3 : Value), CdQ r s i c a ∧ ed = .returned (.agg (cdcells s v3)) ∧ Kd.V k49 49 w' w.heap.size (fun k_ => w.heap.size ≤ k_) v3 s.f2 ∧ Step w0 w g T i e c a w'
/-- The reader's state, and all that lies below it, as a walk goes on. -/
structure At (w0 W w : World) (g : Nat) (T : List Tk) (i e c a : Int) : Prop where
  i : IsR w0 w g T i e c a
  b : Below w0.heap.size w0 w
  k : KeepBut W w g none
theorem At.step {w0 W w w' : World} {g : Nat} {T : List Tk} {i e c a i' c' a' : Int} (h : At w0 W w g T i e c a) (hs : Step w0 w g T i' e c' a' w') : At w0 W w' g T i' e c' a' := ⟨hs.1, hs.2.1, h.k.trans hs.2.2 (.inl rfl)⟩
theorem At.alloc {w0 W w : World} {g : Nat} {T : List Tk} {i e c a : Int} (h : At w0 W w g T i e c a) (o : Obj) : At w0 W (w.alloc o) g T i e c a := ⟨IsS67.alloc h.i o, below_alloc h.b o, keep_alloc h.k o⟩
theorem At.drewN {w0 W w : World} {g : Nat} {T : List Tk} {i e c a : Int} (h : At w0 W w g T i e c a) (n : Nat) : At w0 W (w.drewN n) g T i e c a := ⟨IsS67.drewN h.i n, pw_below_drewN h.b n, keep_drewN h.k n⟩
theorem At.drew {w0 W w : World} {g : Nat} {T : List Tk} {i e c a : Int} (h : At w0 W w g T i e c a) : At w0 W w.drew g T i e c a := h.drewN 1
theorem At.next {w0 W w : World} {g : Nat} {T : List Tk} {p : Nat} {e c a : Int} (h : At w0 W w g T (p : Int) e c a) : At w0 W (w.setCell ⟨g, 1, none⟩ (.int .i64 ((p : Int) + 1))) g T ((p + 1 : Nat) : Int) e c a :=
  ⟨by rw [Int.natCast_add]; exact IsS67.set_1 h.i _, h.b.setCell (p := ⟨g, 1, none⟩) (IsS67.ge h.i) _, KeepBut.set_ h.k 1 _⟩
theorem At.start {w0 W : World} {g : Nat} {T : List Tk} {i e c a : Int} (h : IsR w0 W g T i e c a) (hB : Below w0.heap.size w0 W) : At w0 W W g T i e c a := ⟨h, hB, KeepBut.refl _ _ _⟩
theorem At.to {w0 W w : World} {g : Nat} {T : List Tk} {i e c a : Int} (h : At w0 W w g T i e c a) : Step w0 W g T i e c a w := ⟨h.i, h.b, h.k⟩
/-- A block that the walk itself made, written. -/
theorem At.setRow {w0 W w : World} {g gr : Nat} {T : List Tk} {i e c a : Int} (h : At w0 W w g T i e c a) (hg : gr ≠ g) (h0 : w0.heap.size ≤ gr) (hW : W.heap.size ≤ gr) (cs : Array Value) : At w0 W (w.setRow gr cs) g T i e c a := by
  refine ⟨?_, below_setRow h.b h0 _, ?_⟩
  · obtain ⟨A0, c0, hb, hg', hC⟩ := h.i
    exact ⟨A0, c0, (setRow_other _ _ _ _ (Ne.symm hg)).trans hb, hg', hC⟩
  · refine ⟨by have := h.k.1; have := (kept_setRow w gr cs).1; omega, fun k hk hne hr => ?_⟩
    exact ((kept_setRow w gr cs).2 k (by have := h.k.1; omega) (by omega)).trans (h.k.2 k hk hne hr)
theorem blk_keep {w w' : World} {g gr : Nat} {o : Obj} (h : w.heap[gr]? = some o) (hk : KeepBut w w' g none) (hne : gr ≠ g) : w'.heap[gr]? = some o := hk.blk h hne (by simp)
theorem blk_next {w : World} {g gr : Nat} {t : TypeId} {cs : Array Value} {v : Value} (h : w.heap[gr]? = some (.cells cs t (0, 0))) (hne : gr ≠ g) : (w.setCell ⟨g, 1, none⟩ v).heap[gr]? = some (.cells cs t (0, 0)) := blk_far h (p := ⟨g, 1, none⟩) hne _
theorem cond_ret {fn : Func} {w : World} {gr : Nat} {c : Cd} {v : Value} {tmps : Array Value} {p : Tmp} (h : fn.results = #[.cell p 49]) (hp : tmps.getD p undef = .pointer (some ⟨gr, 0, none⟩)) (hb : w.heap[gr]? = some (.cells (cdcells c v) 49 (0, 0))) :
    (results fn tmps).run Tryd.prog w = .ok (.agg (cdcells c v)) w := ret_row h _ _ gr 49 (cdcells c v) (0, 0) hp hb Tryd.underlying49 size_cd
end Go.Proofs.YtngedmioeodmfaaDoor.Pu
namespace Go.Proofs.YtngedmioeodmfaaDoor.Pu
open Go.RowKit Go.Proofs.YtngedmioeodmfaaDoor.Pr Go.Proofs.YtngedmioeodmfaaDoorW.PrintWords Go.Proofs.YtngedmioeodmfaaDoorW.PrintLast Go.Proofs.YtngedmioeodmfaaDoorW.PrintMore Go.Proofs.YtngedmioeodmfaaDoor.Lx
open Go.Proofs.YtngedmioeodmfaaDoor.Ps hiding Tk
set_option linter.unusedVariables false
set_option linter.unusedSimpArgs false
/-- What an atom's word that is no constant asks for. -/
def atomR (T : List Tk) (e : Int) (p : Nat) (tx : ByteArray) : Res Cd :=
  if tx = wSame ∨ tx = wTrusted ∨ tx = wCreds ∨ tx = wCors then .ok (⟨3, ⟨tx, ⟨#[]⟩⟩, []⟩, p + 1)
  else if tx = wMethod then atomT tx id (takeP T e 1 (p + 1))
  else if tx = wDest ∨ tx = wScheme ∨ tx = wHeader then atomT tx lowB (takeP T e 1 (p + 1))
  else if tx = wHost ∨ tx = wPath then atomT tx id (takeP T e 2 (p + 1))
  else .error (8, (nxt T e p).f1)
section
variable {T : List Tk} {e : Int} {p : Nat} {tx : ByteArray}
theorem atomR_word (h : tx = wSame ∨ tx = wTrusted ∨ tx = wCreds ∨ tx = wCors) : atomR T e p tx = .ok (⟨3, ⟨tx, ⟨#[]⟩⟩, []⟩, p + 1) := if_pos h
theorem atomR_method (h : tx = wMethod) : atomR T e p tx = atomT tx id (takeP T e 1 (p + 1)) := by subst h; rw [atomR, if_neg (by decide +kernel), if_pos rfl]
theorem atomR_low (h : tx = wDest ∨ tx = wScheme ∨ tx = wHeader) : atomR T e p tx = atomT tx lowB (takeP T e 1 (p + 1)) := by
  rw [atomR, if_neg (by rcases h with rfl | rfl | rfl <;> decide +kernel), if_neg (by rcases h with rfl | rfl | rfl <;> decide +kernel), if_pos h]
theorem atomR_str (h : tx = wHost ∨ tx = wPath) : atomR T e p tx = atomT tx id (takeP T e 2 (p + 1)) := by
  rw [atomR, if_neg (by rcases h with rfl | rfl <;> decide +kernel), if_neg (by rcases h with rfl | rfl <;> decide +kernel), if_neg (by rcases h with rfl | rfl <;> decide +kernel), if_pos h]
theorem atomR_none (h : ¬ tx ∈ [wSame, wTrusted, wCreds, wCors, wMethod, wDest, wScheme, wHeader, wHost, wPath]) : atomR T e p tx = .error (8, (nxt T e p).f1) := by
  simp only [List.mem_cons, List.mem_nil_iff, or_false, not_or] at h
  obtain ⟨h0, h1, h2, h3, h4, h5, h6, h7, h8, h9⟩ := h
  rw [atomR, if_neg (fun h => h.elim h0 (fun h => h.elim h1 (fun h => h.elim h2 h3))), if_neg h4, if_neg (fun h => h.elim h5 (fun h => h.elim h6 h7)), if_neg (fun h => h.elim h8 h9)]
theorem atom_plain {R : Res Cd} (h : R = .ok (⟨3, ⟨tx, ⟨#[]⟩⟩, []⟩, p + 1)) : CdQ R ⟨3, ⟨tx, ⟨#[]⟩⟩, []⟩ ((p + 1 : Nat) : Int) 0 0 := by rw [h]; exact ⟨rfl, rfl, rfl, rfl⟩
theorem atom_f {R : Res Cd} {f : ByteArray → ByteArray} {r : Res ByteArray} {t : ByteArray} {i c a : Int} (h : R = atomT tx f r) (hQ : NxQ r t i c a) : CdQ R ⟨3, ⟨tx, f t⟩, []⟩ i c a := by
  cases r with
  | ok x => obtain ⟨t', q⟩ := x; rw [h]; obtain ⟨rfl, rfl, rfl, rfl⟩ := hQ; exact ⟨rfl, rfl, rfl, rfl⟩
  | error x => obtain ⟨x, y⟩ := x; rw [h]; exact ⟨hQ.1, hQ.2.1, hQ.2.2.1, hQ.2.2.2.1⟩
theorem atom_txt {R : Res Cd} {r : Res ByteArray} {t : ByteArray} {i c a : Int} (h : R = atomT tx id r) (hQ : NxQ r t i c a) : CdQ R ⟨3, ⟨tx, t⟩, []⟩ i c a := atom_f h hQ
theorem atom_low {R : Res Cd} {r : Res ByteArray} {t : ByteArray} {i c a : Int} (h : R = atomT tx lowB r) (hQ : NxQ r t i c a) : CdQ R ⟨3, ⟨tx, lowB t⟩, []⟩ i c a := atom_f h hQ
theorem nx_size (hS : ∀ t ∈ T, t.f2.size ≤ 1000000) {k : Int} {q : Nat} {t : ByteArray} {i c a : Int} (hQ : NxQ (takeP T e k q) t i c a) : t.size ≤ 1000000 := by
  cases ht : takeP T e k q with
  | ok x =>
    obtain ⟨t', q2⟩ := x
    rw [ht] at hQ
    obtain ⟨rfl, _⟩ := hQ
    rw [takeP] at ht
    split at ht
    · cases ht
      rw [nxt]
      split
      · exact hS _ (List.getElem_mem _)
      · exact Nat.zero_le _
    · cases ht
  | error x => obtain ⟨x, y⟩ := x; rw [ht] at hQ; obtain ⟨_, _, _, _, rfl⟩ := hQ; exact Nat.zero_le _
theorem empty_no : ¬ (⟨#[]⟩ : ByteArray) ∈ [wSame, wTrusted, wCreds, wCors, wMethod, wDest, wScheme, wHeader, wHost, wPath] := by
  intro h
  simp only [List.mem_cons, List.mem_nil_iff, or_false] at h
  rcases h with h | h | h | h | h | h | h | h | h | h <;> (revert h; decide +kernel)
/-- The atom by its text: what stands there, if it is a word. -/
theorem atomP_tx (ht : isP T e [wTrue] p = false) (hf : isP T e [wFalse] p = false) (htx : tx = if (nxt T e p).f0 = 1 then (nxt T e p).f2 else ⟨#[]⟩) : atomP T e p = atomR T e p tx := by
  by_cases h1 : (nxt T e p).f0 = 1
  · rw [if_pos h1] at htx
    have n0 : tx ≠ wTrue := by
      intro he; rw [isP, h1, ← htx, he] at ht; revert ht; decide +kernel
    have n1 : tx ≠ wFalse := by
      intro he; rw [isP, h1, ← htx, he] at hf; revert hf; decide +kernel
    have hi : isP T e atomWords p = memB tx [wSame, wTrusted, wCreds, wCors, wMethod, wDest, wScheme, wHeader, wHost, wPath] := by
      rw [isP, h1, ← htx, atomWords, memB_cons, memB_cons, decide_eq_false n0, decide_eq_false n1]; rfl
    by_cases hm : tx ∈ [wSame, wTrusted, wCreds, wCors, wMethod, wDest, wScheme, wHeader, wHost, wPath]
    · have hb : memB tx [wSame, wTrusted, wCreds, wCors, wMethod, wDest, wScheme, wHeader, wHost, wPath] = true := by
        rw [memB, List.any_eq_true]; exact ⟨tx, hm, by simp⟩
      have htk : takeP T e 1 p = .ok (tx, p + 1) := by rw [takeP, if_pos h1, ← htx]
      rw [atomP, wordP, hi, hb, if_pos rfl, htk]
      show atomK T e tx (p + 1) = _
      rw [atomK, if_neg n0, if_neg n1, atomR]
      by_cases hw : tx = wSame ∨ tx = wTrusted ∨ tx = wCreds ∨ tx = wCors
      · rw [if_pos hw, if_neg (by rcases hw with rfl | rfl | rfl | rfl <;> decide +kernel), if_neg (by rcases hw with rfl | rfl | rfl | rfl <;> decide +kernel), if_neg (by rcases hw with rfl | rfl | rfl | rfl <;> decide +kernel)]
      · rw [if_neg hw]
        by_cases hm2 : tx = wMethod
        · rw [if_pos hm2, if_pos hm2]
        · rw [if_neg hm2, if_neg hm2]
          by_cases h3 : tx = wDest ∨ tx = wScheme ∨ tx = wHeader
          · rw [if_pos h3, if_pos h3]
          · rw [if_neg h3, if_neg h3]
            by_cases h4 : tx = wHost ∨ tx = wPath
            · rw [if_pos h4, if_pos h4]
            · exfalso
              simp only [List.mem_cons, List.mem_nil_iff, or_false] at hm
              rcases hm with h | h | h | h | h | h | h | h | h | h
              all_goals first | exact hw (.inl h) | exact hw (.inr (.inl h)) | exact hw (.inr (.inr (.inl h))) | exact hw (.inr (.inr (.inr h))) | exact hm2 h | exact h3 (.inl h) | exact h3 (.inr (.inl h)) | exact h3 (.inr (.inr h)) | exact h4 (.inl h) | exact h4 (.inr h)
    · have hb : memB tx [wSame, wTrusted, wCreds, wCors, wMethod, wDest, wScheme, wHeader, wHost, wPath] = false := by
        rw [← Bool.not_eq_true, memB, List.any_eq_true]
        rintro ⟨x, hx, he⟩
        exact hm ((of_decide_eq_true he) ▸ hx)
      rw [atomP, wordP, hi, hb, if_neg Bool.false_ne_true, atomR_none hm]
  · rw [if_neg h1] at htx
    have hi : isP T e atomWords p = false := by rw [isP, decide_eq_false h1]; rfl
    rw [atomP, wordP, hi, if_neg Bool.false_ne_true, atomR_none (by rw [htx]; exact empty_no)]
end
theorem At.below {w0 W w w' : World} {g : Nat} {T : List Tk} {i e c a : Int} (h : At w0 W w g T i e c a) (hb : Below w.heap.size w w') : At w0 W w' g T i e c a :=
  ⟨IsS67.below h.i hb, h.b.trans (hb.mono h.b.size), h.k.trans (KeepBut.of_below hb _ _) (.inl rfl)⟩
theorem atomP_wTrue {T : List Tk} {e : Int} {p : Nat} (h : isP T e [wTrue] p = true) : atomP T e p = .ok (cond0 1 [], p + 1) := by
  obtain ⟨h1, h2⟩ := one_word h
  rw [atomP, wordP, show isP T e atomWords p = true from by rw [isP, h1, h2]; decide +kernel, if_pos rfl, takeP, if_pos h1, h2]; rfl
theorem atomP_wFalse {T : List Tk} {e : Int} {p : Nat} (h : isP T e [wFalse] p = true) : atomP T e p = .ok (cond0 2 [], p + 1) := by
  obtain ⟨h1, h2⟩ := one_word h
  rw [atomP, wordP, show isP T e atomWords p = true from by rw [isP, h1, h2]; decide +kernel, if_pos rfl, takeP, if_pos h1, h2]; rfl
set_option maxHeartbeats 16000000
set_option maxRecDepth 100000
/-- One of an atom's ends: the script, for each place that comes to it. -/
theorem sc_word {p_ : Prop} (h_ : p_ := by
  obtain ⟨A8, c8, hb8, _, _⟩ := HA5.out.i
  have t1 : w5.cell? ⟨g, 1, none⟩ = some (.int .i64 (p : Int)) := cellS67_1 hb8
  have f1 := blk_frozen hb8 1
  clear hb8
  go_upto_region 14 with (fail)
  obtain ⟨w6, hw6⟩ : ∃ w6, w6 = w5.setCell ⟨g, 1, none⟩ (.int .i64 ((p : Int) + 1)) := ⟨_, rfl⟩
  rw [← hw6]
  have HA6 : Aside0 (At w0 W w6 g T ((p + 1 : Nat) : Int) e 0 0) := ⟨by rw [hw6]; exact HA5.out.next⟩
  have HX6 : Aside0 (w6.heap[gr]? = some (.cells #[.int .i64 0, .string ⟨#[]⟩, .string ⟨#[]⟩, .slice none 0 0] 49 (0, 0))) := ⟨by rw [hw6]; exact blk_next HX5.out HG.out.1⟩
  clear hw6 t1 f1 HA5 HX5
  go_wp2_with (refine wpList_store_row rfl 49 _ _ rfl gr (cdcells ⟨3, ⟨tx, ⟨#[]⟩⟩, []⟩ (.slice none 0 0)) rfl rfl 49 _ HX6.out size_cd rfl (cd_one _ _ rfl) ?_)
  exact bodyPost_ret (cond_ret rfl rfl (setRow_heap _ _ _ _ _ _ HX6.out)) rfl ⟨_, _, 0, 0, _, atom_plain HR.out, rfl, Kd.V_nil _ _ _ _ _, (HA6.out.setRow HG.out.1 HG.out.2.1 HG.out.2.2 _).to⟩) : p_ := h_
/-- One of an atom's ends: the script, for each place that comes to it. -/
theorem sc_method {p_ : Prop} (h_ : p_ := by
  obtain ⟨A8, c8, hb8, _, _⟩ := HA5.out.i
  have t1 : w5.cell? ⟨g, 1, none⟩ = some (.int .i64 (p : Int)) := cellS67_1 hb8
  have f1 := blk_frozen hb8 1
  clear hb8
  go_upto_region 17 with (fail)
  obtain ⟨w6, hw6⟩ : ∃ w6, w6 = w5.setCell ⟨g, 1, none⟩ (.int .i64 ((p : Int) + 1)) := ⟨_, rfl⟩
  rw [← hw6]
  have HA6 : Aside0 (At w0 W w6 g T ((p + 1 : Nat) : Int) e 0 0) := ⟨by rw [hw6]; exact HA5.out.next⟩
  have HX6 : Aside0 (w6.heap[gr]? = some (.cells #[.int .i64 0, .string ⟨#[]⟩, .string ⟨#[]⟩, .slice none 0 0] 49 (0, 0))) := ⟨by rw [hw6]; exact blk_next HX5.out HG.out.1⟩
  clear hw6 t1 f1 HA5 HX5
  obtain ⟨t, i7, c7, a7, hQ, hC⟩ := r_next (w0 := w0) (w := w6) (g := g) (T := T) (e := e) 1 (p + 1) (by decide) HT.out HA6.out.i HA6.out.b
  have HQ := Aside0.mk hQ
  have HC := Aside0.mk hC
  clear hQ hC
  go_wp2_with fail
  refine HC.out.mono ?_
  rintro ed w7 ⟨rfl, hs⟩
  dsimp only
  have HA7 := Aside0.mk (HA6.out.step hs)
  have HX7 : Aside0 (w7.heap[gr]? = some (.cells #[.int .i64 0, .string ⟨#[]⟩, .string ⟨#[]⟩, .slice none 0 0] 49 (0, 0))) := ⟨blk_keep HX6.out hs.2.2 HG.out.1⟩
  clear hs HC HA6 HX6
  go_wp2_with (refine wpList_store_row rfl 49 _ _ rfl gr (cdcells ⟨3, ⟨tx, t⟩, []⟩ (.slice none 0 0)) rfl rfl 49 _ HX7.out size_cd rfl (cd_one _ _ rfl) ?_)
  exact bodyPost_ret (cond_ret rfl rfl (setRow_heap _ _ _ _ _ _ HX7.out)) rfl ⟨_, i7, c7, a7, _, atom_txt HR.out HQ.out, rfl, Kd.V_nil _ _ _ _ _, (HA7.out.setRow HG.out.1 HG.out.2.1 HG.out.2.2 _).to⟩) : p_ := h_
/-- One of an atom's ends: the script, for each place that comes to it. -/
theorem sc_low {p_ : Prop} (h_ : p_ := by
  obtain ⟨A8, c8, hb8, _, _⟩ := HA5.out.i
  have t1 : w5.cell? ⟨g, 1, none⟩ = some (.int .i64 (p : Int)) := cellS67_1 hb8
  have f1 := blk_frozen hb8 1
  clear hb8
  go_upto_region 22 with (fail)
  obtain ⟨w6, hw6⟩ : ∃ w6, w6 = w5.setCell ⟨g, 1, none⟩ (.int .i64 ((p : Int) + 1)) := ⟨_, rfl⟩
  rw [← hw6]
  have HA6 : Aside0 (At w0 W w6 g T ((p + 1 : Nat) : Int) e 0 0) := ⟨by rw [hw6]; exact HA5.out.next⟩
  have HX6 : Aside0 (w6.heap[gr]? = some (.cells #[.int .i64 0, .string ⟨#[]⟩, .string ⟨#[]⟩, .slice none 0 0] 49 (0, 0))) := ⟨by rw [hw6]; exact blk_next HX5.out HG.out.1⟩
  clear hw6 t1 f1 HA5 HX5
  obtain ⟨t, i7, c7, a7, hQ, hC⟩ := r_next (w0 := w0) (w := w6) (g := g) (T := T) (e := e) 1 (p + 1) (by decide) HT.out HA6.out.i HA6.out.b
  have HQ := Aside0.mk hQ
  have HC := Aside0.mk hC
  clear hQ hC
  go_wp2_with fail
  refine HC.out.mono ?_
  rintro ed w7 ⟨rfl, hs⟩
  dsimp only
  have HA7 := Aside0.mk (HA6.out.step hs)
  have HX7 : Aside0 (w7.heap[gr]? = some (.cells #[.int .i64 0, .string ⟨#[]⟩, .string ⟨#[]⟩, .slice none 0 0] 49 (0, 0))) := ⟨blk_keep HX6.out hs.2.2 HG.out.1⟩
  clear hs HC HA6 HX6
  have hts : t.size ≤ 1000000 := nx_size HS.out HQ.out
  obtain ⟨k1, hk1⟩ := lower_ev t hts
  have HLW := Aside0.mk (hk1 k1 (Nat.le_refl _))
  clear hk1 hts
  go_wp2_with fail
  refine (parapetref1_Lower.calls k1 t _ w7 HLW.out).mono ?_
  rintro ed w8 ⟨rfl, hb8⟩
  dsimp only
  have HA8 : Aside0 (At w0 W w8 g T i7 e c7 a7) := ⟨HA7.out.below hb8⟩
  have HX8 : Aside0 (w8.heap[gr]? = some (.cells #[.int .i64 0, .string ⟨#[]⟩, .string ⟨#[]⟩, .slice none 0 0] 49 (0, 0))) := ⟨blk_below HX7.out hb8⟩
  clear hb8 HA7 HX7
  go_wp2_with (refine wpList_store_row rfl 49 _ _ rfl gr (cdcells ⟨3, ⟨tx, lowB t⟩, []⟩ (.slice none 0 0)) rfl rfl 49 _ HX8.out size_cd rfl (cd_one _ _ rfl) ?_)
  exact bodyPost_ret (cond_ret rfl rfl (setRow_heap _ _ _ _ _ _ HX8.out)) rfl ⟨_, i7, c7, a7, _, atom_low HR.out HQ.out, rfl, Kd.V_nil _ _ _ _ _, (HA8.out.setRow HG.out.1 HG.out.2.1 HG.out.2.2 _).to⟩) : p_ := h_
/-- One of an atom's ends: the script, for each place that comes to it. -/
theorem sc_str {p_ : Prop} (h_ : p_ := by
  obtain ⟨A8, c8, hb8, _, _⟩ := HA5.out.i
  have t1 : w5.cell? ⟨g, 1, none⟩ = some (.int .i64 (p : Int)) := cellS67_1 hb8
  have f1 := blk_frozen hb8 1
  clear hb8
  go_upto_region 26 with (fail)
  obtain ⟨w6, hw6⟩ : ∃ w6, w6 = w5.setCell ⟨g, 1, none⟩ (.int .i64 ((p : Int) + 1)) := ⟨_, rfl⟩
  rw [← hw6]
  have HA6 : Aside0 (At w0 W w6 g T ((p + 1 : Nat) : Int) e 0 0) := ⟨by rw [hw6]; exact HA5.out.next⟩
  have HX6 : Aside0 (w6.heap[gr]? = some (.cells #[.int .i64 0, .string ⟨#[]⟩, .string ⟨#[]⟩, .slice none 0 0] 49 (0, 0))) := ⟨by rw [hw6]; exact blk_next HX5.out HG.out.1⟩
  clear hw6 t1 f1 HA5 HX5
  obtain ⟨t, i7, c7, a7, hQ, hC⟩ := r_next (w0 := w0) (w := w6) (g := g) (T := T) (e := e) 2 (p + 1) (by decide) HT.out HA6.out.i HA6.out.b
  have HQ := Aside0.mk hQ
  have HC := Aside0.mk hC
  clear hQ hC
  go_wp2_with fail
  refine HC.out.mono ?_
  rintro ed w7 ⟨rfl, hs⟩
  dsimp only
  have HA7 := Aside0.mk (HA6.out.step hs)
  have HX7 : Aside0 (w7.heap[gr]? = some (.cells #[.int .i64 0, .string ⟨#[]⟩, .string ⟨#[]⟩, .slice none 0 0] 49 (0, 0))) := ⟨blk_keep HX6.out hs.2.2 HG.out.1⟩
  clear hs HC HA6 HX6
  go_wp2_with (refine wpList_store_row rfl 49 _ _ rfl gr (cdcells ⟨3, ⟨tx, t⟩, []⟩ (.slice none 0 0)) rfl rfl 49 _ HX7.out size_cd rfl (cd_one _ _ rfl) ?_)
  exact bodyPost_ret (cond_ret rfl rfl (setRow_heap _ _ _ _ _ _ HX7.out)) rfl ⟨_, i7, c7, a7, _, atom_txt HR.out HQ.out, rfl, Kd.V_nil _ _ _ _ _, (HA7.out.setRow HG.out.1 HG.out.2.1 HG.out.2.2 _).to⟩) : p_ := h_
theorem ratom_calls (w0 W : World) (g : Nat) (T : List Tk) (e : Int) (p : Nat) (h : IsR w0 W g T (p : Int) e 0 0) (hB : Below w0.heap.size w0 W) (hT : T.length ≤ 1000000) (hS : ∀ t ∈ T, t.f2.size ≤ 1000000) :
    Calls Tryd.prog 86 #[.pointer (some ⟨g, 0, none⟩)] W (CondQ w0 W g T e (atomP T e p)) := by
  have HT := Aside0.mk hT
  have HS := Aside0.mk hS
  obtain ⟨gr, hgr⟩ : ∃ gr, gr = W.heap.size := ⟨_, rfl⟩
  have HA1 : Aside0 (At w0 W (W.alloc (.cells #[.int .i64 0, .string ⟨#[]⟩, .string ⟨#[]⟩, .slice none 0 0] 49)) g T (p : Int) e 0 0) := ⟨(At.start h hB).alloc _⟩
  have HX1 : Aside0 ((W.alloc (.cells #[.int .i64 0, .string ⟨#[]⟩, .string ⟨#[]⟩, .slice none 0 0] 49)).heap[gr]? = some (.cells #[.int .i64 0, .string ⟨#[]⟩, .string ⟨#[]⟩, .slice none 0 0] 49 (0, 0))) := ⟨by rw [hgr]; exact blk_new _ _⟩
  have HG : Aside0 (gr ≠ g ∧ w0.heap.size ≤ gr ∧ W.heap.size ≤ gr) := ⟨by have := IsS67.lt h; have := hB.size; omega⟩
  obtain ⟨R, hR⟩ : ∃ R, R = atomP T e p := ⟨_, rfl⟩
  rw [← hR]
  have HR0 := Aside0.mk hR
  clear hR h hB hT hS
  go_enter Tryd.func86, Tryd.ntmps86
  go_upto_region 1 with (fail)
  obtain ⟨w1, hw1⟩ : ∃ w1, w1 = W.alloc (.cells #[.int .i64 0, .string ⟨#[]⟩, .string ⟨#[]⟩, .slice none 0 0] 49) := ⟨_, rfl⟩
  rw [← hw1] at HA1 HX1
  rw [← hw1, ← hgr]
  clear hw1 hgr
  cases hif : isP T e [wTrue] p with
  | true =>
    have HIF := Aside0.mk hif
    obtain rfl : R = .ok (cond0 1 [], p + 1) := by rw [HR0.out]; exact atomP_wTrue HIF.out
    clear hif
    go_wp2_with fail
    refine (r_take1 (T := T) (e := e) wTrue p HT.out HA1.out.i HA1.out.b HIF.out).mono ?_
    rintro ed w3 ⟨rfl, hs⟩
    dsimp only
    have HA3 := Aside0.mk (HA1.out.step hs)
    have HX3 : Aside0 (w3.heap[gr]? = some (.cells #[.int .i64 0, .string ⟨#[]⟩, .string ⟨#[]⟩, .slice none 0 0] 49 (0, 0))) := ⟨blk_keep HX1.out hs.2.2 HG.out.1⟩
    clear hs
    go_wp2_with (refine wpList_store_row rfl 49 _ _ rfl gr (cdcells (cond0 1 []) (.slice none 0 0)) rfl rfl 49 _ HX3.out size_cd rfl (cd_one _ _ rfl) ?_)
    exact bodyPost_ret (cond_ret rfl rfl (setRow_heap _ _ _ _ _ _ HX3.out)) rfl ⟨_, _, 0, 0, _, ⟨rfl, rfl, rfl, rfl⟩, rfl, Kd.V_nil _ _ _ _ _, (HA3.out.setRow HG.out.1 HG.out.2.1 HG.out.2.2 _).to⟩
  | false =>
    have HI3 := Aside0.mk hif
    clear hif
    go_wp2_with fail
    refine (r_take0 (T := T) (e := e) wTrue p HT.out HA1.out.i HA1.out.b HI3.out).mono ?_
    rintro ed w3 ⟨rfl, hs⟩
    dsimp only
    have HA3 := Aside0.mk (HA1.out.step hs)
    have HX3 : Aside0 (w3.heap[gr]? = some (.cells #[.int .i64 0, .string ⟨#[]⟩, .string ⟨#[]⟩, .slice none 0 0] 49 (0, 0))) := ⟨blk_keep HX1.out hs.2.2 HG.out.1⟩
    clear hs HA1 HX1
    cases hif : isP T e [wFalse] p with
    | true =>
      have HIF := Aside0.mk hif
      obtain rfl : R = .ok (cond0 2 [], p + 1) := by rw [HR0.out]; exact atomP_wFalse HIF.out
      clear hif
      go_wp2_with fail
      refine (r_take1 (T := T) (e := e) wFalse p HT.out HA3.out.i HA3.out.b HIF.out).mono ?_
      rintro ed w3 ⟨rfl, hs⟩
      dsimp only
      have HA3 := Aside0.mk (HA3.out.step hs)
      have HX3 : Aside0 (w3.heap[gr]? = some (.cells #[.int .i64 0, .string ⟨#[]⟩, .string ⟨#[]⟩, .slice none 0 0] 49 (0, 0))) := ⟨blk_keep HX3.out hs.2.2 HG.out.1⟩
      clear hs
      go_wp2_with (refine wpList_store_row rfl 49 _ _ rfl gr (cdcells (cond0 2 []) (.slice none 0 0)) rfl rfl 49 _ HX3.out size_cd rfl (cd_one _ _ rfl) ?_)
      exact bodyPost_ret (cond_ret rfl rfl (setRow_heap _ _ _ _ _ _ HX3.out)) rfl ⟨_, _, 0, 0, _, ⟨rfl, rfl, rfl, rfl⟩, rfl, Kd.V_nil _ _ _ _ _, (HA3.out.setRow HG.out.1 HG.out.2.1 HG.out.2.2 _).to⟩
    | false =>
      have HI2 := Aside0.mk hif
      clear hif
      go_wp2_with fail
      refine (r_take0 (T := T) (e := e) wFalse p HT.out HA3.out.i HA3.out.b HI2.out).mono ?_
      rintro ed w2 ⟨rfl, hs⟩
      dsimp only
      have HA2 := Aside0.mk (HA3.out.step hs)
      have HX2 : Aside0 (w2.heap[gr]? = some (.cells #[.int .i64 0, .string ⟨#[]⟩, .string ⟨#[]⟩, .slice none 0 0] 49 (0, 0))) := ⟨blk_keep HX3.out hs.2.2 HG.out.1⟩
      clear hs HA3 HX3
      obtain ⟨tk, htk⟩ : ∃ tk, tk = nxt T e p := ⟨_, rfl⟩
      have h4 := r_kind (T := T) (e := e) p HA2.out.i HA2.out.b
      rw [← htk] at h4
      have HRX : Aside0 (∀ tx, tx = (if tk.f0 = 1 then tk.f2 else ⟨#[]⟩) → R = atomR T e p tx) := ⟨fun tx hx => by rw [HR0.out]; exact atomP_tx HI3.out HI2.out (by rw [← htk]; exact hx)⟩
      obtain ⟨k0, p0, wd⟩ := tk
      dsimp only at h4
      have H4 := Aside0.mk h4
      have HTK := Aside0.mk htk
      clear h4 htk
      go_wp2_with fail
      refine H4.out.mono ?_
      rintro ed w4 ⟨rfl, hs⟩
      dsimp only
      have HA4 := Aside0.mk (HA2.out.step hs)
      have HX4 : Aside0 (w4.heap[gr]? = some (.cells #[.int .i64 0, .string ⟨#[]⟩, .string ⟨#[]⟩, .slice none 0 0] 49 (0, 0))) := ⟨blk_keep HX2.out hs.2.2 HG.out.1⟩
      clear hs HA2 HX2 H4
      by_cases hk0 : k0 = 1
      · have l6 : (k0 == (1 : Int)) = true := by simp [hk0]
        have HPT : Aside0 (p < T.length) := ⟨by
          apply Classical.byContradiction; intro hn
          have h2 := HTK.out
          rw [nxt, dif_neg hn] at h2
          have h3 : k0 = 0 := congrArg (fun t : Tk => t.f0) h2
          rw [h3] at hk0
          exact absurd hk0 (by decide)⟩
        have HRT : Aside0 (R = atomR T e p wd) := ⟨HRX.out wd (by rw [if_pos hk0])⟩
        obtain ⟨n0, hn0⟩ : ∃ n0, n0 = T.length := ⟨_, rfl⟩
        obtain ⟨A6, c6, hb6, _, hC6⟩ := HA4.out.i
        obtain ⟨ad, hA1, _, _, q2⟩ := at_T40 hC6 (p : Int) (by omega) (by have := HPT.out; omega)
        have hA2 : A6 = some ad := hA1
        subst hA2
        change _ = some (Value.string (rtok T (p : Int)).f2) at q2
        rw [rtok_nxt (e := e) HPT.out, ← HTK.out] at q2
        dsimp only at q2
        simp only [Int.toNat_natCast] at q2
        replace q2 := (HA4.out.b.cell (World.block_lt_of_cell? w0 _ q2)).trans q2
        have hbl := World.block_lt_of_cell? w4 _ q2
        have t0 : w4.cell? ⟨g, 0, none⟩ = some (.slice (some ad) n0 c6) := by rw [hn0]; exact cellS67_0 hb6
        have t1 : w4.cell? ⟨g, 1, none⟩ = some (.int .i64 (p : Int)) := cellS67_1 hb6
        have hlt2 : (p : Int) < (n0 : Int) := by have := HPT.out; omega
        clear hb6 hC6 hA1 hn0 hk0 HRX HR0
        go_wp2
        go_quiet (fail)
        obtain ⟨w5, hw5⟩ : ∃ w5, w5 = w4.drewN nq := ⟨_, rfl⟩
        rw [← hw5]
        have HA5 : Aside0 (At w0 W w5 g T (p : Int) e 0 0) := ⟨by rw [hw5]; exact HA4.out.drewN _⟩
        have HX5 : Aside0 (w5.heap[gr]? = some (.cells #[.int .i64 0, .string ⟨#[]⟩, .string ⟨#[]⟩, .slice none 0 0] 49 (0, 0))) := ⟨by rw [hw5]; exact HX4.out⟩
        have hjb : (p : Int) ≤ 1000000 := by have := HT.out; have := HPT.out; omega
        clear hw5 q2 hbl t0 t1 HA4 HX4 hlt2 l6
        obtain ⟨tx, htx⟩ : ∃ tx, tx = wd := ⟨_, rfl⟩
        rw [← htx] at HRT ⊢
        clear htx HTK
        by_cases h0 : tx = wSame
        · have t0 : (tx.toList == [115, 97, 109, 101, 45, 111, 114, 105, 103, 105, 110]) = true := (eq_word (w := tx) (a := wSame) (by decide +kernel)).trans (decide_eq_true h0)
          have HR : Aside0 (R = .ok (⟨3, ⟨tx, ⟨#[]⟩⟩, []⟩, p + 1)) := ⟨by rw [HRT.out]; exact atomR_word (.inl h0)⟩
          clear h0 HRT
          exact sc_word
        · have t0 : (tx.toList == [115, 97, 109, 101, 45, 111, 114, 105, 103, 105, 110]) = false := (eq_word (w := tx) (a := wSame) (by decide +kernel)).trans (decide_eq_false h0)
          by_cases h1 : tx = wTrusted
          · have t1 : (tx.toList == [116, 114, 117, 115, 116, 101, 100]) = true := (eq_word (w := tx) (a := wTrusted) (by decide +kernel)).trans (decide_eq_true h1)
            have HR : Aside0 (R = .ok (⟨3, ⟨tx, ⟨#[]⟩⟩, []⟩, p + 1)) := ⟨by rw [HRT.out]; exact atomR_word (.inr (.inl h1))⟩
            clear h1 HRT
            exact sc_word
          · have t1 : (tx.toList == [116, 114, 117, 115, 116, 101, 100]) = false := (eq_word (w := tx) (a := wTrusted) (by decide +kernel)).trans (decide_eq_false h1)
            by_cases h2 : tx = wCreds
            · have t2 : (tx.toList == [99, 114, 101, 100, 115]) = true := (eq_word (w := tx) (a := wCreds) (by decide +kernel)).trans (decide_eq_true h2)
              have HR : Aside0 (R = .ok (⟨3, ⟨tx, ⟨#[]⟩⟩, []⟩, p + 1)) := ⟨by rw [HRT.out]; exact atomR_word (.inr (.inr (.inl h2)))⟩
              clear h2 HRT
              exact sc_word
            · have t2 : (tx.toList == [99, 114, 101, 100, 115]) = false := (eq_word (w := tx) (a := wCreds) (by decide +kernel)).trans (decide_eq_false h2)
              by_cases h3 : tx = wCors
              · have t3 : (tx.toList == [99, 111, 114, 115]) = true := (eq_word (w := tx) (a := wCors) (by decide +kernel)).trans (decide_eq_true h3)
                have HR : Aside0 (R = .ok (⟨3, ⟨tx, ⟨#[]⟩⟩, []⟩, p + 1)) := ⟨by rw [HRT.out]; exact atomR_word (.inr (.inr (.inr h3)))⟩
                clear h3 HRT
                exact sc_word
              · have t3 : (tx.toList == [99, 111, 114, 115]) = false := (eq_word (w := tx) (a := wCors) (by decide +kernel)).trans (decide_eq_false h3)
                by_cases h4 : tx = wMethod
                · have t4 : (tx.toList == [109, 101, 116, 104, 111, 100]) = true := (eq_word (w := tx) (a := wMethod) (by decide +kernel)).trans (decide_eq_true h4)
                  have HR : Aside0 (R = atomT tx id (takeP T e 1 (p + 1))) := ⟨by rw [HRT.out]; exact atomR_method h4⟩
                  clear h4 HRT
                  exact sc_method
                · have t4 : (tx.toList == [109, 101, 116, 104, 111, 100]) = false := (eq_word (w := tx) (a := wMethod) (by decide +kernel)).trans (decide_eq_false h4)
                  by_cases h5 : tx = wDest
                  · have t5 : (tx.toList == [100, 101, 115, 116]) = true := (eq_word (w := tx) (a := wDest) (by decide +kernel)).trans (decide_eq_true h5)
                    have HR : Aside0 (R = atomT tx lowB (takeP T e 1 (p + 1))) := ⟨by rw [HRT.out]; exact atomR_low (.inl h5)⟩
                    clear h5 HRT
                    exact sc_low
                  · have t5 : (tx.toList == [100, 101, 115, 116]) = false := (eq_word (w := tx) (a := wDest) (by decide +kernel)).trans (decide_eq_false h5)
                    by_cases h6 : tx = wScheme
                    · have t6 : (tx.toList == [115, 99, 104, 101, 109, 101]) = true := (eq_word (w := tx) (a := wScheme) (by decide +kernel)).trans (decide_eq_true h6)
                      have HR : Aside0 (R = atomT tx lowB (takeP T e 1 (p + 1))) := ⟨by rw [HRT.out]; exact atomR_low (.inr (.inl h6))⟩
                      clear h6 HRT
                      exact sc_low
                    · have t6 : (tx.toList == [115, 99, 104, 101, 109, 101]) = false := (eq_word (w := tx) (a := wScheme) (by decide +kernel)).trans (decide_eq_false h6)
                      by_cases h7 : tx = wHeader
                      · have t7 : (tx.toList == [104, 101, 97, 100, 101, 114]) = true := (eq_word (w := tx) (a := wHeader) (by decide +kernel)).trans (decide_eq_true h7)
                        have HR : Aside0 (R = atomT tx lowB (takeP T e 1 (p + 1))) := ⟨by rw [HRT.out]; exact atomR_low (.inr (.inr h7))⟩
                        clear h7 HRT
                        exact sc_low
                      · have t7 : (tx.toList == [104, 101, 97, 100, 101, 114]) = false := (eq_word (w := tx) (a := wHeader) (by decide +kernel)).trans (decide_eq_false h7)
                        by_cases h8 : tx = wHost
                        · have t8 : (tx.toList == [104, 111, 115, 116]) = true := (eq_word (w := tx) (a := wHost) (by decide +kernel)).trans (decide_eq_true h8)
                          have HR : Aside0 (R = atomT tx id (takeP T e 2 (p + 1))) := ⟨by rw [HRT.out]; exact atomR_str (.inl h8)⟩
                          clear h8 HRT
                          exact sc_str
                        · have t8 : (tx.toList == [104, 111, 115, 116]) = false := (eq_word (w := tx) (a := wHost) (by decide +kernel)).trans (decide_eq_false h8)
                          by_cases h9 : tx = wPath
                          · have t9 : (tx.toList == [112, 97, 116, 104]) = true := (eq_word (w := tx) (a := wPath) (by decide +kernel)).trans (decide_eq_true h9)
                            have HR : Aside0 (R = atomT tx id (takeP T e 2 (p + 1))) := ⟨by rw [HRT.out]; exact atomR_str (.inr h9)⟩
                            clear h9 HRT
                            exact sc_str
                          · have t9 : (tx.toList == [112, 97, 116, 104]) = false := (eq_word (w := tx) (a := wPath) (by decide +kernel)).trans (decide_eq_false h9)
                            have HR : Aside0 (R = .error (8, (nxt T e p).f1)) := ⟨by rw [HRT.out, atomR_none (by simp only [List.mem_cons, List.mem_nil_iff, or_false, not_or]; exact ⟨h0, h1, h2, h3, h4, h5, h6, h7, h8, h9⟩)]⟩
                            go_wp2_with fail
                            refine (r_wrong (T := T) (e := e) p 8 HA5.out.i HA5.out.b).mono ?_
                            rintro ed w6 ⟨rfl, hs⟩
                            dsimp only
                            have HA6 := Aside0.mk (HA5.out.step hs)
                            have HX6 : Aside0 (w6.heap[gr]? = some (.cells #[.int .i64 0, .string ⟨#[]⟩, .string ⟨#[]⟩, .slice none 0 0] 49 (0, 0))) := ⟨blk_keep HX5.out hs.2.2 HG.out.1⟩
                            clear hs HA5 HX5
                            go_wp2_with (refine wpList_store_row rfl 49 _ _ rfl gr (cdcells ⟨0, ⟨⟨#[]⟩, ⟨#[]⟩⟩, []⟩ (.slice none 0 0)) rfl rfl 49 _ HX6.out size_cd rfl (cd_one _ _ rfl) ?_)
                            exact bodyPost_ret (cond_ret rfl rfl (setRow_heap _ _ _ _ _ _ HX6.out)) rfl ⟨_, _, 8, _, _, by rw [HR.out]; exact ⟨by decide, by omega, rfl, rfl⟩, rfl, Kd.V_nil _ _ _ _ _, (HA6.out.setRow HG.out.1 HG.out.2.1 HG.out.2.2 _).to⟩
      · have l6 : (k0 == (1 : Int)) = false := by simp [hk0]
        have HRT : Aside0 (R = atomR T e p ⟨#[]⟩) := ⟨HRX.out ⟨#[]⟩ (by rw [if_neg hk0])⟩
        have HR : Aside0 (R = .error (8, (nxt T e p).f1)) := ⟨by rw [HRT.out, atomR_none empty_no]⟩
        clear hk0 HRX HR0
        go_wp2_with fail
        refine (r_wrong (T := T) (e := e) p 8 HA4.out.i HA4.out.b).mono ?_
        rintro ed w6 ⟨rfl, hs⟩
        dsimp only
        have HA6 := Aside0.mk (HA4.out.step hs)
        have HX6 : Aside0 (w6.heap[gr]? = some (.cells #[.int .i64 0, .string ⟨#[]⟩, .string ⟨#[]⟩, .slice none 0 0] 49 (0, 0))) := ⟨blk_keep HX4.out hs.2.2 HG.out.1⟩
        clear hs HA4 HX4
        go_wp2_with (refine wpList_store_row rfl 49 _ _ rfl gr (cdcells ⟨0, ⟨⟨#[]⟩, ⟨#[]⟩⟩, []⟩ (.slice none 0 0)) rfl rfl 49 _ HX6.out size_cd rfl (cd_one _ _ rfl) ?_)
        exact bodyPost_ret (cond_ret rfl rfl (setRow_heap _ _ _ _ _ _ HX6.out)) rfl ⟨_, _, 8, _, _, by rw [HR.out]; exact ⟨by decide, by omega, rfl, rfl⟩, rfl, Kd.V_nil _ _ _ _ _, (HA6.out.setRow HG.out.1 HG.out.2.1 HG.out.2.2 _).to⟩
end Go.Proofs.YtngedmioeodmfaaDoor.Pu
