/- 7 texts of the proof, put together, less what is not used; what a tool printed stands among them. -/
import Derived.KernelRfl
import Derived.Test.YtngedmioeodmfaaDoorMCu9
namespace Go.Proofs.YtngedmioeodmfaaDoor.Pu
open Go.RowKit Go.Proofs.YtngedmioeodmfaaDoor.Pr Go.Proofs.YtngedmioeodmfaaDoorW.PrintWords Go.Proofs.YtngedmioeodmfaaDoor.Lx
open Go.Proofs.YtngedmioeodmfaaDoor.Ps hiding Tk
set_option linter.unusedVariables false
set_option linter.unusedSimpArgs false
theorem text_le {t : Tk} {bs : List Int} {a : Nat} {rest : List Int} (h : bs.drop a = wof t ++ rest) : t.f2.size ≤ bs.length := by
  have h1 := congrArg List.length h
  rw [List.length_drop, List.length_append] at h1
  have h2 : t.f2.size ≤ (wof t).length := by
    unfold wof
    split
    · have := escL_ge (bytesOf t.f2)
      rw [bytesOf_length] at this
      simp only [List.length_cons, List.length_append]; omega
    · rw [bytesOf_length]; exact Nat.le_refl _
  omega
theorem toks_len {x : ByteArray} {ts : List Tk} (h : sm 0 .sk [] (bytesOf x) = .good ts) : ts.length ≤ x.size := by
  have := (placed x ts h).len (Nat.zero_le _)
  rw [bytesOf_length] at this; omega
theorem toks_text {x : ByteArray} {ts : List Tk} (h : sm 0 .sk [] (bytesOf x) = .good ts) : ∀ t ∈ ts, t.f2.size ≤ x.size := by
  intro t ht
  obtain ⟨_, a, rest, hd⟩ := (placed x ts h).all t ht
  have := text_le hd
  rw [bytesOf_length] at this; exact this
theorem okTk_tokM (x : ByteArray) : okTk (tokM x).1 = true := by
  rcases tokM_cases x with ⟨ts, h, hs, hv, hl⟩ | ⟨j, h, hj⟩ | ⟨h, hl⟩
  · rw [h]
    exact okTk_iff.2 ⟨by show ts.length ≤ 1000000; have := toks_len hs; omega, fun t ht => by have := toks_text hs t ht; omega⟩
  · rw [h]; rfl
  · rw [h]; rfl
/-- What parse.Policy answers. -/
def polA (x : ByteArray) : Except (Int × Int) Pst := polT x.size (tokM x)
theorem pol_ev (x : ByteArray) (hx : x.size ≤ 1000000) : Ev (fun k => parse_Policy.f k x) (polRes (polA x)) := by
  unfold parse_Policy.f
  simp only [if_pos hx]
  refine Ev.bind (tokens_ev x) ?_
  simp only [okTk_tokM, if_true]
  exact Ev.const fun k => rfl
def awakeT : ByteArray := ⟨#[97, 108, 108, 111, 119, 32, 105, 102, 32, 110, 111, 116, 32, 104, 111, 115, 116, 32, 34, 97, 34, 32, 97, 110, 100, 32, 40, 99, 114, 101, 100, 115, 32, 111, 114, 32, 99, 111, 114, 115, 41, 59]⟩
theorem awake_ev : Ev (fun k => parapetlaw20_awake.f k) true := by
  unfold parapetlaw20_awake.f
  refine Ev.bind (pol_ev awakeT (by decide)) ?_
  have h : polRes (polA awakeT) = ([], [], wBlock, [⟨true, ⟨5, ⟨⟨#[]⟩, ⟨#[]⟩⟩, [⟨4, ⟨⟨#[]⟩, ⟨#[]⟩⟩, [⟨3, ⟨wHost, ⟨#[97]⟩⟩, []⟩]⟩, ⟨6, ⟨⟨#[]⟩, ⟨#[]⟩⟩, [⟨3, ⟨wCreds, ⟨#[]⟩⟩, []⟩, ⟨3, ⟨wCors, ⟨#[]⟩⟩, []⟩]⟩]⟩⟩], false, 0, 0) := by kernel_rfl
  rw [h]
  refine Ev.const fun k => ?_
  kernel_rfl
end Go.Proofs.YtngedmioeodmfaaDoor.Pu
namespace Go.Proofs.YtngedmioeodmfaaDoor.Pu
open Go.RowKit Go.Proofs.YtngedmioeodmfaaDoor.Pr Go.Proofs.YtngedmioeodmfaaDoorW.PrintWords Go.Proofs.YtngedmioeodmfaaDoor.Lx
open Go.Proofs.YtngedmioeodmfaaDoor.Ps hiding Tk
set_option linter.unusedVariables false
set_option linter.unusedSimpArgs false
/-- A text whose tokens end with it. -/
def Lx1 (l : List Int) (ts : List Tk) : Prop := rs 0 .sk [] l = .go .sk ts
theorem Lx1.nil : Lx1 [] [] := rfl
abbrev Ky := Int × ByteArray
/-- From place p on stand tokens of these keys. -/
def KA (T : List Tk) (p : Nat) (ws : List Ky) : Prop := ws <+: (T.drop p).map key
theorem KA.head {T : List Tk} {p : Nat} {w : Ky} {ws : List Ky} (h : KA T p (w :: ws)) (e : Int) : p < T.length ∧ (nxt T e p).f0 = w.1 ∧ (nxt T e p).f2 = w.2 ∧ KA T (p + 1) ws := by
  obtain ⟨rest, h⟩ := h
  have hp : p < T.length := by
    apply Classical.byContradiction
    intro hn
    rw [List.drop_eq_nil_of_le (by omega)] at h
    cases h
  rw [List.drop_eq_getElem_cons hp, List.map_cons, List.cons_append] at h
  injection h with h1 h2
  refine ⟨hp, ?_, ?_, ⟨rest, h2⟩⟩
  · rw [nxt, dif_pos hp, h1]; rfl
  · rw [nxt, dif_pos hp, h1]; rfl
theorem KA.all {T : List Tk} {ws : List Ky} (h : T.map key = ws) : KA T 0 ws := by
  rw [KA, List.drop_zero, h]; exact List.prefix_refl _
theorem KA.len {T : List Tk} {p : Nat} {ws : List Ky} (h : KA T p ws) : ws.length ≤ T.length - p := by
  have := h.length_le
  rw [List.length_map, List.length_drop] at this; exact this
theorem KA.weak {T : List Tk} {p : Nat} {ws vs : List Ky} (h : KA T p (ws ++ vs)) : KA T p ws := List.IsPrefix.trans ⟨vs, rfl⟩ h
theorem KA.drop {T : List Tk} {p : Nat} : ∀ {ws vs : List Ky}, KA T p (ws ++ vs) → KA T (p + ws.length) vs
  | [], vs, h => h
  | w :: ws, vs, h => by
    have h2 := (KA.head (w := w) (ws := ws ++ vs) h 0).2.2.2
    have := KA.drop h2
    rw [List.length_cons]
    rw [show p + (ws.length + 1) = p + 1 + ws.length by omega]; exact this
section
variable {T : List Tk} {e : Int} {p : Nat} {ws : List Ky}
theorem KA.is {k : Int} {t : ByteArray} (h : KA T p ((k, t) :: ws)) (l : List ByteArray) : isP T e l p = (decide (k = 1) && memB t l) := by
  obtain ⟨_, h1, h2, _⟩ := h.head e
  rw [isP, h1, h2]
theorem KA.take {k : Int} {t : ByteArray} (h : KA T p ((k, t) :: ws)) : takeP T e k p = .ok (t, p + 1) := by
  obtain ⟨_, h1, h2, _⟩ := h.head e
  rw [takeP, if_pos h1, h2]
theorem KA.next {w : Ky} (h : KA T p (w :: ws)) : KA T (p + 1) ws := (h.head 0).2.2.2
theorem KA.word {t : ByteArray} {l : List ByteArray} (h : KA T p ((1, t) :: ws)) (hm : memB t l = true) : wordP T e l p = .ok (t, p + 1) := by
  rw [wordP, h.is, hm, if_pos (by rfl), h.take]
end
end Go.Proofs.YtngedmioeodmfaaDoor.Pu
namespace Go.Proofs.YtngedmioeodmfaaDoor.Pr
open Go.RowKit Go.Proofs.YtngedmioeodmfaaDoorW.PrintWords Go.Proofs.YtngedmioeodmfaaDoorW.PrintLast Go.Proofs.YtngedmioeodmfaaDoorW.PrintMore
attribute [local go_sem] max2_int min2_int max_two min_two max_three min_three max_four min_four   -- for this text's walks alone
set_option linter.unusedVariables false
set_option linter.unusedSimpArgs false
attribute [local go_sem high] eqA30
end Go.Proofs.YtngedmioeodmfaaDoor.Pr
namespace Go.Proofs.YtngedmioeodmfaaDoor.Pu
open Go.RowKit Go.Proofs.YtngedmioeodmfaaDoor.Pr Go.Proofs.YtngedmioeodmfaaDoorW.PrintWords Go.Proofs.YtngedmioeodmfaaDoor.Lx
open Go.Proofs.YtngedmioeodmfaaDoor.Ps hiding Tk
set_option linter.unusedVariables false
set_option linter.unusedSimpArgs false
/-- Behind a word stands what is none. -/
theorem rs_word (i a : Nat) (acc : List Int) (ts : List Tk) (c : Int) (l : List Int) (h : pWord c = false) : rs i (.wd a acc) ts (c :: l) = rs i .sk (ts ++ [⟨1, a, strOfNums acc⟩]) (c :: l) := by
  rw [rs, rs]
  have : step i c (.wd a acc) ts = step i c .sk (ts ++ [⟨1, a, strOfNums acc⟩]) := by
    simp only [step, h, Bool.false_eq_true, if_false]
  rw [this]
theorem Lx1.word {w : List Int} {acc : List Int} (hw : rs 0 .sk [] w = .go (.wd 0 acc) []) {c : Int} {l : List Int} (hc : pWord c = false) {tl : List Tk} (hl : Lx1 (c :: l) tl) : Lx1 (w ++ c :: l) (⟨1, 0, strOfNums acc⟩ :: tl.map (upT w.length)) := by
  unfold Lx1 at *
  rw [rs_app_go hw (c :: l), Nat.zero_add, rs_word _ _ _ _ _ _ hc]
  have h := rs_up w.length [⟨1, 0, strOfNums acc⟩] (c :: l) 0 .sk []
  rw [hl] at h
  simpa [upS, upO] using h
end Go.Proofs.YtngedmioeodmfaaDoor.Pu
namespace Go.Proofs.YtngedmioeodmfaaDoor.Pu
open Go.RowKit Go.Proofs.YtngedmioeodmfaaDoor.Pr Go.Proofs.YtngedmioeodmfaaDoorW.PrintWords Go.Proofs.YtngedmioeodmfaaDoor.Lx
open Go.Proofs.YtngedmioeodmfaaDoor.Ps hiding Tk
set_option linter.unusedVariables false
set_option linter.unusedSimpArgs false
/-- The same, or too deep. -/
def OrDeep {α : Type} (r r' : Res α) : Prop := r' = r ∨ ∃ a, r' = .error (2, a)
theorem OrDeep.refl {α : Type} (r : Res α) : OrDeep r r := .inl rfl
section
variable {T : List Tk} {e : Int}
theorem wrapNot_ok {r : Res Cd} {x : Cd × Nat} (h : wrapNot r = .ok x) : ∃ c q, r = .ok (c, q) ∧ x = (cond0 4 [c], q) := by
  cases r with
  | error y => cases h
  | ok y => obtain ⟨c, q⟩ := y; simp only [wrapNot] at h; exact ⟨c, q, rfl, (Except.ok.inj h).symm⟩
theorem closeP_ok {r : Res Cd} {x : Cd × Nat} (h : closeP T e r = .ok x) : ∃ c q, r = .ok (c, q) ∧ closeK c (takeP T e 4 q) = .ok x := by
  cases r with
  | error y => cases h
  | ok y => obtain ⟨c, q⟩ := y; exact ⟨c, q, rfl, h⟩
end
/-- Two rows of tokens that are alike for L tokens from two places on, and go on with no 'and', no 'or'. -/
structure Lok (T T' : List Tk) (e e' : Int) (p p' L : Nat) : Prop where
  k0 : ∀ j, j < L → (nxt T' e' (p' + j)).f0 = (nxt T e (p + j)).f0
  k2 : ∀ j, j < L → (nxt T' e' (p' + j)).f2 = (nxt T e (p + j)).f2
  a : isP T e [wAnd] (p + L) = false ∧ isP T e [wOr] (p + L) = false
  a' : isP T' e' [wAnd] (p' + L) = false ∧ isP T' e' [wOr] (p' + L) = false
  l' : p' + L ≤ T'.length
section
variable {T T' : List Tk} {e e' : Int} {p p' L : Nat}
theorem Lok.is (h : Lok T T' e e' p p' L) (ws : List ByteArray) {j : Nat} (hj : j < L) : isP T' e' ws (p' + j) = isP T e ws (p + j) := by
  rw [isP, isP, h.k0 j hj, h.k2 j hj]
theorem Lok.take (h : Lok T T' e e' p p' L) {k : Int} {a b : Nat} {t : ByteArray} (hr : takeP T e k (p + a) = .ok (t, p + b)) (hb : b ≤ L) : takeP T' e' k (p' + a) = .ok (t, p' + b) := by
  have := takeP_mono hr
  rw [takeP] at hr ⊢
  rw [h.k0 a (by omega), h.k2 a (by omega)]
  split at hr
  · rename_i hk
    rw [if_pos hk]
    have h1 := Except.ok.inj hr
    simp only [Prod.mk.injEq] at h1
    rw [h1.1, show p' + a + 1 = p' + b by omega]
  · cases hr
end
end Go.Proofs.YtngedmioeodmfaaDoor.Pu
namespace Go.Proofs.YtngedmioeodmfaaDoor.Pu
open Go.RowKit Go.Proofs.YtngedmioeodmfaaDoor.Pr Go.Proofs.YtngedmioeodmfaaDoorW.PrintWords Go.Proofs.YtngedmioeodmfaaDoor.Lx
open Go.Proofs.YtngedmioeodmfaaDoor.Ps hiding Tk
set_option linter.unusedVariables false
set_option linter.unusedSimpArgs false
/-- Tokens that begin from b on. -/
def Later (b : Int) (new : List Tk) : Prop := ∀ t ∈ new, b ≤ t.f1
theorem Later.weak {b b' : Int} {l : List Tk} (h : Later b l) (hb : b' ≤ b) : Later b' l := fun t ht => by have := h t ht; omega
/-- What a run adds to the tokens, by where it stands. -/
def Adds (i : Nat) (ts out : List Tk) : St → Prop
  | .sk => out = ts ∨ ∃ (t : Tk) (r : List Tk), out = ts ++ t :: r ∧ (i : Int) ≤ t.f1 ∧ Later ((i : Int) + 1) r
  | .nt => ∃ r : List Tk, out = ts ++ r ∧ Later ((i : Int) + 1) r
  | .wd a _ => ∃ (t : Tk) (r : List Tk), out = ts ++ t :: r ∧ t.f1 = (a : Int) ∧ Later (i : Int) r
  | .qt a _ => ∃ (t : Tk) (r : List Tk), out = ts ++ t :: r ∧ t.f1 = (a : Int) ∧ Later ((i : Int) + 1) r
  | .es a _ _ => ∃ (t : Tk) (r : List Tk), out = ts ++ t :: r ∧ t.f1 = (a : Int) ∧ Later ((i : Int) + 1) r
theorem Adds.sk_row {i : Nat} {ts out : List Tk} (h : Adds i ts out .sk) : ∃ r, out = ts ++ r ∧ Later (i : Int) r := by
  rcases h with h | ⟨t, r, h, h1, h2⟩
  · exact ⟨[], by simp [h], fun t ht => by cases ht⟩
  · refine ⟨t :: r, h, fun u hu => ?_⟩
    rcases List.mem_cons.1 hu with rfl | hu
    · exact h1
    · have := h2 u hu; omega
theorem adds_st1 {i : Nat} {c : Int} {ts out : List Tk} {l : List Int} (ih : ∀ (i : Nat) (st : St) (ts out : List Tk), sm i st ts l = .good out → Adds i ts out st)
    (h : (match st1 i c ts with | .bad j => Out.bad j | .go st' ts' => sm (i + 1) st' ts' l) = .good out) : Adds i ts out .sk := by
  unfold st1 at h
  split at h
  · cases h
  rename_i st' ts' hg
  have h2 := ih _ _ _ _ h
  split at hg
  · obtain ⟨rfl, rfl⟩ := One.go.inj hg
    obtain ⟨r, h3, h4⟩ := h2.sk_row
    cases r with
    | nil => exact .inl (by simpa using h3)
    | cons t r => exact .inr ⟨t, r, h3, by have := h4 t (List.mem_cons_self ..); push_cast at this; omega, fun u hu => by have := h4 u (List.mem_cons_of_mem _ hu); push_cast at this; omega⟩
  split at hg
  · obtain ⟨rfl, rfl⟩ := One.go.inj hg
    obtain ⟨r, h3, h4⟩ := h2
    cases r with
    | nil => exact .inl (by simpa using h3)
    | cons t r => exact .inr ⟨t, r, h3, by have := h4 t (List.mem_cons_self ..); push_cast at this; omega, fun u hu => by have := h4 u (List.mem_cons_of_mem _ hu); push_cast at this; omega⟩
  split at hg
  · obtain ⟨rfl, rfl⟩ := One.go.inj hg
    obtain ⟨t, r, h3, h4, h5⟩ := h2
    exact .inr ⟨t, r, h3, by omega, fun u hu => by have := h5 u hu; push_cast at this; omega⟩
  split at hg
  · obtain ⟨rfl, rfl⟩ := One.go.inj hg
    obtain ⟨t, r, h3, h4, h5⟩ := h2
    exact .inr ⟨t, r, h3, by omega, fun u hu => by have := h5 u hu; push_cast at this; omega⟩
  split at hg
  · obtain ⟨rfl, rfl⟩ := One.go.inj hg
    obtain ⟨r, h3, h4⟩ := h2.sk_row
    exact .inr ⟨_, r, by rw [h3, List.append_assoc]; rfl, by show (i : Int) ≤ i; omega, fun u hu => by have := h4 u hu; push_cast at this; omega⟩
  · cases hg
theorem sm_adds : ∀ (l : List Int) (i : Nat) (st : St) (ts out : List Tk), sm i st ts l = .good out → Adds i ts out st
  | [], i, st, ts, out, h => by
    rw [sm] at h
    cases st with
    | sk => exact .inl (Out.good.inj h).symm
    | nt => exact ⟨[], by rw [List.append_nil]; exact (Out.good.inj h).symm, fun t ht => by cases ht⟩
    | wd a acc => exact ⟨_, [], (Out.good.inj h).symm, rfl, fun t ht => by cases ht⟩
    | qt a acc => cases h
    | es a p acc => cases h
  | c :: l, i, st, ts, out, h => by
    have ih := sm_adds l
    rw [sm] at h
    cases st with
    | sk => exact adds_st1 ih h
    | nt =>
      simp only [step] at h
      split at h
      · cases h
      rename_i st' ts' hg
      split at hg
      · obtain ⟨rfl, rfl⟩ := One.go.inj hg
        obtain ⟨r, h3, h4⟩ := (ih _ _ _ _ h).sk_row
        exact ⟨r, h3, h4.weak (by push_cast; omega)⟩
      · obtain ⟨rfl, rfl⟩ := One.go.inj hg
        obtain ⟨r, h3, h4⟩ := ih _ _ _ _ h
        exact ⟨r, h3, h4.weak (by push_cast; omega)⟩
    | wd a acc =>
      simp only [step] at h
      by_cases hw : pWord c = true
      · simp only [hw, if_true] at h
        obtain ⟨t, r, h3, h4, h5⟩ := ih _ _ _ _ h
        exact ⟨t, r, h3, h4, h5.weak (by push_cast; omega)⟩
      · simp only [hw, Bool.false_eq_true, if_false] at h
        obtain ⟨r, h3, h4⟩ := (adds_st1 (i := i) (ts := ts ++ [⟨1, a, strOfNums acc⟩]) ih h).sk_row
        exact ⟨_, r, by rw [h3, List.append_assoc]; rfl, rfl, h4⟩
    | qt a acc =>
      simp only [step] at h
      split at h
      · cases h
      rename_i st' ts' hg
      split at hg
      · obtain ⟨rfl, rfl⟩ := One.go.inj hg
        obtain ⟨r, h3, h4⟩ := (ih _ _ _ _ h).sk_row
        exact ⟨_, r, by rw [h3, List.append_assoc]; rfl, rfl, h4.weak (by push_cast; omega)⟩
      split at hg
      · cases hg
      split at hg
      · obtain ⟨rfl, rfl⟩ := One.go.inj hg
        obtain ⟨t, r, h3, h4, h5⟩ := ih _ _ _ _ h
        exact ⟨t, r, h3, h4, h5.weak (by push_cast; omega)⟩
      · obtain ⟨rfl, rfl⟩ := One.go.inj hg
        obtain ⟨t, r, h3, h4, h5⟩ := ih _ _ _ _ h
        exact ⟨t, r, h3, h4, h5.weak (by push_cast; omega)⟩
    | es a p acc =>
      simp only [step] at h
      split at h
      · cases h
      rename_i st' ts' hg
      split at hg
      · obtain ⟨rfl, rfl⟩ := One.go.inj hg
        obtain ⟨t, r, h3, h4, h5⟩ := ih _ _ _ _ h
        exact ⟨t, r, h3, h4, h5.weak (by push_cast; omega)⟩
      · cases hg
theorem st1_asc : ∀ c : Fin 256, 128 ≤ (c.val : Int) → pBlank (c.val : Int) = false ∧ (c.val : Int) ≠ 35 ∧ pLetter (c.val : Int) = false ∧ (c.val : Int) ≠ 34 ∧ ¬ ((c.val : Int) = 40 ∨ (c.val : Int) = 41 ∨ (c.val : Int) = 59) := by decide +kernel
theorem st1_bad {i : Nat} {c : Int} {ts : List Tk} (h0 : 0 ≤ c) (h1 : c ≤ 255) (h : 128 ≤ c) : st1 i c ts = .bad i := by
  obtain ⟨h2, h3, h4, h5, h6⟩ := st1_asc ⟨c.toNat, by omega⟩ (by simp; omega)
  simp only [Int.toNat_of_nonneg h0] at h2 h3 h4 h5 h6
  rw [st1, if_neg (by rw [h2]; decide), if_neg h3, if_neg (by rw [h4]; decide), if_neg h5, if_neg h6]
/-- What is under way began ahead. -/
def Beg (i : Nat) : St → Prop
  | .wd b _ => b < i
  | .qt b _ => b < i
  | .es b _ _ => b < i
  | _ => True
theorem st1_toks {i : Nat} {c : Int} {ts : List Tk} {st2 : St} {ts2 : List Tk} (h : st1 i c ts = .go st2 ts2) : ∃ new, ts2 = ts ++ new ∧ (∀ t ∈ new, t.f1 ≤ (i : Int)) ∧ Beg (i + 1) st2 := by
  unfold st1 at h
  split at h
  · obtain ⟨rfl, rfl⟩ := One.go.inj h; exact ⟨[], by simp, (fun t ht => by cases ht), trivial⟩
  split at h
  · obtain ⟨rfl, rfl⟩ := One.go.inj h; exact ⟨[], by simp, (fun t ht => by cases ht), trivial⟩
  split at h
  · obtain ⟨rfl, rfl⟩ := One.go.inj h; exact ⟨[], by simp, (fun t ht => by cases ht), Nat.lt_succ_self _⟩
  split at h
  · obtain ⟨rfl, rfl⟩ := One.go.inj h; exact ⟨[], by simp, (fun t ht => by cases ht), Nat.lt_succ_self _⟩
  split at h
  · obtain ⟨rfl, rfl⟩ := One.go.inj h
    exact ⟨_, rfl, (fun t ht => by simp at ht; rw [ht]; exact Int.le_refl _), trivial⟩
  · cases h
theorem step_toks {i : Nat} {c : Int} {st : St} {ts : List Tk} {st2 : St} {ts2 : List Tk} (h : step i c st ts = .go st2 ts2) (hb : Beg i st) : ∃ new, ts2 = ts ++ new ∧ (∀ t ∈ new, t.f1 ≤ (i : Int)) ∧ Beg (i + 1) st2 := by
  cases st with
  | sk => exact st1_toks h
  | nt =>
    simp only [step] at h
    split at h
    · obtain ⟨rfl, rfl⟩ := One.go.inj h; exact ⟨[], by simp, (fun t ht => by cases ht), trivial⟩
    · obtain ⟨rfl, rfl⟩ := One.go.inj h; exact ⟨[], by simp, (fun t ht => by cases ht), trivial⟩
  | wd a acc =>
    simp only [step] at h
    split at h
    · obtain ⟨rfl, rfl⟩ := One.go.inj h; exact ⟨[], by simp, (fun t ht => by cases ht), Nat.lt_succ_of_lt hb⟩
    · obtain ⟨new, h1, h2, h3⟩ := st1_toks h
      refine ⟨⟨1, a, strOfNums acc⟩ :: new, by rw [h1, List.append_assoc]; rfl, fun t ht => ?_, h3⟩
      rcases List.mem_cons.1 ht with rfl | ht
      · have : a < i := hb
        show (a : Int) ≤ i; omega
      · exact h2 t ht
  | qt a acc =>
    simp only [step] at h
    have hb : a < i := hb
    split at h
    · obtain ⟨rfl, rfl⟩ := One.go.inj h
      exact ⟨_, rfl, (fun t ht => by simp at ht; rw [ht]; show (a : Int) ≤ i; omega), trivial⟩
    split at h
    · cases h
    split at h
    · obtain ⟨rfl, rfl⟩ := One.go.inj h; exact ⟨[], by simp, (fun t ht => by cases ht), Nat.lt_succ_of_lt hb⟩
    · obtain ⟨rfl, rfl⟩ := One.go.inj h; exact ⟨[], by simp, (fun t ht => by cases ht), Nat.lt_succ_of_lt hb⟩
  | es a p acc =>
    simp only [step] at h
    have hb : a < i := hb
    split at h
    · obtain ⟨rfl, rfl⟩ := One.go.inj h; exact ⟨[], by simp, (fun t ht => by cases ht), Nat.lt_succ_of_lt hb⟩
    · cases h
theorem Adds.pre {i : Nat} {ts out : List Tk} {st : St} (h : Adds i ts out st) : ∃ r, out = ts ++ r := by
  cases st with
  | sk => rcases h with h | ⟨t, r, h, _⟩; exact ⟨[], by simp [h]⟩; exact ⟨_, h⟩
  | nt => obtain ⟨r, h, _⟩ := h; exact ⟨r, h⟩
  | wd a acc => obtain ⟨t, r, h, _⟩ := h; exact ⟨_, h⟩
  | qt a acc => obtain ⟨t, r, h, _⟩ := h; exact ⟨_, h⟩
  | es a p acc => obtain ⟨t, r, h, _⟩ := h; exact ⟨_, h⟩
theorem get_app {ts r : List Tk} {k : Nat} {u : Tk} (h : (ts ++ r)[k]? = some u) (hk : ts.length ≤ k) : r[k - ts.length]? = some u := by
  rwa [List.getElem?_append_right hk] at h
theorem get_cons {t : Tk} {r : List Tk} {j : Nat} {u : Tk} (h : (t :: r)[j]? = some u) : (j = 0 ∧ u = t) ∨ u ∈ r := by
  cases j with
  | zero => exact .inl ⟨rfl, (Option.some.inj h).symm⟩
  | succ j => exact .inr (List.mem_of_getElem? (by simpa using h))
/-- Between tokens, where one begins. -/
theorem cut_sk {i : Nat} {ts out : List Tk} (h : Adds i ts out .sk) {k : Nat} (hk : ts.length ≤ k) {u : Tk} (hu : out[k]? = some u) (ha : u.f1 = (i : Int)) : out.take k = ts := by
  rcases h with h | ⟨t, r, h, h1, h2⟩
  · rw [h, List.getElem?_eq_none hk] at hu; cases hu
  · rw [h] at hu
    rcases get_cons (get_app hu hk) with ⟨h3, _⟩ | h3
    · rw [h, show k = ts.length by omega, List.take_left]
    · have := h2 u h3; omega
/-- Where a token begins. -/
theorem sm_cut : ∀ (l : List Int) (i : Nat) (st : St) (ts out : List Tk) (k a : Nat), sm i st ts l = .good out → Beg i st → (∀ x ∈ l, 0 ≤ x ∧ x ≤ 255) → ts.length ≤ k → i ≤ a → ∀ u, out[k]? = some u → u.f1 = (a : Int) →
    ∃ st' ts' c l2, rs i st ts (l.take (a - i)) = .go st' ts' ∧ fin a st' ts' = .good (out.take k) ∧ l.drop (a - i) = c :: l2 ∧ 0 ≤ c ∧ c < 128 := by
  intro l
  induction l with
  | nil =>
    intro i st ts out k a h hb hr hk hi u hu ha
    rw [sm] at h
    exfalso
    cases st with
    | sk => rw [← Out.good.inj h, List.getElem?_eq_none hk] at hu; cases hu
    | nt => rw [← Out.good.inj h, List.getElem?_eq_none hk] at hu; cases hu
    | wd b acc =>
      have hb : b < i := hb
      rw [← Out.good.inj h] at hu
      rcases get_cons (get_app hu hk) with ⟨_, rfl⟩ | h3
      · have ha : (b : Int) = a := ha
        omega
      · cases h3
    | qt b acc => cases h
    | es b p acc => cases h
  | cons c l ih =>
    intro i st ts out k a h hb hr hk hi u hu ha
    have hA := sm_adds _ _ _ _ _ h
    have hc := hr c (List.mem_cons_self ..)
    by_cases hia : i = a
    · subst hia
      rw [Nat.sub_self, List.take_zero, List.drop_zero, rs]
      cases st with
      | sk =>
        refine ⟨_, _, c, l, rfl, by rw [cut_sk hA hk hu ha]; rfl, rfl, hc.1, ?_⟩
        apply Classical.byContradiction
        intro hn
        rw [sm, step, st1_bad hc.1 hc.2 (by omega)] at h
        cases h
      | nt =>
        obtain ⟨r, h1, h2⟩ := hA
        rw [h1] at hu
        have := h2 u (List.mem_of_getElem? (get_app hu hk))
        omega
      | wd b acc =>
        have hb : b < i := hb
        rw [sm] at h
        simp only [step] at h
        by_cases hw : pWord c = true
        · simp only [hw, if_true] at h
          obtain ⟨t, r, h1, h2, h3⟩ := sm_adds _ _ _ _ _ h
          rw [h1] at hu
          rcases get_cons (get_app hu hk) with ⟨_, rfl⟩ | h4
          · omega
          · have := h3 u h4; push_cast at this; omega
        · simp only [hw, Bool.false_eq_true, if_false] at h
          have hA2 := adds_st1 (i := i) (ts := ts ++ [⟨1, b, strOfNums acc⟩]) (fun _ _ _ _ h => sm_adds l _ _ _ _ h) h
          have hk2 : (ts ++ [(⟨1, b, strOfNums acc⟩ : Tk)]).length ≤ k := by
            rw [List.length_append, List.length_singleton]
            apply Classical.byContradiction
            intro hn
            obtain ⟨r, h1⟩ := hA2.pre
            rw [h1, List.append_assoc] at hu
            have h3 := get_app hu hk
            rw [show k - ts.length = 0 by omega] at h3
            have h4 : (⟨1, (b : Int), strOfNums acc⟩ : Tk) = u := Option.some.inj h3
            rw [← h4] at ha
            have ha : (b : Int) = i := ha
            omega
          refine ⟨_, _, c, l, rfl, by rw [cut_sk hA2 hk2 hu ha]; rfl, rfl, hc.1, ?_⟩
          apply Classical.byContradiction
          intro hn
          rw [st1_bad hc.1 hc.2 (by omega)] at h
          cases h
      | qt b acc =>
        have hb : b < i := hb
        obtain ⟨t, r, h1, h2, h3⟩ := hA
        rw [h1] at hu
        rcases get_cons (get_app hu hk) with ⟨_, rfl⟩ | h4
        · omega
        · have := h3 u h4; omega
      | es b p acc =>
        have hb : b < i := hb
        obtain ⟨t, r, h1, h2, h3⟩ := hA
        rw [h1] at hu
        rcases get_cons (get_app hu hk) with ⟨_, rfl⟩ | h4
        · omega
        · have := h3 u h4; omega
    · rw [sm] at h
      cases hs : step i c st ts with
      | bad j => rw [hs] at h; cases h
      | go st2 ts2 =>
        rw [hs] at h
        simp only at h
        obtain ⟨new, h1, h2, h3⟩ := step_toks hs hb
        have hk2 : ts2.length ≤ k := by
          apply Classical.byContradiction
          intro hn
          obtain ⟨r, h4⟩ := (sm_adds _ _ _ _ _ h).pre
          rw [h4, h1, List.append_assoc] at hu
          have h5 := get_app hu hk
          have h6 : k - ts.length < new.length := by rw [h1, List.length_append] at hn; omega
          rw [List.getElem?_append_left h6] at h5
          have := h2 u (List.mem_of_getElem? h5)
          omega
        obtain ⟨st', ts', c2, l2, g1, g2, g3, g4⟩ := ih (i + 1) st2 ts2 out k a h h3 (fun x hx => hr x (List.mem_cons_of_mem _ hx)) hk2 (by omega) u hu ha
        refine ⟨st', ts', c2, l2, ?_, g2, ?_, g4⟩
        · rw [show a - i = (a - (i + 1)) + 1 by omega, List.take_succ_cons, rs, hs]; exact g1
        · rw [show a - i = (a - (i + 1)) + 1 by omega, List.drop_succ_cons]; exact g3
/-- The text ahead of a token. -/
theorem tok_cut {s : ByteArray} {ts : List Tk} (h : sm 0 .sk [] (bytesOf s) = .good ts) (hv : V (bytesOf s)) (hs : s.size ≤ 3000) {k : Nat} (hk : k < ts.length) {a : Nat} (ha : (ts[k]).f1 = (a : Int)) :
    tokM (s.extract 0 a) = (ts.take k, 0, 0) ∧ a ≤ s.size := by
  obtain ⟨st', ts', c, l2, h1, h2, h3, h4, h5⟩ := sm_cut _ 0 .sk [] ts k a h trivial (bytesOf_range s) (Nat.zero_le _) (Nat.zero_le _) _ (List.getElem?_eq_getElem hk) ha
  rw [Nat.sub_zero] at h1 h3
  have hal : a < s.size := by
    apply Classical.byContradiction
    intro hn
    rw [List.drop_eq_nil_of_le (by rw [bytesOf_length]; omega)] at h3
    cases h3
  have hb : bytesOf (s.extract 0 a) = (bytesOf s).take a := by
    unfold bytesOf
    rw [← List.map_take]
    congr 1
    rw [ByteArray.data_extract]
    simp
  have hvv : V ((bytesOf s).take a) := by
    have h6 : bytesOf s = (bytesOf s).take a ++ c :: l2 := by rw [← h3, List.take_append_drop]
    rw [h6] at hv
    exact ((V_split _ c l2 h4 h5).1 hv).1
  have hsz : (s.extract 0 a).size ≤ 3000 := by rw [← bytesOf_length, hb, List.length_take]; omega
  refine ⟨tokM_of _ hsz (by rw [hb]; exact hvv) ?_, by omega⟩
  rw [hb, sm_rs, h1]
  show fin _ _ _ = _
  rw [List.length_take, bytesOf_length, Nat.min_eq_left (by omega), Nat.zero_add]
  exact h2
end Go.Proofs.YtngedmioeodmfaaDoor.Pu
namespace Go.Proofs.YtngedmioeodmfaaDoor.Pu
open Go.RowKit Go.Proofs.YtngedmioeodmfaaDoor.Pr Go.Proofs.YtngedmioeodmfaaDoorW.PrintWords Go.Proofs.YtngedmioeodmfaaDoor.Lx
open Go.Proofs.YtngedmioeodmfaaDoor.Ps hiding Tk
set_option linter.unusedVariables false
set_option linter.unusedSimpArgs false
/-- What the tokens ahead of k give: the same, or something that ends with them, or the fault at their end. -/
def Cut {α : Type} (k : Nat) (a : Int) (r r' : Res α) : Prop := ∀ x q, r = .ok (x, q) → (q ≤ k ∧ r' = .ok (x, q)) ∨ (∃ x', r' = .ok (x', k)) ∨ r' = .error (8, a)
/-- The same, or the fault at the end. -/
def Cut2 {α : Type} (k : Nat) (a : Int) (r r' : Res α) : Prop := ∀ x q, r = .ok (x, q) → (q ≤ k ∧ r' = .ok (x, q)) ∨ r' = .error (8, a)
theorem Cut2.cut {α : Type} {k : Nat} {a : Int} {r r' : Res α} (h : Cut2 k a r r') : Cut k a r r' := fun x q hr => by
  rcases h x q hr with h | h
  · exact .inl h
  · exact .inr (.inr h)
section
variable {T : List Tk} {e : Int} {k : Nat} {a : Int}
theorem nxt_cut (hk : k ≤ T.length) (p : Nat) : nxt (T.take k) a p = if p < k then nxt T e p else ⟨0, a, ⟨#[]⟩⟩ := by
  by_cases hp : p < k
  · rw [if_pos hp, nxt, dif_pos (by rw [List.length_take]; omega), nxt, dif_pos (by omega), List.getElem_take]
  · rw [if_neg hp, nxt, dif_neg (by rw [List.length_take]; omega)]
theorem is_cut (hk : k ≤ T.length) {p : Nat} (hp : p < k) (ws : List ByteArray) : isP (T.take k) a ws p = isP T e ws p := by
  rw [isP, isP, nxt_cut (e := e) hk, if_pos hp]
theorem is_end (hk : k ≤ T.length) (ws : List ByteArray) : isP (T.take k) a ws k = false := by
  rw [isP, nxt_cut (e := (0 : Int)) hk, if_neg (Nat.lt_irrefl k)]; rfl
theorem take_cut (hk : k ≤ T.length) {p : Nat} (hp : p ≤ k) (kind : Int) (h0 : kind ≠ 0) : Cut2 k a (takeP T e kind p) (takeP (T.take k) a kind p) := by
  intro x q h
  have hq := takeP_mono h
  by_cases hl : p < k
  · left
    refine ⟨by omega, ?_⟩
    rw [takeP, nxt_cut (e := e) hk, if_pos hl]; exact h
  · right
    rw [takeP, nxt_cut (e := e) hk, if_neg hl, if_neg (fun h => h0 h.symm)]
theorem word_cut (hk : k ≤ T.length) {p : Nat} (hp : p ≤ k) (ws : List ByteArray) : Cut2 k a (wordP T e ws p) (wordP (T.take k) a ws p) := by
  intro x q h
  by_cases hl : p < k
  · rw [wordP] at h ⊢
    rw [is_cut (e := e) hk hl]
    split at h
    · rename_i hi; rw [if_pos hi]; exact take_cut hk hp 1 (by decide) x q h
    · cases h
  · right
    obtain rfl : p = k := by omega
    rw [wordP, is_end hk, if_neg (by decide), nxt_cut (e := e) hk, if_neg hl]
theorem kidsL_cut (hk : k ≤ T.length) {one one' : Nat → Res Cd} (hm : ∀ p c q, one p = .ok (c, q) → p ≤ q) (ho : ∀ p, p ≤ k → Cut k a (one p) (one' p)) {w : ByteArray} :
    ∀ (f : Nat) (acc : List Cd) (p f' : Nat), p ≤ k → T.length + 1 ≤ f + p → k + 1 ≤ f' + p → Cut k a (kidsL T e one w f acc p) (kidsL (T.take k) a one' w f' acc p)
  | 0, acc, p, f', hp, hf, hf' => by omega
  | f + 1, acc, p, f', hp, hf, hf' => by
    intro x q h
    obtain ⟨g, rfl⟩ : ∃ g, f' = g + 1 := ⟨f' - 1, by omega⟩
    by_cases hl : p < k
    · rw [kidsL] at h ⊢
      rw [is_cut (e := e) hk hl]
      by_cases hi : isP T e [w] p = true
      · rw [if_pos hi] at h ⊢
        cases h1 : one (p + 1) with
        | error y => rw [h1] at h; cases h
        | ok y =>
          obtain ⟨c, q1⟩ := y
          rw [h1] at h
          have hq1 := hm _ _ _ h1
          rcases ho (p + 1) (by omega) c q1 h1 with ⟨h2, h3⟩ | ⟨c', h3⟩ | h3
          · rw [h3]; exact kidsL_cut hk hm ho f _ q1 g h2 (by omega) (by omega) x q h
          · rw [h3]
            right; left
            simp only
            cases g with
            | zero => exact ⟨_, rfl⟩
            | succ g => exact ⟨_, by rw [kidsL, is_end hk]; rfl⟩
          · rw [h3]; right; right; rfl
      · rw [if_neg hi] at h ⊢
        left
        have h3 := Except.ok.inj h; simp only [Prod.mk.injEq] at h3
        exact ⟨by omega, by rw [h3.1, h3.2]⟩
    · obtain rfl : p = k := by omega
      right; left
      exact ⟨acc, by rw [kidsL, is_end hk]; rfl⟩
theorem kidsP_cut (hk : k ≤ T.length) {one one' : Nat → Res Cd} (hm : ∀ p c q, one p = .ok (c, q) → p ≤ q) (ho : ∀ p, p ≤ k → Cut k a (one p) (one' p)) {w : ByteArray} {kind : Int} (p : Nat) (hp : p ≤ k) : Cut k a (kidsP T e kind w one p) (kidsP (T.take k) a kind w one' p) := by
  intro x q h
  rw [kidsP] at h ⊢
  have hfin : ∀ (l : List Cd) (q : Nat), ∃ x', (if l.length = 1 then (.ok (l.getD 0 z49, q) : Res Cd) else .ok (cond0 kind l, q)) = .ok (x', q) := by
    intro l q; split <;> exact ⟨_, rfl⟩
  have htl : (T.take k).length = k := by rw [List.length_take]; omega
  cases h1 : one p with
  | error y => rw [h1] at h; cases h
  | ok y =>
    obtain ⟨c, q1⟩ := y
    rw [h1] at h
    simp only at h
    cases h2 : kidsL T e one w (T.length + 1 - q1) [c] q1 with
    | error z => rw [h2] at h; cases h
    | ok z =>
      obtain ⟨l, q2⟩ := z
      rw [h2] at h
      simp only at h
      rcases ho p hp c q1 h1 with ⟨h3, h4⟩ | ⟨c', h4⟩ | h4
      · rw [h4]
        simp only
        rcases kidsL_cut hk hm ho _ [c] q1 ((T.take k).length + 1 - q1) h3 (by omega) (by omega) l q2 h2 with ⟨h5, h6⟩ | ⟨l', h6⟩ | h6
        · rw [h6]
          obtain ⟨x', hx'⟩ := hfin l q2
          have : q2 = q := by rw [hx'] at h; have h3 := Except.ok.inj h; simp only [Prod.mk.injEq] at h3; exact h3.2
          left; exact ⟨by omega, h⟩
        · rw [h6]; right; left; exact hfin l' k
        · rw [h6]; right; right; rfl
      · rw [h4]
        simp only
        right; left
        have : kidsL (T.take k) a one' w ((T.take k).length + 1 - k) [c'] k = .ok ([c'], k) := by
          cases (T.take k).length + 1 - k with
          | zero => rfl
          | succ g => rw [kidsL, is_end hk]; rfl
        rw [this]; exact hfin [c'] k
      · rw [h4]; right; right; rfl
theorem atom_cut (hk : k ≤ T.length) (p : Nat) (hp : p ≤ k) : Cut k a (atomP T e p) (atomP (T.take k) a p) := by
  intro x q h
  rw [atomP] at h ⊢
  cases h1 : wordP T e atomWords p with
  | error y => rw [h1] at h; cases h
  | ok y =>
    obtain ⟨w, q1⟩ := y
    rw [h1] at h
    simp only at h
    rcases word_cut (a := a) hk hp atomWords w q1 h1 with ⟨h2, h3⟩ | h3
    · rw [h3]
      simp only
      have hT : ∀ (kd : Int) (f : ByteArray → ByteArray), kd ≠ 0 → atomT w f (takeP T e kd q1) = .ok (x, q) → (q ≤ k ∧ atomT w f (takeP (T.take k) a kd q1) = .ok (x, q)) ∨ (∃ x', atomT w f (takeP (T.take k) a kd q1) = .ok (x', k)) ∨ atomT w f (takeP (T.take k) a kd q1) = .error (8, a) := by
        intro kd f h0 hr
        obtain ⟨t, ht⟩ := atomT_mono hr
        rcases take_cut (a := a) hk h2 kd h0 t q ht with ⟨h4, h5⟩ | h5
        · rw [h5]; left; refine ⟨h4, ?_⟩; rw [ht] at hr; exact hr
        · rw [h5]; right; right; rfl
      unfold atomK at h ⊢
      have hE : ∀ {c : Cd}, (.ok (c, q1) : Res Cd) = .ok (x, q) → (q ≤ k ∧ (.ok (c, q1) : Res Cd) = .ok (x, q)) := by
        intro c hr
        have h3 := Except.ok.inj hr; simp only [Prod.mk.injEq] at h3
        exact ⟨by omega, hr⟩
      by_cases e0 : w = wTrue
      · rw [if_pos e0] at h ⊢; exact .inl (hE h)
      rw [if_neg e0] at h ⊢
      by_cases e1 : w = wFalse
      · rw [if_pos e1] at h ⊢; exact .inl (hE h)
      rw [if_neg e1] at h ⊢
      by_cases e2 : w = wMethod
      · rw [if_pos e2] at h ⊢; exact hT _ _ (by decide) h
      rw [if_neg e2] at h ⊢
      by_cases e3 : w = wDest ∨ w = wScheme ∨ w = wHeader
      · rw [if_pos e3] at h ⊢; exact hT _ _ (by decide) h
      rw [if_neg e3] at h ⊢
      by_cases e4 : w = wHost ∨ w = wPath
      · rw [if_pos e4] at h ⊢; exact hT _ _ (by decide) h
      rw [if_neg e4] at h ⊢
      exact .inl (hE h)
    · rw [h3]; right; right; rfl
theorem notN_cut (hk : k ≤ T.length) : ∀ (n p : Nat), p ≤ k → Cut k a (notN T e n p) (notN (T.take k) a n p)
  | 0, p, hp => by
    intro x q h
    by_cases hl : p < k
    · rw [notN] at h ⊢
      rw [is_cut (e := e) hk hl, nxt_cut (e := e) hk, if_pos hl]
      split at h
      · cases h
      · rename_i hi
        rw [if_neg hi]
        split at h
        · cases h
        · rename_i h3; rw [if_neg h3]; exact atom_cut hk p hp x q h
    · obtain rfl : p = k := by omega
      right; right
      rw [notN, is_end hk, if_neg (by decide), nxt_cut (e := e) hk, if_neg hl, if_neg (by simp), atomP, wordP, is_end hk, if_neg (by decide), nxt_cut (e := e) hk, if_neg hl]
  | n + 1, p, hp => by
    intro x q h
    by_cases hl : p < k
    · rw [notN] at h ⊢
      rw [is_cut (e := e) hk hl, nxt_cut (e := e) hk, if_pos hl]
      by_cases hi : isP T e [wNot] p = true
      · rw [if_pos hi] at h ⊢
        obtain ⟨c, q1, h1, h2⟩ := wrapNot_ok h
        simp only [Prod.mk.injEq] at h2
        obtain ⟨rfl, rfl⟩ := h2
        rcases notN_cut hk n (p + 1) (by omega) c q h1 with ⟨h3, h4⟩ | ⟨c', h4⟩ | h4
        · rw [h4]; exact .inl ⟨h3, rfl⟩
        · rw [h4]; exact .inr (.inl ⟨_, rfl⟩)
        · rw [h4]; exact .inr (.inr rfl)
      · rw [if_neg hi] at h ⊢
        by_cases h3 : (nxt T e p).f0 = 3
        · rw [if_pos h3] at h ⊢
          obtain ⟨c, q1, h1, h2⟩ := closeP_ok h
          have hclose : ∀ (c : Cd) (q1 : Nat), q1 ≤ k → ∀ x q, closeK c (takeP T e 4 q1) = .ok (x, q) → (q ≤ k ∧ closeK c (takeP (T.take k) a 4 q1) = .ok (x, q)) ∨ closeK c (takeP (T.take k) a 4 q1) = .error (8, a) := by
            intro c q1 hq1 x q hr
            cases ht : takeP T e 4 q1 with
            | error y => rw [ht] at hr; cases hr
            | ok y =>
              obtain ⟨t, q2⟩ := y
              rw [ht] at hr
              have hq : q2 = q := by simp only [closeK] at hr; have h5 := Except.ok.inj hr; simp only [Prod.mk.injEq] at h5; exact h5.2
              rcases take_cut (a := a) hk hq1 4 (by decide) t q2 ht with ⟨h4, h5⟩ | h5
              · rw [h5]; exact .inl ⟨by omega, hr⟩
              · rw [h5]; exact .inr rfl
          rcases kidsP_cut (a := a) hk (kidsP_mono (notN_mono T e n)) (fun p hp => kidsP_cut hk (notN_mono T e n) (fun p hp => notN_cut hk n p hp) p hp) (p + 1) (by omega) c q1 h1 with ⟨h4, h5⟩ | ⟨c', h5⟩ | h5
          · rw [orP, h5]
            rcases hclose c q1 h4 x q h2 with h6 | h6
            · exact .inl h6
            · exact .inr (.inr h6)
          · rw [orP, h5]
            right; right
            show closeK c' _ = _
            rw [takeP, nxt_cut (e := e) hk, if_neg (Nat.lt_irrefl k), if_neg (by simp)]
            rfl
          · rw [orP, h5]; exact .inr (.inr rfl)
        · rw [if_neg h3] at h ⊢; exact atom_cut hk p hp x q h
    · obtain rfl : p = k := by omega
      right; right
      rw [notN, is_end hk, if_neg (by decide), nxt_cut (e := e) hk, if_neg hl, if_neg (by simp), atomP, wordP, is_end hk, if_neg (by decide), nxt_cut (e := e) hk, if_neg hl]
theorem cond_cut (hk : k ≤ T.length) (p : Nat) (hp : p ≤ k) : Cut k a (condP T e p) (condP (T.take k) a p) :=
  kidsP_cut hk (kidsP_mono (notN_mono T e 30)) (fun p hp => kidsP_cut hk (notN_mono T e 30) (fun p hp => notN_cut hk 30 p hp) p hp) p hp
/-- A word of a share, read and put where F says. -/
def shareG (T : List Tk) (e : Int) (f : Nat) (F : ByteArray → Sh) : Res ByteArray → Res Sh
  | .error x => .error x
  | .ok (t, r) => shareL T e f (F t) r
theorem shareM_G {T : List Tk} {e : Int} {f : Nat} {s : Sh} {r : Res ByteArray} : shareM T e f s r = shareG T e f (fun t => ⟨s.f0, s.f1 ++ [t], s.f2, s.f3⟩) r := by cases r <;> rfl
theorem shareH_G {T : List Tk} {e : Int} {f : Nat} {s : Sh} {r : Res ByteArray} : shareH T e f s r = shareG T e f (fun t => ⟨s.f0, s.f1, s.f2 ++ [t], s.f3⟩) r := by cases r <;> rfl
theorem shareL_cut (hk : k ≤ T.length) : ∀ (f : Nat) (s : Sh) (p f' : Nat), p ≤ k → T.length + 1 ≤ f + p → k + 1 ≤ f' + p → Cut k a (shareL T e f s p) (shareL (T.take k) a f' s p)
  | 0, s, p, f', hp, hf, hf' => by omega
  | f + 1, s, p, f', hp, hf, hf' => by
    intro x q h
    obtain ⟨g, rfl⟩ : ∃ g, f' = g + 1 := ⟨f' - 1, by omega⟩
    by_cases hl : p < k
    · by_cases hi : isP T e [wMethod, wHeader, wCreds] p = true
      · have hi' : true = isP (T.take k) a [wMethod, wHeader, wCreds] p := by rw [is_cut (e := e) hk hl, hi]
        rw [shareL_succ _ _ _ _ _ hi.symm] at h
        rw [shareL_succ _ _ _ _ _ hi']
        cases ht : takeP T e 1 p with
        | error y => rw [ht] at h; cases h
        | ok y =>
          obtain ⟨w, q1⟩ := y
          have hq1 := takeP_mono ht
          rw [ht] at h
          have ht' : takeP (T.take k) a 1 p = .ok (w, q1) := by rw [takeP, nxt_cut (e := e) hk, if_pos hl]; exact ht
          rw [ht']
          simp only [shareK] at h ⊢
          have hrow : ∀ (F : ByteArray → Sh), shareG T e f F (takeP T e 1 q1) = .ok (x, q) →
              (q ≤ k ∧ shareG (T.take k) a g F (takeP (T.take k) a 1 q1) = .ok (x, q)) ∨ (∃ x', shareG (T.take k) a g F (takeP (T.take k) a 1 q1) = .ok (x', k)) ∨ shareG (T.take k) a g F (takeP (T.take k) a 1 q1) = .error (8, a) := by
            intro F hr
            cases h2 : takeP T e 1 q1 with
            | error y => rw [h2] at hr; cases hr
            | ok y =>
              obtain ⟨t, q2⟩ := y
              have hq2 := takeP_mono h2
              rw [h2] at hr
              rcases take_cut (a := a) hk (show q1 ≤ k by omega) 1 (by decide) t q2 h2 with ⟨h4, h5⟩ | h5
              · rw [h5]; exact shareL_cut hk f (F t) q2 g h4 (by omega) (by omega) x q hr
              · rw [h5]; exact .inr (.inr rfl)
          by_cases e1 : w = wMethod
          · rw [if_pos e1] at h ⊢
            rw [shareM_G] at h ⊢
            exact hrow _ h
          · rw [if_neg e1] at h ⊢
            by_cases e2 : w = wHeader
            · rw [if_pos e2] at h ⊢
              rw [shareH_G] at h ⊢
              exact hrow _ h
            · rw [if_neg e2] at h ⊢
              exact shareL_cut hk f _ q1 g (by omega) (by omega) (by omega) x q h
      · rw [shareL, if_neg hi] at h
        left
        have h3 := Except.ok.inj h; simp only [Prod.mk.injEq] at h3
        refine ⟨by omega, ?_⟩
        rw [shareL, is_cut (e := e) hk hl, if_neg hi, h3.1, h3.2]
    · obtain rfl : p = k := by omega
      right; left
      exact ⟨s, by rw [shareL, is_end hk]; rfl⟩
theorem share_cut (hk : k ≤ T.length) (p : Nat) (hp : p ≤ k) : Cut k a (shareP T e p) (shareP (T.take k) a p) := by
  intro x q h
  rw [shareP] at h ⊢
  have htl : (T.take k).length = k := by rw [List.length_take]; omega
  cases ht : takeP T e 2 p with
  | error y => rw [ht] at h; cases h
  | ok y =>
    obtain ⟨o, q1⟩ := y
    have hq1 := takeP_mono ht
    rw [ht] at h
    rcases take_cut (a := a) hk hp 2 (by decide) o q1 ht with ⟨h4, h5⟩ | h5
    · rw [h5]; exact shareL_cut hk _ _ q1 _ h4 (by omega) (by omega) x q h
    · rw [h5]; exact .inr (.inr rfl)
theorem itemK_cut (hk : k ≤ T.length) (s : Pst) (w : ByteArray) (p : Nat) (hp : p ≤ k) : Cut k a (itemK T e s w p) (itemK (T.take k) a s w p) := by
  intro x q h
  by_cases h0 : w = wCsp
  · rw [itemK_csp h0] at h ⊢
    cases ht : takeP T e 2 p with
    | error y => rw [ht] at h; cases h
    | ok y =>
      obtain ⟨t, q1⟩ := y
      rw [ht] at h
      have hq : q1 = q := by simp only [cspK] at h; have h5 := Except.ok.inj h; simp only [Prod.mk.injEq] at h5; exact h5.2
      rcases take_cut (a := a) hk hp 2 (by decide) t q1 ht with ⟨h4, h5⟩ | h5
      · rw [h5]; exact .inl ⟨by omega, h⟩
      · rw [h5]; exact .inr (.inr rfl)
  by_cases h1 : w = wShare
  · rw [itemK_share h0 h1] at h ⊢
    cases ht : shareP T e p with
    | error y => rw [ht] at h; cases h
    | ok y =>
      obtain ⟨t, q1⟩ := y
      rw [ht] at h
      have hq : q1 = q := by simp only [shaK] at h; have h5 := Except.ok.inj h; simp only [Prod.mk.injEq] at h5; exact h5.2
      rcases share_cut (a := a) hk p hp t q1 ht with ⟨h4, h5⟩ | ⟨t', h5⟩ | h5
      · rw [h5]; exact .inl ⟨by omega, h⟩
      · rw [h5]; exact .inr (.inl ⟨_, rfl⟩)
      · rw [h5]; exact .inr (.inr rfl)
  by_cases h2 : w = wMixed
  · rw [itemK_mixed h0 h1 h2] at h ⊢
    cases ht : wordP T e [wBlock, wUpgrade, wAllow] p with
    | error y => rw [ht] at h; cases h
    | ok y =>
      obtain ⟨t, q1⟩ := y
      rw [ht] at h
      have hq : q1 = q := by simp only [mixK] at h; have h5 := Except.ok.inj h; simp only [Prod.mk.injEq] at h5; exact h5.2
      rcases word_cut (a := a) hk hp _ t q1 ht with ⟨h4, h5⟩ | h5
      · rw [h5]; exact .inl ⟨by omega, h⟩
      · rw [h5]; exact .inr (.inr rfl)
  by_cases h3 : w = wDefault
  · rw [itemK_default h0 h1 h2 h3] at h ⊢
    cases ht : wordP T e [wAllow, wDeny] p with
    | error y => rw [ht] at h; cases h
    | ok y =>
      obtain ⟨t, q1⟩ := y
      rw [ht] at h
      have hq : q1 = q := by simp only [defK] at h; have h5 := Except.ok.inj h; simp only [Prod.mk.injEq] at h5; exact h5.2
      rcases word_cut (a := a) hk hp _ t q1 ht with ⟨h4, h5⟩ | h5
      · rw [h5]; exact .inl ⟨by omega, h⟩
      · rw [h5]; exact .inr (.inr rfl)
  rw [itemK_rule h0 h1 h2 h3] at h ⊢
  cases ht : wordP T e [wIf] p with
  | error y => rw [ht] at h; cases h
  | ok y =>
    obtain ⟨t, q1⟩ := y
    rw [ht] at h
    simp only [ifK] at h
    rcases word_cut (a := a) hk hp _ t q1 ht with ⟨h4, h5⟩ | h5
    · rw [h5]
      simp only [ifK]
      cases hc : condP T e q1 with
      | error y => rw [hc] at h; cases h
      | ok y =>
        obtain ⟨c, q2⟩ := y
        rw [hc] at h
        have hq : q2 = q := by simp only [ruleK] at h; have h5 := Except.ok.inj h; simp only [Prod.mk.injEq] at h5; exact h5.2
        rcases cond_cut (a := a) hk q1 h4 c q2 hc with ⟨h6, h7⟩ | ⟨c', h7⟩ | h7
        · rw [h7]; exact .inl ⟨by omega, h⟩
        · rw [h7]; exact .inr (.inl ⟨_, rfl⟩)
        · rw [h7]; exact .inr (.inr rfl)
    · rw [h5]; exact .inr (.inr rfl)
theorem once_cut (hk : k ≤ T.length) {p : Nat} (hl : p < k) (s : Pst) : onceP (T.take k) a s p = onceP T e s p := by
  rw [onceP, onceP, is_cut (e := e) hk hl, nxt_cut (e := e) hk, if_pos hl]
theorem item_cut (hk : k ≤ T.length) (s : Pst) (p : Nat) (hl : p < k) : Cut k a (itemP T e s p) (itemP (T.take k) a s p) := by
  intro x q h
  rw [itemP] at h ⊢
  rw [is_cut (e := e) hk hl, once_cut (e := e) hk hl, nxt_cut (e := e) hk, if_pos hl]
  split at h
  · rename_i hi
    rw [if_pos hi]
    cases ho : onceP T e s p with
    | error y => rw [ho] at h; cases h
    | ok s1 =>
      rw [ho] at h
      simp only at h ⊢
      split at h
      · cases h
      · rename_i h60
        rw [if_neg h60]
        cases ht : takeP T e 1 p with
        | error y => rw [ht] at h; cases h
        | ok y =>
          obtain ⟨w, q1⟩ := y
          have hq1 := takeP_mono ht
          rw [ht] at h
          have ht' : takeP (T.take k) a 1 p = .ok (w, q1) := by rw [takeP, nxt_cut (e := e) hk, if_pos hl]; exact ht
          rw [ht']
          exact itemK_cut hk _ w q1 (by omega) x q h
  · cases h
/-- No fewer of each kind. -/
def LeP (s s' : Pst) : Prop := s.csp.length ≤ s'.csp.length ∧ s.shares.length ≤ s'.shares.length ∧ s.rules.length ≤ s'.rules.length
theorem itemK_le {s : Pst} {w : ByteArray} {p : Nat} {x : Pst} {q : Nat} (h : itemK T e s w p = .ok (x, q)) : LeP s x := by
  by_cases h0 : w = wCsp
  · rw [itemK_csp h0] at h
    cases ht : takeP T e 2 p with
    | error y => rw [ht] at h; cases h
    | ok y => obtain ⟨t, q1⟩ := y; rw [ht] at h; simp only [cspK] at h; have h5 := Except.ok.inj h; simp only [Prod.mk.injEq] at h5; rw [← h5.1]; exact ⟨by simp, Nat.le_refl _, Nat.le_refl _⟩
  by_cases h1 : w = wShare
  · rw [itemK_share h0 h1] at h
    cases ht : shareP T e p with
    | error y => rw [ht] at h; cases h
    | ok y => obtain ⟨t, q1⟩ := y; rw [ht] at h; simp only [shaK] at h; have h5 := Except.ok.inj h; simp only [Prod.mk.injEq] at h5; rw [← h5.1]; exact ⟨Nat.le_refl _, by simp, Nat.le_refl _⟩
  by_cases h2 : w = wMixed
  · rw [itemK_mixed h0 h1 h2] at h
    cases ht : wordP T e [wBlock, wUpgrade, wAllow] p with
    | error y => rw [ht] at h; cases h
    | ok y => obtain ⟨t, q1⟩ := y; rw [ht] at h; simp only [mixK] at h; have h5 := Except.ok.inj h; simp only [Prod.mk.injEq] at h5; rw [← h5.1]; exact ⟨Nat.le_refl _, Nat.le_refl _, Nat.le_refl _⟩
  by_cases h3 : w = wDefault
  · rw [itemK_default h0 h1 h2 h3] at h
    cases ht : wordP T e [wAllow, wDeny] p with
    | error y => rw [ht] at h; cases h
    | ok y => obtain ⟨t, q1⟩ := y; rw [ht] at h; simp only [defK] at h; have h5 := Except.ok.inj h; simp only [Prod.mk.injEq] at h5; rw [← h5.1]; exact ⟨Nat.le_refl _, Nat.le_refl _, Nat.le_refl _⟩
  rw [itemK_rule h0 h1 h2 h3] at h
  cases ht : wordP T e [wIf] p with
  | error y => rw [ht] at h; cases h
  | ok y =>
    obtain ⟨t, q1⟩ := y
    rw [ht] at h
    simp only [ifK] at h
    cases hc : condP T e q1 with
    | error y => rw [hc] at h; cases h
    | ok y => obtain ⟨c, q2⟩ := y; rw [hc] at h; simp only [ruleK] at h; have h5 := Except.ok.inj h; simp only [Prod.mk.injEq] at h5; rw [← h5.1]; exact ⟨Nat.le_refl _, Nat.le_refl _, by simp⟩
theorem item_le {s : Pst} {p : Nat} {x : Pst} {q : Nat} (h : itemP T e s p = .ok (x, q)) : LeP s x := by
  rw [itemP] at h
  split at h
  · cases ho : onceP T e s p with
    | error y => rw [ho] at h; cases h
    | ok s1 =>
      rw [ho] at h
      have h1 : LeP s s1 := by
        rw [onceP] at ho
        split at ho
        · split at ho
          · split at ho
            · cases ho
            · rw [← Except.ok.inj ho]; exact ⟨Nat.le_refl _, Nat.le_refl _, Nat.le_refl _⟩
          · split at ho
            · cases ho
            · rw [← Except.ok.inj ho]; exact ⟨Nat.le_refl _, Nat.le_refl _, Nat.le_refl _⟩
        · rw [← Except.ok.inj ho]; exact ⟨Nat.le_refl _, Nat.le_refl _, Nat.le_refl _⟩
      simp only at h
      split at h
      · cases h
      · cases ht : takeP T e 1 p with
        | error y => rw [ht] at h; cases h
        | ok y =>
          obtain ⟨w, q1⟩ := y
          rw [ht] at h
          have h2 := itemK_le h
          exact ⟨Nat.le_trans h1.1 h2.1, Nat.le_trans h1.2.1 h2.2.1, Nat.le_trans h1.2.2 h2.2.2⟩
  · cases h
theorem items_le : ∀ (f : Nat) (s : Pst) (p : Nat) (x : Pst), itemsP T e f s p = .ok x → LeP s x
  | 0, s, p, x, h => by rw [itemsP] at h; rw [← Except.ok.inj h]; exact ⟨Nat.le_refl _, Nat.le_refl _, Nat.le_refl _⟩
  | f + 1, s, p, x, h => by
    by_cases hl : p < T.length
    · rw [itemsP_succ hl] at h
      cases h1 : itemP T e s p with
      | error y => rw [h1] at h; cases h
      | ok y =>
        obtain ⟨s1, q⟩ := y
        rw [h1] at h
        simp only [itemsK] at h
        cases ht : takeP T e 5 q with
        | error y => rw [ht] at h; cases h
        | ok y =>
          obtain ⟨t, q2⟩ := y
          rw [ht] at h
          have h2 := item_le h1
          have h3 := items_le f _ _ _ h
          exact ⟨Nat.le_trans h2.1 h3.1, Nat.le_trans h2.2.1 h3.2.1, Nat.le_trans h2.2.2 h3.2.2⟩
    · rw [itemsP, if_neg hl] at h; rw [← Except.ok.inj h]; exact ⟨Nat.le_refl _, Nat.le_refl _, Nat.le_refl _⟩
theorem items_cut (hk : k ≤ T.length) : ∀ (f f' : Nat) (s : Pst) (p : Nat) (x : Pst), p ≤ k → itemsP T e f s p = .ok x → T.length + 1 ≤ f + p → itemsP (T.take k) a f' s p = .error (8, a) ∨ ∃ x', itemsP (T.take k) a f' s p = .ok x' ∧ LeP x' x
  | 0, f', s, p, x, hp, h, hf => by omega
  | f + 1, 0, s, p, x, hp, h, hf => .inr ⟨s, rfl, items_le _ _ _ _ h⟩
  | f + 1, g + 1, s, p, x, hp, h, hf => by
    have htl : (T.take k).length = k := by rw [List.length_take]; omega
    by_cases hl : p < k
    · rw [itemsP_succ (by omega)] at h
      rw [itemsP_succ (by omega)]
      cases h1 : itemP T e s p with
      | error y => rw [h1] at h; cases h
      | ok y =>
        obtain ⟨s1, q⟩ := y
        have hmono := itemP_mono h1
        rw [h1] at h
        simp only [itemsK] at h
        cases ht : takeP T e 5 q with
        | error y => rw [ht] at h; cases h
        | ok y =>
          obtain ⟨t, q2⟩ := y
          have hq2 := takeP_mono ht
          rw [ht] at h
          simp only [endK] at h
          rcases item_cut (a := a) hk s p hl s1 q h1 with ⟨h2, h3⟩ | ⟨s', h3⟩ | h3
          · rw [h3]
            simp only [itemsK]
            rcases take_cut (a := a) hk h2 5 (by decide) t q2 ht with ⟨h4, h5⟩ | h5
            · rw [h5]; exact items_cut hk f g s1 q2 x h4 h (by omega)
            · rw [h5]; exact .inl rfl
          · rw [h3]
            simp only [itemsK]
            left
            rw [takeP, nxt_cut (e := e) hk, if_neg (Nat.lt_irrefl k), if_neg (by simp)]
            rfl
          · rw [h3]; exact .inl rfl
    · right
      exact ⟨s, by rw [itemsP, if_neg (by omega)], items_le _ _ _ _ h⟩
end
/-- A fault's code is no zero. -/
def E0 {α : Type} (r : Except (Int × Int) α) : Prop := ∀ f, r = .error f → f.1 ≠ 0
theorem E0.ok {α : Type} (x : α) : E0 (.ok x) := fun f h => by cases h
theorem E0.err {α : Type} {c a : Int} (h : c ≠ 0) : E0 (.error (c, a) : Except (Int × Int) α) := fun f hf => by cases hf; exact h
theorem E0.same {α β : Type} {f : Int × Int} (h : E0 (.error f : Except (Int × Int) α)) : E0 (.error f : Except (Int × Int) β) := fun g hg => by cases hg; exact h f rfl
section
variable (T : List Tk) (e : Int)
theorem take_E0 (k : Int) (p : Nat) : E0 (takeP T e k p) := by
  rw [takeP]; split
  · exact .ok _
  · exact .err (by decide)
theorem word_E0 (ws : List ByteArray) (p : Nat) : E0 (wordP T e ws p) := by
  rw [wordP]; split
  · exact take_E0 T e 1 p
  · exact .err (by decide)
theorem atomT_E0 {w : ByteArray} {f : ByteArray → ByteArray} {r : Res ByteArray} (h : E0 r) : E0 (atomT w f r) := by
  cases r with
  | error x => exact h.same
  | ok x => exact .ok _
theorem atom_E0 (p : Nat) : E0 (atomP T e p) := by
  rw [atomP]
  have h := word_E0 T e atomWords p
  cases hw : wordP T e atomWords p with
  | error x => rw [hw] at h; exact h.same
  | ok x =>
    obtain ⟨w, q⟩ := x
    simp only
    unfold atomK
    split
    · exact .ok _
    split
    · exact .ok _
    split
    · exact atomT_E0 (take_E0 T e _ _)
    split
    · exact atomT_E0 (take_E0 T e _ _)
    split
    · exact atomT_E0 (take_E0 T e _ _)
    · exact .ok _
theorem kidsL_E0 {one : Nat → Res Cd} (ho : ∀ p, E0 (one p)) {w : ByteArray} : ∀ (f : Nat) (acc : List Cd) (p : Nat), E0 (kidsL T e one w f acc p)
  | 0, acc, p => .ok _
  | f + 1, acc, p => by
    rw [kidsL]
    split
    · have h := ho (p + 1)
      cases h1 : one (p + 1) with
      | error x => rw [h1] at h; exact h.same
      | ok x => obtain ⟨c, q⟩ := x; exact kidsL_E0 ho f _ q
    · exact .ok _
theorem kidsP_E0 {one : Nat → Res Cd} (ho : ∀ p, E0 (one p)) {w : ByteArray} {kind : Int} (p : Nat) : E0 (kidsP T e kind w one p) := by
  rw [kidsP]
  have h := ho p
  cases h1 : one p with
  | error x => rw [h1] at h; exact h.same
  | ok x =>
    obtain ⟨c, q⟩ := x
    simp only
    have h2 := kidsL_E0 T e ho (w := w) (T.length + 1 - q) [c] q
    cases h3 : kidsL T e one w (T.length + 1 - q) [c] q with
    | error x => rw [h3] at h2; exact h2.same
    | ok x =>
      obtain ⟨l, r⟩ := x
      simp only
      split <;> exact .ok _
theorem notN_E0 : ∀ (n p : Nat), E0 (notN T e n p)
  | 0, p => by
    rw [notN]
    split
    · exact .err (by decide)
    split
    · exact .err (by decide)
    · exact atom_E0 T e p
  | n + 1, p => by
    rw [notN]
    split
    · have h := notN_E0 n (p + 1)
      cases h1 : notN T e n (p + 1) with
      | error x => rw [h1] at h; exact h.same
      | ok x => exact .ok _
    split
    · have h := kidsP_E0 T e (kidsP_E0 T e (notN_E0 n) (w := wAnd) (kind := 5)) (w := wOr) (kind := 6) (p + 1)
      rw [orP]
      cases h1 : kidsP T e 6 wOr (kidsP T e 5 wAnd (notN T e n)) (p + 1) with
      | error x => rw [h1] at h; exact h.same
      | ok x =>
        obtain ⟨c, q⟩ := x
        show E0 (closeK c (takeP T e 4 q))
        have h2 := take_E0 T e 4 q
        cases h3 : takeP T e 4 q with
        | error x => rw [h3] at h2; exact h2.same
        | ok x => exact .ok _
    · exact atom_E0 T e p
theorem cond_E0 (p : Nat) : E0 (condP T e p) := kidsP_E0 T e (kidsP_E0 T e (notN_E0 T e 30)) p
theorem shareG_E0 {f : Nat} {F : ByteArray → Sh} (h : ∀ s p, E0 (shareL T e f s p)) {r : Res ByteArray} (hr : E0 r) : E0 (shareG T e f F r) := by
  cases r with
  | error x => exact hr.same
  | ok x => exact h _ _
theorem shareL_E0 : ∀ (f : Nat) (s : Sh) (p : Nat), E0 (shareL T e f s p)
  | 0, s, p => .ok _
  | f + 1, s, p => by
    by_cases hi : isP T e [wMethod, wHeader, wCreds] p = true
    · rw [shareL_succ _ _ _ _ _ hi.symm]
      have h := take_E0 T e 1 p
      cases h1 : takeP T e 1 p with
      | error x => rw [h1] at h; exact h.same
      | ok x =>
        obtain ⟨w, q⟩ := x
        simp only [shareK]
        split
        · rw [shareM_G]; exact shareG_E0 T e (shareL_E0 f) (take_E0 T e 1 q)
        split
        · rw [shareH_G]; exact shareG_E0 T e (shareL_E0 f) (take_E0 T e 1 q)
        · exact shareL_E0 f _ q
    · rw [shareL, if_neg hi]; exact .ok _
theorem share_E0 (p : Nat) : E0 (shareP T e p) := by
  rw [shareP]
  have h := take_E0 T e 2 p
  cases h1 : takeP T e 2 p with
  | error x => rw [h1] at h; exact h.same
  | ok x => obtain ⟨o, q⟩ := x; exact shareL_E0 T e _ _ q
theorem itemK_E0 (s : Pst) (w : ByteArray) (p : Nat) : E0 (itemK T e s w p) := by
  by_cases h0 : w = wCsp
  · rw [itemK_csp h0]
    have h := take_E0 T e 2 p
    cases h1 : takeP T e 2 p with
    | error x => rw [h1] at h; exact h.same
    | ok x => exact .ok _
  by_cases h1 : w = wShare
  · rw [itemK_share h0 h1]
    have h := share_E0 T e p
    cases h1 : shareP T e p with
    | error x => rw [h1] at h; exact h.same
    | ok x => exact .ok _
  by_cases h2 : w = wMixed
  · rw [itemK_mixed h0 h1 h2]
    have h := word_E0 T e [wBlock, wUpgrade, wAllow] p
    cases h1 : wordP T e [wBlock, wUpgrade, wAllow] p with
    | error x => rw [h1] at h; exact h.same
    | ok x => exact .ok _
  by_cases h3 : w = wDefault
  · rw [itemK_default h0 h1 h2 h3]
    have h := word_E0 T e [wAllow, wDeny] p
    cases h1 : wordP T e [wAllow, wDeny] p with
    | error x => rw [h1] at h; exact h.same
    | ok x => exact .ok _
  rw [itemK_rule h0 h1 h2 h3]
  have h := word_E0 T e [wIf] p
  cases h1 : wordP T e [wIf] p with
  | error x => rw [h1] at h; exact h.same
  | ok x =>
    obtain ⟨t, q⟩ := x
    simp only [ifK]
    have h := cond_E0 T e q
    cases h1 : condP T e q with
    | error x => rw [h1] at h; exact h.same
    | ok x => exact .ok _
theorem once_E0 (s : Pst) (p : Nat) : E0 (onceP T e s p) := by
  rw [onceP]
  repeat' split
  all_goals first | exact .ok _ | exact .err (by decide)
theorem item_E0 (s : Pst) (p : Nat) : E0 (itemP T e s p) := by
  rw [itemP]
  split
  · have h := once_E0 T e s p
    cases h1 : onceP T e s p with
    | error x => rw [h1] at h; exact h.same
    | ok s1 =>
      simp only
      split
      · exact .err (by decide)
      · have h := take_E0 T e 1 p
        cases h1 : takeP T e 1 p with
        | error x => rw [h1] at h; exact h.same
        | ok x => obtain ⟨w, q⟩ := x; exact itemK_E0 T e _ w q
  · exact .err (by decide)
theorem items_E0 : ∀ (f : Nat) (s : Pst) (p : Nat), E0 (itemsP T e f s p)
  | 0, s, p => .ok _
  | f + 1, s, p => by
    rw [itemsP]
    split
    · have h := item_E0 T e s p
      cases h1 : itemP T e s p with
      | error x => rw [h1] at h; exact h.same
      | ok x =>
        obtain ⟨s1, q⟩ := x
        simp only
        have h := take_E0 T e 5 q
        cases h1 : takeP T e 5 q with
        | error x => rw [h1] at h; exact h.same
        | ok x => obtain ⟨t, r⟩ := x; exact items_E0 f s1 r
    · exact .ok _
end
theorem pol_code {x : ByteArray} {f : Int × Int} (h : polA x = .error f) : f.1 ≠ 0 := by
  rw [polA, polT] at h
  split at h
  · exact items_E0 _ _ _ _ _ f h
  · rename_i hc; cases h; exact hc
theorem tok_place {bs : List Int} : ∀ {e : Nat} {ts : List Tk}, Placed bs e ts → ∀ t ∈ ts, ∃ a : Nat, t.f1 = (a : Int)
  | _, [], _, t, h => by cases h
  | _, x :: r, ⟨hok, a, ha, _, _, hp⟩, t, h => by
    rcases List.mem_cons.1 h with rfl | h
    · exact ⟨a, ha⟩
    · exact tok_place hp t h
theorem awake_b4 : Ev (fun k => (parapetlaw20_awake.f k).bind fun t => some t) true := Ev.bind awake_ev (Ev.const fun _ => rfl)
theorem Ev.of_eq' {α : Type} {g g' : Nat → Option α} {r : α} (h : ∀ k, g k = g' k) (e : Ev g' r) : Ev g r := by
  rw [show g = g' from funext h]; exact e
theorem polT_good {x : ByteArray} {ts : List Tk} (h : tokM x = (ts, 0, 0)) : polA x = polP ts x.size := by rw [polA, h]; rfl
theorem cuts_j0 (s : ByteArray) (a1 : Int) (hs : s.size ≤ 4000) {ts : List Tk} (ht : tokM s = (ts, 0, 0)) (hne : ts ≠ []) {st : Pst} (hp : polA s = .ok st) :
    Ev (fun k => parapetlaw20_ParseCuts.j0 k s a1 ts false st.csp st.shares st.mixed st.rules st.allow) true := by
  have hlen : 0 < ts.length := List.length_pos_iff.2 hne
  obtain ⟨hsm, hv, hsz⟩ : sm 0 .sk [] (bytesOf s) = .good ts ∧ V (bytesOf s) ∧ s.size ≤ 3000 := by
    rcases tokM_cases s with ⟨T, h1, h2, h3, h4⟩ | ⟨j, h1, h2⟩ | ⟨h1, h2⟩
    · rw [ht] at h1; simp only [Prod.mk.injEq] at h1; rw [h1.1]; exact ⟨h2, h3, h4⟩
    · rw [ht] at h1; simp at h1
    · rw [ht] at h1; simp at h1
  have hl3 := toks_len hsm
  obtain ⟨L, hL⟩ : ∃ L : Int, L = ts.length := ⟨_, rfl⟩
  have h1 := Int.tmod_lt_of_pos a1 (show (0 : Int) < L by omega)
  have h2 := Int.lt_tmod_of_pos a1 (show (0 : Int) < L by omega)
  have hw : wrap64 (a1.tmod L + L) = a1.tmod L + L := by unfold wrap64; omega
  obtain ⟨j, hj⟩ : ∃ j : Nat, (a1.tmod L + L).tmod L = (j : Int) := ⟨_, (Int.toNat_of_nonneg (Int.tmod_nonneg L (by omega))).symm⟩
  have hjl : j < ts.length := by have := Int.tmod_lt_of_pos (a1.tmod L + L) (show (0 : Int) < L by omega); omega
  have hrd : rd_T40 ts (j : Int) = ts[j] := by simp [rd_T40, hjl]
  obtain ⟨a, ha⟩ : ∃ a : Nat, (ts[j]).f1 = (a : Int) := by
    exact tok_place (placed s ts hsm) _ (List.getElem_mem _)
  obtain ⟨hc, hal⟩ := tok_cut hsm hv hsz hjl ha
  have hP := polT_good ht
  have hC := polT_good hc
  rw [hp] at hP
  have hes : ((s.extract 0 a).size : Int) = (a : Int) := by rw [ByteArray.size_extract]; omega
  rw [hes] at hC
  have hres := items_cut (T := ts) (e := s.size) (k := j) (a := (a : Int)) (by omega) (ts.length + 1) ((ts.take j).length + 1) pst0 0 st (Nat.zero_le _) hP.symm (by omega)
  refine Ev.step (fun k => ?_) (Ev.bind (pol_ev (s.extract 0 a) (by rw [ByteArray.size_extract]; omega)) (f := fun k b => if b.2.2.2.2.2.1 = 0 then (if (b.2.2.2.1.length : Int) ≤ (st.rules.length : Int) then (if (b.1.length : Int) ≤ (st.csp.length : Int) then (if (b.2.1.length : Int) ≤ (st.shares.length : Int) then ((parapetlaw20_awake.f k).bind fun t195 => (some t195)) else (some false)) else (some false)) else (some false)) else (if (b.2.2.2.2.2.1 == 8 && (b.2.2.2.2.2.2 == (a : Int))) = true then ((parapetlaw20_awake.f k).bind fun t196 => (some t196)) else (some false))) ?_)
  · rw [parapetlaw20_ParseCuts.j0, if_neg (by simp), ← hL, hw, hj, hrd, ha, if_neg (by omega), if_pos (by omega), if_pos (by omega), if_pos (by omega), if_pos (by omega), Int.toNat_natCast]
  · rcases hres with hr | ⟨x', hr, h3, h4, h5⟩
    · rw [hC, polP, hr]
      exact Ev.of_eq' (fun k => by simp [polRes]) awake_b4
    · rw [hC, polP, hr]
      exact Ev.of_eq' (fun k => by
        simp only [polRes]
        exact (if_pos trivial).trans ((if_pos (show (x'.rules.length : Int) ≤ st.rules.length by omega)).trans ((if_pos (show (x'.csp.length : Int) ≤ st.csp.length by omega)).trans (if_pos (show (x'.shares.length : Int) ≤ st.shares.length by omega))))) awake_b4
theorem parsecuts : parapetlaw20_ParseCuts.Pure := by
  intro s a1 hs0 hw
  obtain ⟨K, hK⟩ : Ev (fun k => parapetlaw20_ParseCuts.f k s a1) true := by
    unfold parapetlaw20_ParseCuts.f
    by_cases h1 : (s.size : Int) > 4000
    · exact Ev.of_eq' (fun k => if_pos h1) awake_b4
    · refine Ev.of_eq' (fun k => if_neg h1) ?_
      have hT : ∀ ts a b c d e, Ev (fun k => parapetlaw20_ParseCuts.j0 k s a1 ts true a b c d e) true := fun ts a b c d e => Ev.step (fun k => by simp only [parapetlaw20_ParseCuts.j0, if_true]) awake_b4
      refine Ev.bind (pol_ev s (by omega)) (Ev.bind (tokens_ev s) ?_)
      cases hp : polA s with
      | error f =>
        simp only [polRes]
        obtain ⟨f1, f2⟩ := f
        by_cases hf : f1 = 0
        · -- no fault has code 0
          exfalso
          exact pol_code hp hf
        · exact Ev.of_eq' (fun k => if_neg hf) (hT _ _ _ _ _ _)
      | ok st =>
        simp only [polRes]
        refine Ev.of_eq' (fun k => if_pos trivial) ?_
        rcases tokM_cases s with ⟨ts, h2, h3, h4, h5⟩ | ⟨j, h2, h3⟩ | ⟨h2, h3⟩
        · rw [h2]
          refine Ev.of_eq' (fun k => if_pos rfl) ?_
          by_cases hne : ts = []
          · subst hne
            exact hT _ _ _ _ _ _
          · have hl : ((ts.length : Int) == 0) = false := by
              have : 0 < ts.length := List.length_pos_iff.2 hne
              simp; exact hne
            refine Ev.of_eq' (fun k => congrArg (fun b => parapetlaw20_ParseCuts.j0 k s a1 ts b st.csp st.shares st.mixed st.rules st.allow) hl) ?_
            exact cuts_j0 s a1 (by omega) h2 hne hp
        · exfalso; rw [polA, h2] at hp; simp [polT] at hp
        · exfalso; rw [polA, h2] at hp; simp [polT] at hp
  exact ⟨K, hK K (Nat.le_refl _)⟩
end Go.Proofs.YtngedmioeodmfaaDoor.Pu
