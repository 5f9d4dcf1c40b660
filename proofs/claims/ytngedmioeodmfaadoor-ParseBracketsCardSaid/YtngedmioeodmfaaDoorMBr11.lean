/- 8 texts of the proof, put together, less what is not used; what a tool printed stands among them. -/
import Derived.KernelRfl
import Derived.Test.YtngedmioeodmfaaDoorMBr10
namespace Go.Proofs.YtngedmioeodmfaaDoor.Pu
open Go.RowKit Go.Proofs.YtngedmioeodmfaaDoor.Pr Go.Proofs.YtngedmioeodmfaaDoorW.PrintWords Go.Proofs.YtngedmioeodmfaaDoor.Lx
open Go.Proofs.YtngedmioeodmfaaDoor.Ps hiding Tk
set_option linter.unusedVariables false
set_option linter.unusedSimpArgs false
theorem text_le {t : Tk} {bs : List Int} {a : Nat} {rest : List Int} (h : bs.drop a = wof t ++ rest) : t.f2.size ≤ bs.length := by
  have h1 := congrArg List.length h
  rw [List.length_drop, List.length_append] at h1
  have h2 : t.f2.size ≤ (wof t).length := by
    unfold wof
    split
    · have := escL_ge (bytesOf t.f2)
      rw [bytesOf_length] at this
      simp only [List.length_cons, List.length_append]; omega
    · rw [bytesOf_length]; exact Nat.le_refl _
  omega
theorem toks_len {x : ByteArray} {ts : List Tk} (h : sm 0 .sk [] (bytesOf x) = .good ts) : ts.length ≤ x.size := by
  have := (placed x ts h).len (Nat.zero_le _)
  rw [bytesOf_length] at this; omega
theorem toks_text {x : ByteArray} {ts : List Tk} (h : sm 0 .sk [] (bytesOf x) = .good ts) : ∀ t ∈ ts, t.f2.size ≤ x.size := by
  intro t ht
  obtain ⟨_, a, rest, hd⟩ := (placed x ts h).all t ht
  have := text_le hd
  rw [bytesOf_length] at this; exact this
theorem okTk_tokM (x : ByteArray) : okTk (tokM x).1 = true := by
  rcases tokM_cases x with ⟨ts, h, hs, hv, hl⟩ | ⟨j, h, hj⟩ | ⟨h, hl⟩
  · rw [h]
    exact okTk_iff.2 ⟨by show ts.length ≤ 1000000; have := toks_len hs; omega, fun t ht => by have := toks_text hs t ht; omega⟩
  · rw [h]; rfl
  · rw [h]; rfl
/-- What parse.Policy answers. -/
def polA (x : ByteArray) : Except (Int × Int) Pst := polT x.size (tokM x)
theorem pol_ev (x : ByteArray) (hx : x.size ≤ 1000000) : Ev (fun k => parse_Policy.f k x) (polRes (polA x)) := by
  unfold parse_Policy.f
  simp only [if_pos hx]
  refine Ev.bind (tokens_ev x) ?_
  simp only [okTk_tokM, if_true]
  exact Ev.const fun k => rfl
/-- Of a text with tokens. -/
theorem polA_good {x : ByteArray} (h : x.size ≤ 3000) (hv : V (bytesOf x)) {ts : List Tk} (hs : rs 0 .sk [] (bytesOf x) = .go .sk ts) : polA x = polP ts x.size := by
  have h2 : sm 0 .sk [] (bytesOf x) = .good ts := by rw [sm_rs, hs]; rfl
  rw [polA, tokM_of x h hv h2]
  rfl
def awakeT : ByteArray := ⟨#[97, 108, 108, 111, 119, 32, 105, 102, 32, 110, 111, 116, 32, 104, 111, 115, 116, 32, 34, 97, 34, 32, 97, 110, 100, 32, 40, 99, 114, 101, 100, 115, 32, 111, 114, 32, 99, 111, 114, 115, 41, 59]⟩
theorem awake_ev : Ev (fun k => parapetlaw20_awake.f k) true := by
  unfold parapetlaw20_awake.f
  refine Ev.bind (pol_ev awakeT (by decide)) ?_
  have h : polRes (polA awakeT) = ([], [], wBlock, [⟨true, ⟨5, ⟨⟨#[]⟩, ⟨#[]⟩⟩, [⟨4, ⟨⟨#[]⟩, ⟨#[]⟩⟩, [⟨3, ⟨wHost, ⟨#[97]⟩⟩, []⟩]⟩, ⟨6, ⟨⟨#[]⟩, ⟨#[]⟩⟩, [⟨3, ⟨wCreds, ⟨#[]⟩⟩, []⟩, ⟨3, ⟨wCors, ⟨#[]⟩⟩, []⟩]⟩]⟩⟩], false, 0, 0) := by kernel_rfl
  rw [h]
  refine Ev.const fun k => ?_
  kernel_rfl
end Go.Proofs.YtngedmioeodmfaaDoor.Pu
namespace Go.Proofs.YtngedmioeodmfaaDoor.Pu
open Go.RowKit Go.Proofs.YtngedmioeodmfaaDoor.Pr Go.Proofs.YtngedmioeodmfaaDoorW.PrintWords Go.Proofs.YtngedmioeodmfaaDoor.Lx
open Go.Proofs.YtngedmioeodmfaaDoor.Ps hiding Tk
set_option linter.unusedVariables false
set_option linter.unusedSimpArgs false
/-- A text whose tokens end with it. -/
def Lx1 (l : List Int) (ts : List Tk) : Prop := rs 0 .sk [] l = .go .sk ts
theorem Lx1.nil : Lx1 [] [] := rfl
theorem Lx1.app {a b : List Int} {ta tb : List Tk} (ha : Lx1 a ta) (hb : Lx1 b tb) : Lx1 (a ++ b) (ta ++ tb.map (upT a.length)) := by
  unfold Lx1 at *
  rw [rs_app_go ha b, Nat.zero_add]
  have h := rs_up a.length ta b 0 .sk []
  rw [hb] at h
  simpa [upS, upO] using h
theorem key_up (n : Nat) (ts : List Tk) : (ts.map (upT n)).map key = ts.map key := by
  rw [List.map_map]; exact List.map_congr_left (fun t _ => rfl)
abbrev Ky := Int × ByteArray
/-- From place p on stand tokens of these keys. -/
def KA (T : List Tk) (p : Nat) (ws : List Ky) : Prop := ws <+: (T.drop p).map key
theorem KA.head {T : List Tk} {p : Nat} {w : Ky} {ws : List Ky} (h : KA T p (w :: ws)) (e : Int) : p < T.length ∧ (nxt T e p).f0 = w.1 ∧ (nxt T e p).f2 = w.2 ∧ KA T (p + 1) ws := by
  obtain ⟨rest, h⟩ := h
  have hp : p < T.length := by
    apply Classical.byContradiction
    intro hn
    rw [List.drop_eq_nil_of_le (by omega)] at h
    cases h
  rw [List.drop_eq_getElem_cons hp, List.map_cons, List.cons_append] at h
  injection h with h1 h2
  refine ⟨hp, ?_, ?_, ⟨rest, h2⟩⟩
  · rw [nxt, dif_pos hp, h1]; rfl
  · rw [nxt, dif_pos hp, h1]; rfl
theorem KA.all {T : List Tk} {ws : List Ky} (h : T.map key = ws) : KA T 0 ws := by
  rw [KA, List.drop_zero, h]; exact List.prefix_refl _
theorem KA.len {T : List Tk} {p : Nat} {ws : List Ky} (h : KA T p ws) : ws.length ≤ T.length - p := by
  have := h.length_le
  rw [List.length_map, List.length_drop] at this; exact this
theorem KA.weak {T : List Tk} {p : Nat} {ws vs : List Ky} (h : KA T p (ws ++ vs)) : KA T p ws := List.IsPrefix.trans ⟨vs, rfl⟩ h
theorem KA.drop {T : List Tk} {p : Nat} : ∀ {ws vs : List Ky}, KA T p (ws ++ vs) → KA T (p + ws.length) vs
  | [], vs, h => h
  | w :: ws, vs, h => by
    have h2 := (KA.head (w := w) (ws := ws ++ vs) h 0).2.2.2
    have := KA.drop h2
    rw [List.length_cons]
    rw [show p + (ws.length + 1) = p + 1 + ws.length by omega]; exact this
section
variable {T : List Tk} {e : Int} {p : Nat} {ws : List Ky}
theorem KA.is {k : Int} {t : ByteArray} (h : KA T p ((k, t) :: ws)) (l : List ByteArray) : isP T e l p = (decide (k = 1) && memB t l) := by
  obtain ⟨_, h1, h2, _⟩ := h.head e
  rw [isP, h1, h2]
theorem KA.take {k : Int} {t : ByteArray} (h : KA T p ((k, t) :: ws)) : takeP T e k p = .ok (t, p + 1) := by
  obtain ⟨_, h1, h2, _⟩ := h.head e
  rw [takeP, if_pos h1, h2]
theorem KA.next {w : Ky} (h : KA T p (w :: ws)) : KA T (p + 1) ws := (h.head 0).2.2.2
theorem KA.word {t : ByteArray} {l : List ByteArray} (h : KA T p ((1, t) :: ws)) (hm : memB t l = true) : wordP T e l p = .ok (t, p + 1) := by
  rw [wordP, h.is, hm, if_pos (by rfl), h.take]
/-- Kids: one, and no word that goes on. -/
theorem kids_one {one : Nat → Res Cd} {kind : Int} {w : ByteArray} {c : Cd} {q : Nat} (h1 : one p = .ok (c, q)) (h2 : isP T e [w] q = false) : kidsP T e kind w one p = .ok (c, q) := by
  rw [kidsP, h1]
  simp only
  have : kidsL T e one w (T.length + 1 - q) [c] q = .ok ([c], q) := by
    cases T.length + 1 - q with
    | zero => rfl
    | succ f => rw [kidsL, h2]; rfl
  rw [this]
  rfl
theorem or_one {one : Nat → Res Cd} {c : Cd} {q : Nat} (h1 : one p = .ok (c, q)) (h2 : isP T e [wAnd] q = false) (h3 : isP T e [wOr] q = false) : orP T e one p = .ok (c, q) :=
  kids_one (kids_one h1 h2) h3
/-- An item whose word may stand more than once, where there is room. -/
theorem item_free {st : Pst} {w : ByteArray} (h : KA T p ((1, w) :: ws)) (hw : w ∈ [wCsp, wShare, wAllow, wDeny]) (hi : st.items < 60) : itemP T e st p = itemK T e { st with items := st.items + 1 } w (p + 1) := by
  have h1 : isP T e [wCsp, wShare, wMixed, wDefault, wAllow, wDeny] p = true := by
    rw [h.is]
    simp only [List.mem_cons, List.not_mem_nil, or_false] at hw
    rcases hw with rfl | rfl | rfl | rfl <;> decide +kernel
  have h2 : isP T e [wMixed, wDefault] p = false := by
    rw [h.is]
    simp only [List.mem_cons, List.not_mem_nil, or_false] at hw
    rcases hw with rfl | rfl | rfl | rfl <;> decide +kernel
  rw [itemP_none h1.symm h2.symm, restP, if_neg (by omega), h.take]
end
end Go.Proofs.YtngedmioeodmfaaDoor.Pu
namespace Go.Proofs.YtngedmioeodmfaaDoor.Pr
open Go.RowKit Go.Proofs.YtngedmioeodmfaaDoorW.PrintWords Go.Proofs.YtngedmioeodmfaaDoorW.PrintLast Go.Proofs.YtngedmioeodmfaaDoorW.PrintMore
attribute [local go_sem] max2_int min2_int max_two min_two max_three min_three max_four min_four   -- for this text's walks alone
set_option linter.unusedVariables false
set_option linter.unusedSimpArgs false
attribute [local go_sem high] eqA30
end Go.Proofs.YtngedmioeodmfaaDoor.Pr
namespace Go.Proofs.YtngedmioeodmfaaDoor.Pu
open Go.RowKit Go.Proofs.YtngedmioeodmfaaDoor.Pr Go.Proofs.YtngedmioeodmfaaDoorW.PrintWords Go.Proofs.YtngedmioeodmfaaDoor.Lx
open Go.Proofs.YtngedmioeodmfaaDoor.Ps hiding Tk
set_option linter.unusedVariables false
set_option linter.unusedSimpArgs false
/-- Behind a word stands what is none. -/
theorem rs_word (i a : Nat) (acc : List Int) (ts : List Tk) (c : Int) (l : List Int) (h : pWord c = false) : rs i (.wd a acc) ts (c :: l) = rs i .sk (ts ++ [⟨1, a, strOfNums acc⟩]) (c :: l) := by
  rw [rs, rs]
  have : step i c (.wd a acc) ts = step i c .sk (ts ++ [⟨1, a, strOfNums acc⟩]) := by
    simp only [step, h, Bool.false_eq_true, if_false]
  rw [this]
theorem Lx1.word {w : List Int} {acc : List Int} (hw : rs 0 .sk [] w = .go (.wd 0 acc) []) {c : Int} {l : List Int} (hc : pWord c = false) {tl : List Tk} (hl : Lx1 (c :: l) tl) : Lx1 (w ++ c :: l) (⟨1, 0, strOfNums acc⟩ :: tl.map (upT w.length)) := by
  unfold Lx1 at *
  rw [rs_app_go hw (c :: l), Nat.zero_add, rs_word _ _ _ _ _ _ hc]
  have h := rs_up w.length [⟨1, 0, strOfNums acc⟩] (c :: l) 0 .sk []
  rw [hl] at h
  simpa [upS, upO] using h
def closeB : ByteArray := ⟨#[41]⟩
def semiB : ByteArray := ⟨#[59]⟩
theorem kids_err {T : List Tk} {e : Int} {one : Nat → Res Cd} {kind : Int} {w : ByteArray} {p : Nat} {x : Int × Int} (h : one p = .error x) : kidsP T e kind w one p = .error x := by
  rw [kidsP, h]
end Go.Proofs.YtngedmioeodmfaaDoor.Pu
namespace Go.Proofs.YtngedmioeodmfaaDoor.Pu
open Go.RowKit Go.Proofs.YtngedmioeodmfaaDoor.Pr Go.Proofs.YtngedmioeodmfaaDoorW.PrintWords Go.Proofs.YtngedmioeodmfaaDoor.Lx
open Go.Proofs.YtngedmioeodmfaaDoor.Ps hiding Tk
set_option linter.unusedVariables false
set_option linter.unusedSimpArgs false
/-- The same, or too deep. -/
def OrDeep {α : Type} (r r' : Res α) : Prop := r' = r ∨ ∃ a, r' = .error (2, a)
theorem OrDeep.refl {α : Type} (r : Res α) : OrDeep r r := .inl rfl
section
variable {T : List Tk} {e : Int}
theorem kidsL_deep {one one' : Nat → Res Cd} {w : ByteArray} (h : ∀ p r, one p = .ok r → OrDeep (.ok r) (one' p)) : ∀ (f : Nat) (acc : List Cd) (p : Nat) (r : List Cd × Nat), kidsL T e one w f acc p = .ok r → OrDeep (.ok r) (kidsL T e one' w f acc p)
  | 0, acc, p, r, hr => .inl hr
  | f + 1, acc, p, r, hr => by
    rw [kidsL] at hr ⊢
    by_cases hi : isP T e [w] p = true
    · rw [if_pos hi] at hr ⊢
      cases ho : one (p + 1) with
      | error x => rw [ho] at hr; cases hr
      | ok x =>
        obtain ⟨c, q⟩ := x
        rw [ho] at hr
        rcases h _ _ ho with h2 | ⟨a, h2⟩
        · rw [h2]; exact kidsL_deep h f _ _ r hr
        · rw [h2]; exact .inr ⟨a, rfl⟩
    · rw [if_neg hi] at hr ⊢; exact .inl hr
theorem kidsP_deep {one one' : Nat → Res Cd} {w : ByteArray} {kind : Int} (h : ∀ p r, one p = .ok r → OrDeep (.ok r) (one' p)) (p : Nat) (r : Cd × Nat) (hr : kidsP T e kind w one p = .ok r) : OrDeep (.ok r) (kidsP T e kind w one' p) := by
  rw [kidsP] at hr ⊢
  cases ho : one p with
  | error x => rw [ho] at hr; cases hr
  | ok x =>
    obtain ⟨c, q⟩ := x
    rw [ho] at hr
    simp only at hr
    rcases h _ _ ho with h2 | ⟨a, h2⟩
    · rw [h2]
      simp only
      cases hk : kidsL T e one w (T.length + 1 - q) [c] q with
      | error x => rw [hk] at hr; cases hr
      | ok y =>
        obtain ⟨l, q2⟩ := y
        rw [hk] at hr
        rcases kidsL_deep h _ _ _ _ hk with h3 | ⟨a, h3⟩
        · rw [h3]; exact .inl hr
        · rw [h3]; exact .inr ⟨a, rfl⟩
    · rw [h2]; exact .inr ⟨a, rfl⟩
theorem orP_deep {one one' : Nat → Res Cd} (h : ∀ p r, one p = .ok r → OrDeep (.ok r) (one' p)) (p : Nat) (r : Cd × Nat) (hr : orP T e one p = .ok r) : OrDeep (.ok r) (orP T e one' p) :=
  kidsP_deep (fun p r hr => kidsP_deep h p r hr) p r hr
theorem wrapNot_ok {r : Res Cd} {x : Cd × Nat} (h : wrapNot r = .ok x) : ∃ c q, r = .ok (c, q) ∧ x = (cond0 4 [c], q) := by
  cases r with
  | error y => cases h
  | ok y => obtain ⟨c, q⟩ := y; simp only [wrapNot] at h; exact ⟨c, q, rfl, (Except.ok.inj h).symm⟩
theorem closeP_ok {r : Res Cd} {x : Cd × Nat} (h : closeP T e r = .ok x) : ∃ c q, r = .ok (c, q) ∧ closeK c (takeP T e 4 q) = .ok x := by
  cases r with
  | error y => cases h
  | ok y => obtain ⟨c, q⟩ := y; exact ⟨c, q, rfl, h⟩
theorem atomK_ge {w : ByteArray} {q : Nat} {c : Cd} {r : Nat} (h : atomK T e w q = .ok (c, r)) : q ≤ r := by
  unfold atomK at h
  split at h
  · cases h; exact Nat.le_refl _
  split at h
  · cases h; exact Nat.le_refl _
  split at h
  · obtain ⟨t, ht⟩ := atomT_mono h; have := takeP_mono ht; omega
  split at h
  · obtain ⟨t, ht⟩ := atomT_mono h; have := takeP_mono ht; omega
  split at h
  · obtain ⟨t, ht⟩ := atomT_mono h; have := takeP_mono ht; omega
  · cases h; exact Nat.le_refl _
theorem atomP_gt {p : Nat} {c : Cd} {q : Nat} (h : atomP T e p = .ok (c, q)) : p < q := by
  rw [atomP] at h
  cases h1 : wordP T e atomWords p with
  | error x => rw [h1] at h; cases h
  | ok x =>
    obtain ⟨w, q1⟩ := x
    have := wordP_mono h1
    rw [h1] at h
    have := atomK_ge h
    omega
theorem notN_gt (n p : Nat) (c : Cd) (q : Nat) (h : notN T e n p = .ok (c, q)) : p < q := by
  cases n with
  | zero =>
    rw [notN] at h
    split at h
    · cases h
    split at h
    · cases h
    · exact atomP_gt h
  | succ n =>
    rw [notN] at h
    split at h
    · obtain ⟨c1, q1, h1, h2⟩ := wrapNot_ok h
      simp only [Prod.mk.injEq] at h2
      have := notN_mono T e n _ _ _ h1
      omega
    split at h
    · obtain ⟨c1, q1, h1, h2⟩ := closeP_ok h
      have := kidsP_mono (kidsP_mono (notN_mono T e n)) _ _ _ h1
      cases ht : takeP T e 4 q1 with
      | error x => rw [ht] at h2; cases h2
      | ok x =>
        obtain ⟨t, q2⟩ := x
        have := takeP_mono ht
        rw [ht] at h2
        simp only [closeK] at h2
        have h4 := Except.ok.inj h2; simp only [Prod.mk.injEq] at h4
        omega
    · exact atomP_gt h
theorem notN_deep : ∀ (m d p : Nat) (r : Cd × Nat), notN T e (m + d) p = .ok r → OrDeep (.ok r) (notN T e m p)
  | 0, d, p, r, hr => by
    rw [notN]
    by_cases hi : isP T e [wNot] p = true
    · rw [if_pos hi]; exact .inr ⟨_, rfl⟩
    · rw [if_neg hi]
      by_cases h3 : (nxt T e p).f0 = 3
      · rw [if_pos h3]; exact .inr ⟨_, rfl⟩
      · rw [if_neg h3]
        cases d with
        | zero => rw [Nat.add_zero, notN, if_neg hi, if_neg h3] at hr; exact .inl hr
        | succ d => rw [show 0 + (d + 1) = d + 1 by omega, notN, if_neg hi, if_neg h3] at hr; exact .inl hr
  | m + 1, d, p, r, hr => by
    rw [show m + 1 + d = (m + d) + 1 by omega, notN] at hr
    rw [notN]
    by_cases hi : isP T e [wNot] p = true
    · rw [if_pos hi] at hr ⊢
      obtain ⟨c, q, h1, rfl⟩ := wrapNot_ok hr
      rcases notN_deep m d _ _ h1 with h2 | ⟨a, h2⟩
      · rw [h2]; exact .inl rfl
      · rw [h2]; exact .inr ⟨a, rfl⟩
    · rw [if_neg hi] at hr ⊢
      by_cases h3 : (nxt T e p).f0 = 3
      · rw [if_pos h3] at hr ⊢
        obtain ⟨c, q, h1, h4⟩ := closeP_ok hr
        rcases orP_deep (fun p r h => notN_deep m d p r h) _ _ h1 with h2 | ⟨a, h2⟩
        · rw [h2]; exact .inl h4
        · rw [h2]; exact .inr ⟨a, rfl⟩
      · rw [if_neg h3] at hr ⊢; exact .inl hr
end
/-- Two rows of tokens that are alike for L tokens from two places on, and go on with no 'and', no 'or'. -/
structure Lok (T T' : List Tk) (e e' : Int) (p p' L : Nat) : Prop where
  k0 : ∀ j, j < L → (nxt T' e' (p' + j)).f0 = (nxt T e (p + j)).f0
  k2 : ∀ j, j < L → (nxt T' e' (p' + j)).f2 = (nxt T e (p + j)).f2
  a : isP T e [wAnd] (p + L) = false ∧ isP T e [wOr] (p + L) = false
  a' : isP T' e' [wAnd] (p' + L) = false ∧ isP T' e' [wOr] (p' + L) = false
  l' : p' + L ≤ T'.length
section
variable {T T' : List Tk} {e e' : Int} {p p' L : Nat}
theorem Lok.is (h : Lok T T' e e' p p' L) (ws : List ByteArray) {j : Nat} (hj : j < L) : isP T' e' ws (p' + j) = isP T e ws (p + j) := by
  rw [isP, isP, h.k0 j hj, h.k2 j hj]
theorem Lok.isW (h : Lok T T' e e' p p' L) {w : ByteArray} (hw : w = wAnd ∨ w = wOr) {j : Nat} (hj : j ≤ L) : isP T' e' [w] (p' + j) = isP T e [w] (p + j) := by
  by_cases hl : j < L
  · exact h.is _ hl
  · obtain rfl : j = L := by omega
    rcases hw with rfl | rfl
    · rw [h.a.1, h.a'.1]
    · rw [h.a.2, h.a'.2]
theorem Lok.take (h : Lok T T' e e' p p' L) {k : Int} {a b : Nat} {t : ByteArray} (hr : takeP T e k (p + a) = .ok (t, p + b)) (hb : b ≤ L) : takeP T' e' k (p' + a) = .ok (t, p' + b) := by
  have := takeP_mono hr
  rw [takeP] at hr ⊢
  rw [h.k0 a (by omega), h.k2 a (by omega)]
  split at hr
  · rename_i hk
    rw [if_pos hk]
    have h1 := Except.ok.inj hr
    simp only [Prod.mk.injEq] at h1
    rw [h1.1, show p' + a + 1 = p' + b by omega]
  · cases hr
/-- What reads a condition hangs on the keys alone. -/
def Loc (T T' : List Tk) (p p' L : Nat) (f f' : Nat → Res Cd) : Prop := ∀ a b c, f (p + a) = .ok (c, p + b) → a ≤ b → b ≤ L → f' (p' + a) = .ok (c, p' + b)
theorem kidsL_loc (h : Lok T T' e e' p p' L) {one one' : Nat → Res Cd} (hm : ∀ p c q, one p = .ok (c, q) → p ≤ q) (ho : Loc T T' p p' L one one') {w : ByteArray} (hw : w = wAnd ∨ w = wOr) :
    ∀ (f : Nat) (acc : List Cd) (a f' : Nat) (l : List Cd) (b : Nat), T.length + 1 ≤ f + (p + a) → L + 1 ≤ f' + a → kidsL T e one w f acc (p + a) = .ok (l, p + b) → a ≤ b → b ≤ L → kidsL T' e' one' w f' acc (p' + a) = .ok (l, p' + b)
  | 0, acc, a, f', l, b, hf, hf', hr, hab, hb => by
    have hi : isP T e [w] (p + a) = false := by
      rw [isP, nxt, dif_neg (by omega)]; rfl
    rw [kidsL] at hr
    have h1 := Except.ok.inj hr
    simp only [Prod.mk.injEq] at h1
    obtain rfl : a = b := by omega
    cases f' with
    | zero => rw [kidsL, h1.1]
    | succ f' => rw [kidsL, h.isW hw hb, hi, h1.1]; rfl
  | f + 1, acc, a, f', l, b, hf, hf', hr, hab, hb => by
    rw [kidsL] at hr
    obtain ⟨g, rfl⟩ : ∃ g, f' = g + 1 := ⟨f' - 1, by omega⟩
    rw [kidsL, h.isW hw (by omega)]
    by_cases hi : isP T e [w] (p + a) = true
    · rw [if_pos hi] at hr ⊢
      cases h1 : one (p + a + 1) with
      | error x => rw [h1] at hr; cases hr
      | ok x =>
        obtain ⟨c, q⟩ := x
        rw [h1] at hr
        have hq := hm _ _ _ h1
        simp only at hr
        have hk := kidsL_bound hm _ _ _ _ _ hr
        obtain ⟨d, rfl⟩ : ∃ d, q = p + d := ⟨q - p, by omega⟩
        have h2 := ho (a + 1) d c (by rw [← Nat.add_assoc]; exact h1) (by omega) (by omega)
        rw [show p' + a + 1 = p' + (a + 1) by omega, h2]
        simp only
        exact kidsL_loc h hm ho hw f _ d g l b (by omega) (by omega) hr (by omega) hb
    · rw [if_neg hi] at hr ⊢
      have h1 := Except.ok.inj hr
      simp only [Prod.mk.injEq] at h1
      rw [h1.1, show p' + a = p' + b by omega]
theorem kidsP_loc (h : Lok T T' e e' p p' L) {one one' : Nat → Res Cd} (hm : ∀ p c q, one p = .ok (c, q) → p ≤ q) (ho : Loc T T' p p' L one one') {w : ByteArray} (hw : w = wAnd ∨ w = wOr) (kind : Int) : Loc T T' p p' L (kidsP T e kind w one) (kidsP T' e' kind w one') := by
  intro a b c hr hab hb
  rw [kidsP] at hr ⊢
  cases h1 : one (p + a) with
  | error x => rw [h1] at hr; cases hr
  | ok x =>
    obtain ⟨c1, q⟩ := x
    rw [h1] at hr
    have hq := hm _ _ _ h1
    simp only at hr
    cases hk : kidsL T e one w (T.length + 1 - q) [c1] q with
    | error x => rw [hk] at hr; cases hr
    | ok y =>
      obtain ⟨l, q2⟩ := y
      rw [hk] at hr
      have hge := kidsL_bound hm _ _ _ _ _ hk
      have hq2 : q2 = p + b := by
        simp only at hr
        split at hr <;> (have h3 := Except.ok.inj hr; simp only [Prod.mk.injEq] at h3; exact h3.2)
      obtain ⟨d, rfl⟩ : ∃ d, q = p + d := ⟨q - p, by omega⟩
      subst hq2
      have hl := h.l'
      rw [ho a d c1 h1 (by omega) (by omega)]
      simp only
      rw [kidsL_loc h hm ho hw _ _ d (T'.length + 1 - (p' + d)) l b (by omega) (by omega) hk (by omega) hb]
      simp only at hr ⊢
      split at hr
      · rename_i hl1
        rw [if_pos hl1]
        have h3 := Except.ok.inj hr; simp only [Prod.mk.injEq] at h3
        rw [h3.1]
      · rename_i hl1
        rw [if_neg hl1]
        have h3 := Except.ok.inj hr; simp only [Prod.mk.injEq] at h3
        rw [h3.1]
theorem atom_loc (h : Lok T T' e e' p p' L) : Loc T T' p p' L (atomP T e) (atomP T' e') := by
  intro a b c hr hab hb
  have hge := atomP_mono _ _ _ hr
  rw [atomP] at hr ⊢
  cases h1 : wordP T e atomWords (p + a) with
  | error x => rw [h1] at hr; cases hr
  | ok x =>
    obtain ⟨w, q⟩ := x
    have hq := wordP_mono h1
    have hqb : q ≤ p + b := by
      rw [h1] at hr
      exact atomK_ge hr
    have h2 : wordP T' e' atomWords (p' + a) = .ok (w, p' + (a + 1)) := by
      rw [wordP] at h1 ⊢
      rw [h.is _ (by omega)]
      split at h1
      · rename_i hi
        rw [if_pos hi]
        rw [hq] at h1
        exact h.take (b := a + 1) (by rw [← Nat.add_assoc]; exact h1) (by omega)
      · cases h1
    rw [h2]
    rw [h1] at hr
    simp only at hr ⊢
    rw [hq] at hr
    unfold atomK at hr ⊢
    by_cases e0 : w = wTrue
    · rw [if_pos e0] at hr ⊢
      have h3 := Except.ok.inj hr; simp only [Prod.mk.injEq] at h3
      rw [h3.1, show p' + (a + 1) = p' + b by omega]
    rw [if_neg e0] at hr ⊢
    by_cases e1 : w = wFalse
    · rw [if_pos e1] at hr ⊢
      have h3 := Except.ok.inj hr; simp only [Prod.mk.injEq] at h3
      rw [h3.1, show p' + (a + 1) = p' + b by omega]
    rw [if_neg e1] at hr ⊢
    have hT : ∀ (k : Int) (f : ByteArray → ByteArray), atomT w f (takeP T e k (p + a + 1)) = .ok (c, p + b) → atomT w f (takeP T' e' k (p' + (a + 1))) = .ok (c, p' + b) := by
      intro k f hr
      cases ht : takeP T e k (p + a + 1) with
      | error x => rw [ht] at hr; cases hr
      | ok x =>
        obtain ⟨t, q3⟩ := x
        rw [ht] at hr
        simp only [atomT] at hr
        have h3 := Except.ok.inj hr; simp only [Prod.mk.injEq] at h3
        rw [h3.2] at ht
        rw [h.take (a := a + 1) (b := b) (by rw [← Nat.add_assoc]; exact ht) hb]
        simp only [atomT]
        rw [h3.1]
    by_cases e2 : w = wMethod
    · rw [if_pos e2] at hr ⊢; exact hT _ _ hr
    rw [if_neg e2] at hr ⊢
    by_cases e3 : w = wDest ∨ w = wScheme ∨ w = wHeader
    · rw [if_pos e3] at hr ⊢; exact hT _ _ hr
    rw [if_neg e3] at hr ⊢
    by_cases e4 : w = wHost ∨ w = wPath
    · rw [if_pos e4] at hr ⊢; exact hT _ _ hr
    rw [if_neg e4] at hr ⊢
    have h3 := Except.ok.inj hr; simp only [Prod.mk.injEq] at h3
    rw [h3.1, show p' + (a + 1) = p' + b by omega]
theorem notN_loc (h : Lok T T' e e' p p' L) : ∀ n, Loc T T' p p' L (notN T e n) (notN T' e' n)
  | 0 => by
    intro a b c hr hab hb
    have hge : p + a < p + b := notN_gt _ _ _ _ hr
    rw [notN] at hr ⊢
    rw [h.is _ (by omega), h.k0 a (by omega)]
    by_cases hi : isP T e [wNot] (p + a) = true
    · rw [if_pos hi] at hr; cases hr
    · rw [if_neg hi] at hr ⊢
      by_cases h3 : (nxt T e (p + a)).f0 = 3
      · rw [if_pos h3] at hr; cases hr
      · rw [if_neg h3] at hr ⊢; exact atom_loc h a b c hr hab hb
  | n + 1 => by
    intro a b c hr hab hb
    have hge : p + a < p + b := notN_gt _ _ _ _ hr
    rw [notN] at hr ⊢
    rw [h.is _ (by omega), h.k0 a (by omega)]
    by_cases hi : isP T e [wNot] (p + a) = true
    · rw [if_pos hi] at hr ⊢
      obtain ⟨c1, q, h1, h2⟩ := wrapNot_ok hr
      simp only [Prod.mk.injEq] at h2
      have hq := notN_gt _ _ _ _ h1
      rw [← h2.2] at h1
      rw [show p' + a + 1 = p' + (a + 1) by omega, notN_loc h n (a + 1) b c1 (by rw [← Nat.add_assoc]; exact h1) (by omega) hb]
      simp only [wrapNot]
      rw [h2.1]
    · rw [if_neg hi] at hr ⊢
      by_cases h3 : (nxt T e (p + a)).f0 = 3
      · rw [if_pos h3] at hr ⊢
        obtain ⟨c1, q, h1, h2⟩ := closeP_ok hr
        have hq : p + a + 1 ≤ q := kidsP_mono (kidsP_mono (notN_mono T e n)) _ _ _ h1
        cases ht : takeP T e 4 q with
        | error x => rw [ht] at h2; cases h2
        | ok x =>
          obtain ⟨t, q2⟩ := x
          have hq2 := takeP_mono ht
          rw [ht] at h2
          simp only [closeK] at h2
          have h4 := Except.ok.inj h2; simp only [Prod.mk.injEq] at h4
          obtain ⟨d, rfl⟩ : ∃ d, q = p + d := ⟨q - p, by omega⟩
          have h5 : orP T' e' (notN T' e' n) (p' + (a + 1)) = .ok (c1, p' + d) :=
            kidsP_loc h (kidsP_mono (notN_mono T e n)) (kidsP_loc h (notN_mono T e n) (notN_loc h n) (.inl rfl) 5) (.inr rfl) 6 (a + 1) d c1 (by rw [← Nat.add_assoc]; exact h1) (by omega) (by omega)
          rw [show p' + a + 1 = p' + (a + 1) by omega, h5]
          simp only [closeP]
          rw [h4.2] at ht
          rw [h.take (a := d) (b := b) ht hb]
          simp only [closeK]
          rw [h4.1]
      · rw [if_neg h3] at hr ⊢; exact atom_loc h a b c hr hab hb
theorem orP_loc (h : Lok T T' e e' p p' L) (n : Nat) : Loc T T' p p' L (orP T e (notN T e n)) (orP T' e' (notN T' e' n)) :=
  kidsP_loc h (kidsP_mono (notN_mono T e n)) (kidsP_loc h (notN_mono T e n) (notN_loc h n) (.inl rfl) 5) (.inr rfl) 6
end
end Go.Proofs.YtngedmioeodmfaaDoor.Pu
namespace Go.Proofs.YtngedmioeodmfaaDoor.Pu
open Go.RowKit Go.Proofs.YtngedmioeodmfaaDoor.Pr Go.Proofs.YtngedmioeodmfaaDoorW.PrintWords Go.Proofs.YtngedmioeodmfaaDoor.Lx
open Go.Proofs.YtngedmioeodmfaaDoor.Ps hiding Tk
set_option linter.unusedVariables false
set_option linter.unusedSimpArgs false
mutual
def sizeC : S49 → Nat
  | ⟨_, _, l⟩ => 1 + sizeL l
def sizeL : List (S49) → Nat
  | [] => 0
  | c :: l => sizeC c + sizeL l
end
theorem sizeC_eq (c : Cd) : sizeC c = 1 + sizeL c.f2 := by cases c; rw [sizeC]
theorem sizeL_app : ∀ a b : List Cd, sizeL (a ++ b) = sizeL a + sizeL b
  | [], b => by rw [List.nil_append, sizeL]; omega
  | c :: a, b => by rw [List.cons_append, sizeL, sizeL, sizeL_app a b]; omega
theorem sizeL_len : ∀ l : List Cd, l.length ≤ sizeL l
  | [] => Nat.zero_le _
  | c :: l => by rw [sizeL, List.length_cons, sizeC_eq]; have := sizeL_len l; omega
theorem size_mem : ∀ {l : List Cd} {c : Cd}, c ∈ l → sizeC c ≤ sizeL l
  | d :: l, c, h => by
    rw [sizeL]
    rcases List.mem_cons.1 h with rfl | h
    · omega
    · have := size_mem h; omega
section
variable {T : List Tk} {e : Int}
def Sized (f : Nat → Res Cd) : Prop := ∀ p c q, f p = .ok (c, q) → sizeC c + p ≤ q
theorem kidsL_size {one : Nat → Res Cd} (h : Sized one) {w : ByteArray} : ∀ (f : Nat) (acc : List Cd) (p : Nat) (l : List Cd) (q : Nat), kidsL T e one w f acc p = .ok (l, q) → sizeL l + p + l.length ≤ sizeL acc + q + acc.length
  | 0, acc, p, l, q, hr => by cases hr; omega
  | f + 1, acc, p, l, q, hr => by
    rw [kidsL] at hr
    split at hr
    · cases h1 : one (p + 1) with
      | error x => rw [h1] at hr; cases hr
      | ok x =>
        obtain ⟨c, q1⟩ := x
        rw [h1] at hr
        have := h _ _ _ h1
        have := kidsL_size h f _ _ _ _ hr
        rw [sizeL_app, List.length_append, List.length_singleton, sizeL, sizeL] at this
        omega
    · cases hr; omega
theorem kidsL_more {one : Nat → Res Cd} {w : ByteArray} : ∀ {f : Nat} {acc : List Cd} {p : Nat} {l : List Cd} {q : Nat}, kidsL T e one w f acc p = .ok (l, q) → acc.length ≤ l.length
  | 0, acc, p, l, q, hr => by cases hr; exact Nat.le_refl _
  | f + 1, acc, p, l, q, hr => by
    rw [kidsL] at hr
    split at hr
    · cases h1 : one (p + 1) with
      | error x => rw [h1] at hr; cases hr
      | ok x =>
        obtain ⟨c, q1⟩ := x
        rw [h1] at hr
        have := kidsL_more hr
        rw [List.length_append] at this
        omega
    · cases hr; exact Nat.le_refl _
theorem kidsP_size {one : Nat → Res Cd} (h : Sized one) {w : ByteArray} {kind : Int} : Sized (kidsP T e kind w one) := by
  intro p c q hr
  rw [kidsP] at hr
  cases h1 : one p with
  | error x => rw [h1] at hr; cases hr
  | ok x =>
    obtain ⟨c1, q1⟩ := x
    rw [h1] at hr
    have hs := h _ _ _ h1
    simp only at hr
    cases hk : kidsL T e one w (T.length + 1 - q1) [c1] q1 with
    | error x => rw [hk] at hr; cases hr
    | ok y =>
      obtain ⟨l, q2⟩ := y
      rw [hk] at hr
      have hl := kidsL_size h _ _ _ _ _ hk
      simp only [sizeL, List.length_singleton] at hl
      simp only at hr
      split at hr
      · rename_i h1l
        have h3 := Except.ok.inj hr; simp only [Prod.mk.injEq] at h3
        obtain ⟨x, rfl⟩ : ∃ x, l = [x] := List.length_eq_one_iff.1 h1l
        rw [← h3.1, ← h3.2]
        simp only [sizeL, List.length_singleton] at hl
        show sizeC x + p ≤ q2
        omega
      · rename_i h1l
        have h3 := Except.ok.inj hr; simp only [Prod.mk.injEq] at h3
        rw [← h3.1, ← h3.2, cond0, sizeC]
        have hge : 1 ≤ l.length := by
          have := kidsL_more hk
          simpa using this
        omega
theorem atomP_size : Sized (atomP T e) := by
  intro p c q h
  have hg := atomP_gt h
  have : sizeC c = 1 := by
    rw [atomP] at h
    cases h1 : wordP T e atomWords p with
    | error x => rw [h1] at h; cases h
    | ok x =>
      obtain ⟨w, q1⟩ := x
      rw [h1] at h
      simp only at h
      unfold atomK at h
      have hT : ∀ {f : ByteArray → ByteArray} {r : Res ByteArray}, atomT w f r = .ok (c, q) → sizeC c = 1 := by
        intro f r hr
        cases r with
        | error x => cases hr
        | ok x => obtain ⟨t, q3⟩ := x; simp only [atomT] at hr; have h3 := Except.ok.inj hr; simp only [Prod.mk.injEq] at h3; rw [← h3.1, sizeC, sizeL]
      split at h
      · have h3 := Except.ok.inj h; simp only [Prod.mk.injEq] at h3; rw [← h3.1, cond0, sizeC, sizeL]
      split at h
      · have h3 := Except.ok.inj h; simp only [Prod.mk.injEq] at h3; rw [← h3.1, cond0, sizeC, sizeL]
      split at h
      · exact hT h
      split at h
      · exact hT h
      split at h
      · exact hT h
      · have h3 := Except.ok.inj h; simp only [Prod.mk.injEq] at h3; rw [← h3.1, sizeC, sizeL]
  omega
theorem notN_size : ∀ n, Sized (notN T e n)
  | 0 => by
    intro p c q h
    rw [notN] at h
    split at h
    · cases h
    split at h
    · cases h
    · exact atomP_size _ _ _ h
  | n + 1 => by
    intro p c q h
    rw [notN] at h
    split at h
    · obtain ⟨c1, q1, h1, h2⟩ := wrapNot_ok h
      simp only [Prod.mk.injEq] at h2
      have := notN_size n _ _ _ h1
      rw [h2.1, h2.2, cond0, sizeC, sizeL, sizeL]; omega
    split at h
    · obtain ⟨c1, q1, h1, h2⟩ := closeP_ok h
      have := kidsP_size (kidsP_size (notN_size n)) _ _ _ h1
      cases ht : takeP T e 4 q1 with
      | error x => rw [ht] at h2; cases h2
      | ok x =>
        obtain ⟨t, q2⟩ := x
        have := takeP_mono ht
        rw [ht] at h2
        simp only [closeK] at h2
        have h4 := Except.ok.inj h2; simp only [Prod.mk.injEq] at h4
        rw [← h4.1]; omega
    · exact atomP_size _ _ _ h
theorem condP_size : Sized (condP T e) := kidsP_size (kidsP_size (notN_size 30))
end
theorem texts_l (l : List ByteArray) (hl : l.length ≤ 1000000) : ∀ (m i : Nat), i + m = l.length → Ev (fun k => parapetref19_SameTexts.l0 k l l (i : Int)) true
  | 0, i, h => by
    refine Ev.step (f := fun _ => some true) (fun k => by rw [parapetref19_SameTexts.l0, if_neg (by omega)]) (Ev.const fun _ => rfl)
  | m + 1, i, h => by
    refine Ev.step (fun k => ?_) (texts_l l hl m (i + 1) (by omega))
    rw [parapetref19_SameTexts.l0, if_pos (by omega), if_pos (by omega), if_pos (by omega), if_pos rfl, show wrap64 ((i : Int) + 1) = ((i + 1 : Nat) : Int) by unfold wrap64; omega]
theorem texts_same (l : List ByteArray) (hl : l.length ≤ 1000000) : Ev (fun k => parapetref19_SameTexts.f k l l) true := by
  unfold parapetref19_SameTexts.f
  simp only [if_true]
  exact texts_l l hl l.length 0 (by omega)
def sameC (k : Nat) (c : Cd) : Option Bool := parapetref19_SameCond.f k c.f0 c.f1.f0 c.f1.f1 c.f2 c.f0 c.f1.f0 c.f1.f1 c.f2
theorem rd_mem {l : List Cd} {i : Nat} (h : i < l.length) : rd_T49 l (i : Int) ∈ l := by
  have : rd_T49 l (i : Int) = l[i] := by simp [rd_T49, h]
  rw [this]; exact List.getElem_mem h
theorem cond_same : ∀ (n : Nat) (c : Cd), sizeC c ≤ n → sizeC c ≤ 1000000 → Ev (fun k => sameC k c) true
  | 0, c, h, _ => by rw [sizeC_eq] at h; omega
  | n + 1, c, h, hb => by
    rw [sizeC_eq] at h hb
    have hlen := sizeL_len c.f2
    have loop : ∀ (m i : Nat), i + m = c.f2.length → Ev (fun k => parapetref19_SameCond.l0 k i c.f0 c.f1.f0 c.f1.f1 c.f2 c.f0 c.f1.f0 c.f1.f1 c.f2) true := by
      intro m
      induction m with
      | zero =>
        intro i hi
        refine Ev.step (f := fun _ => some true) (fun k => by rw [parapetref19_SameCond.l0, if_neg (by omega)]) (Ev.const fun _ => rfl)
      | succ m ih =>
        intro i hi
        have hm := size_mem (rd_mem (l := c.f2) (i := i) (by omega))
        refine Ev.step (fun k => ?_) (Ev.bind (cond_same n (rd_T49 c.f2 (i : Int)) (by omega) (by omega)) (f := fun k t => if t = true then parapetref19_SameCond.l0 k ((i + 1 : Nat) : Int) c.f0 c.f1.f0 c.f1.f1 c.f2 c.f0 c.f1.f0 c.f1.f1 c.f2 else some false) ?_)
        · rw [parapetref19_SameCond.l0, if_pos (by omega), if_pos (by omega), if_pos (by omega), show wrap64 ((i : Int) + 1) = ((i + 1 : Nat) : Int) by unfold wrap64; omega]
          rfl
        · simp only [if_true]; exact ih (i + 1) (by omega)
    unfold sameC
    refine Ev.step (f := fun k => parapetref19_SameCond.j0 k false c.f0 c.f1.f0 c.f1.f1 c.f2 c.f0 c.f1.f0 c.f1.f1 c.f2) (fun k => ?_) ?_
    · rw [parapetref19_SameCond.f, if_pos rfl]
      simp
    · exact Ev.step (fun k => by rw [parapetref19_SameCond.j0, if_neg (by simp)]; rfl) (loop c.f2.length 0 (by omega))
/-- What was read is of a size that may be. -/
structure SmallP (st : Pst) : Prop where
  c : st.csp.length ≤ 1000000
  s : st.shares.length ≤ 1000000
  r : st.rules.length ≤ 1000000
  sm : ∀ h ∈ st.shares, h.f1.length ≤ 1000000 ∧ h.f2.length ≤ 1000000
  rc : ∀ x ∈ st.rules, sizeC x.f1 ≤ 1000000
theorem Ev.all {β : Type} (l : List β) (g : β → Nat → Option Bool) (h : ∀ x ∈ l, Ev (g x) true) : ∃ K, ∀ k, K ≤ k → ∀ x ∈ l, g x k = some true := by
  induction l with
  | nil => exact ⟨0, fun k _ x hx => by cases hx⟩
  | cons a l ih =>
    obtain ⟨K1, h1⟩ := h a (List.mem_cons_self ..)
    obtain ⟨K2, h2⟩ := ih (fun x hx => h x (List.mem_cons_of_mem _ hx))
    refine ⟨max K1 K2, fun k hk x hx => ?_⟩
    rcases List.mem_cons.1 hx with rfl | hx
    · exact h1 k (by omega)
    · exact h2 k (by omega) x hx
theorem policy_same {st : Pst} (h : SmallP st) : Ev (fun k => parapetref19_SamePolicy.f k st.csp st.shares st.mixed st.rules st.allow st.csp st.shares st.mixed st.rules st.allow) true := by
  obtain ⟨K1, h1⟩ := texts_same st.csp h.c
  obtain ⟨K2, h2⟩ := Ev.all st.shares (fun x k => parapetref19_SameTexts.f k x.f1 x.f1) (fun x hx => texts_same x.f1 (h.sm x hx).1)
  obtain ⟨K3, h3⟩ := Ev.all st.shares (fun x k => parapetref19_SameTexts.f k x.f2 x.f2) (fun x hx => texts_same x.f2 (h.sm x hx).2)
  obtain ⟨K4, h4⟩ := Ev.all st.rules (fun x k => sameC k x.f1) (fun x hx => cond_same _ x.f1 (Nat.le_refl _) (h.rc x hx))
  refine ⟨max (max K1 K2) (max K3 K4), fun k hk => ?_⟩
  show (if _ then _ else _) = _
  rw [if_pos]
  rw [alike_iff]
  refine ⟨h.s, h.r, h1 k (by omega), rfl, rfl, rfl, rfl, fun i hi => ?_, fun i hi => ?_⟩
  · have hm : rd_T44 st.shares (i : Int) ∈ st.shares := by
      have : rd_T44 st.shares (i : Int) = st.shares[i] := by simp [rd_T44, hi]
      rw [this]; exact List.getElem_mem hi
    simp only [shSame, Bool.and_eq_true, decide_eq_true_eq]
    exact ⟨trivial, trivial, h2 k (by omega) _ hm, h3 k (by omega) _ hm⟩
  · have hm : rd_T51 st.rules (i : Int) ∈ st.rules := by
      have : rd_T51 st.rules (i : Int) = st.rules[i] := by simp [rd_T51, hi]
      rw [this]; exact List.getElem_mem hi
    simp only [rlSame, Bool.and_eq_true, decide_eq_true_eq]
    exact ⟨trivial, h4 k (by omega) _ hm⟩
end Go.Proofs.YtngedmioeodmfaaDoor.Pu
namespace Go.Proofs.YtngedmioeodmfaaDoor.Pu
open Go.RowKit Go.Proofs.YtngedmioeodmfaaDoor.Pr Go.Proofs.YtngedmioeodmfaaDoorW.PrintWords Go.Proofs.YtngedmioeodmfaaDoor.Lx
open Go.Proofs.YtngedmioeodmfaaDoor.Ps hiding Tk
set_option linter.unusedVariables false
set_option linter.unusedSimpArgs false
/-- A text whose last byte closes words: what runs behind it. -/
theorem rs_close {s : List Int} {st : St} {ts out : List Tk} (h : rs 0 .sk [] s = .go st ts) (hf : (st = .sk ∧ out = ts) ∨ ∃ a acc, st = .wd a acc ∧ out = ts ++ [⟨1, a, strOfNums acc⟩]) {c : Int} (hc : pWord c = false) (l : List Int) :
    rs 0 .sk [] (s ++ c :: l) = rs s.length .sk out (c :: l) := by
  rw [rs_app_go h, Nat.zero_add]
  rcases hf with ⟨rfl, rfl⟩ | ⟨a, acc, rfl, rfl⟩
  · rfl
  · rw [rs_word _ _ _ _ _ _ hc]
theorem Lx1.behind {s : List Int} {out : List Tk} {c : Int} {l : List Int} (h : rs 0 .sk [] (s ++ c :: l) = rs s.length .sk out (c :: l)) {tl : List Tk} (hl : Lx1 (c :: l) tl) : Lx1 (s ++ c :: l) (out ++ tl.map (upT s.length)) := by
  unfold Lx1 at *
  rw [h]
  have h2 := rs_up s.length out (c :: l) 0 .sk []
  rw [hl] at h2
  simpa [upS, upO] using h2
def allowL : List Int := [97, 108, 108, 111, 119, 32, 105, 102, 32]
def allowT : List Tk := [⟨1, 0, wAllow⟩, ⟨1, 6, wIf⟩]
theorem allow_lx : Lx1 allowL allowT := by unfold Lx1; kernel_rfl
/-- What is known of a text that is a condition's, when 'allow if ..;' is read. -/
theorem semi_lx {s : ByteArray} {x : ByteArray} (hx : bytesOf x = allowL ++ (bytesOf s ++ [59])) (hs : s.size ≤ 1000) {st : Pst} (hp : polA x = .ok st) :
    ∃ ts, tokM s = (ts, 0, 0) ∧ sm 0 .sk [] (bytesOf s) = .good ts ∧ V (bytesOf s) ∧
      ((polA x = polP (allowT ++ (ts ++ [(⟨5, (s.size : Int), semiB⟩ : Tk)]).map (upT 9)) x.size ∧ ∀ l, rs 0 .sk [] (bytesOf s ++ 10 :: l) = rs s.size .sk ts (10 :: l)) ∨ polA x = polP (allowT ++ ts.map (upT 9)) x.size) := by
  have hxs : x.size = s.size + 10 := by rw [← bytesOf_length, hx, List.length_append, List.length_append, bytesOf_length]; simp [allowL]; omega
  rcases tokM_cases x with ⟨T, h1, h2, h3, h4⟩ | ⟨j, h1, h2⟩ | ⟨h1, h2⟩
  · have hv : V (bytesOf s) := by
      rw [hx] at h3
      have h5 := (V_split (allowL ++ bytesOf s) 59 [] (by omega) (by omega)).1 (by simpa using h3)
      have h6 : V ([97, 108, 108, 111, 119, 32, 105, 102] ++ 32 :: bytesOf s) := h5.1
      exact ((V_split _ 32 _ (by omega) (by omega)).1 h6).2
    have hP : polA x = polP T x.size := by rw [polA, h1]; rfl
    rw [sm_rs, hx, rs_app_go allow_lx] at h2
    have hup := rs_up 9 allowT (bytesOf s ++ [59]) 0 .sk []
    have h2 : ends (0 + (allowL ++ (bytesOf s ++ [59])).length) (rs (9 + 0) (upS 9 .sk) (allowT ++ [].map (upT 9)) (bytesOf s ++ [59])) = .good T := by simpa [upS, allowL] using h2
    rw [hup] at h2
    cases hr : rs 0 .sk [] (bytesOf s) with
    | bad j =>
      rw [rs_app_bad hr] at h2
      simp [upO, ends] at h2
    | go st' ts' =>
      rw [rs_app_go hr, bytesOf_length] at h2
      simp only [Nat.zero_add] at h2
      have hgood : ∀ out, fin (0 + (bytesOf s).length) st' ts' = .good out → sm 0 .sk [] (bytesOf s) = .good out := fun out ho => by rw [sm_rs, hr]; exact ho
      have htok : ∀ out, sm 0 .sk [] (bytesOf s) = .good out → tokM s = (out, 0, 0) := fun out ho => tokM_of s (by omega) hv ho
      cases st' with
      | sk =>
        have hg := hgood ts' rfl
        refine ⟨ts', htok _ hg, hg, hv, .inl ⟨?_, fun l => by rw [← bytesOf_length]; exact rs_close hr (.inl ⟨rfl, rfl⟩) (by decide +kernel) l⟩⟩
        have : rs s.size .sk ts' [59] = .go .sk (ts' ++ [(⟨5, (s.size : Int), semiB⟩ : Tk)]) := by rw [rs]; rfl
        rw [this] at h2
        rw [hP]
        simp only [upO, ends, upS, fin] at h2
        rw [← Out.good.inj h2]
      | nt =>
        have hg := hgood ts' rfl
        refine ⟨ts', htok _ hg, hg, hv, .inr ?_⟩
        have : rs s.size .nt ts' [59] = .go .nt ts' := by rw [rs]; rfl
        rw [this] at h2
        rw [hP]
        simp only [upO, ends, upS, fin] at h2
        rw [← Out.good.inj h2]
      | wd a acc =>
        have hg := hgood (ts' ++ [⟨1, a, strOfNums acc⟩]) rfl
        refine ⟨_, htok _ hg, hg, hv, .inl ⟨?_, fun l => by rw [← bytesOf_length]; exact rs_close hr (.inr ⟨a, acc, rfl, rfl⟩) (by decide +kernel) l⟩⟩
        have : rs s.size (.wd a acc) ts' [59] = .go .sk ((ts' ++ [⟨1, a, strOfNums acc⟩]) ++ [(⟨5, (s.size : Int), semiB⟩ : Tk)]) := by rw [rs_word _ _ _ _ _ _ (by decide +kernel), rs]; rfl
        rw [this] at h2
        rw [hP]
        simp only [upO, ends, upS, fin] at h2
        rw [← Out.good.inj h2]
      | qt a acc =>
        have : rs s.size (.qt a acc) ts' [59] = .go (.qt a (acc ++ [59])) ts' := by rw [rs]; rfl
        rw [this] at h2
        simp [upO, ends, upS, fin] at h2
      | es a p acc =>
        have : rs s.size (.es a p acc) ts' [59] = .bad p := by rw [rs]; rfl
        rw [this] at h2
        simp [upO, ends] at h2
  · rw [polA, h1] at hp; simp [polT] at hp
  · rw [polA, h1] at hp; simp [polT] at hp
theorem items_done {T : List Tk} {e : Int} {f p : Nat} {st : Pst} (h : T.length ≤ p) : itemsP T e f st p = .ok st := by
  cases f with
  | zero => rfl
  | succ f => rw [itemsP, if_neg (by omega)]
/-- Of tokens with none that ends an item but the last: what was read. -/
theorem pol_ok {T : List Tk} {e : Int} {ws : List Ky} (hk : T.map key = (1, wAllow) :: (1, wIf) :: ws) (h5 : ∀ i (h : i < ws.length), ws[i].1 = 5 → i + 1 = ws.length) {st : Pst} (hp : polP T e = .ok st) :
    ∃ c q, condP T e 2 = .ok (c, q) ∧ takeP T e 5 q = .ok ((nxt T e q).f2, q + 1) ∧ q + 1 = T.length ∧ st = { pst0 with items := 1, rules := [⟨true, c⟩] } := by
  have hK := KA.all hk
  have hlen : T.length = ws.length + 2 := by have := congrArg List.length hk; simpa using this
  rw [polP, itemsP_succ (by omega), item_free hK (by simp) (by decide), itemK_rule (by decide) (by decide) (by decide) (by decide), hK.next.word (by decide)] at hp
  simp only [ifK] at hp
  cases hc : condP T e 2 with
  | error x => rw [show (0 + 1 + 1 : Nat) = 2 from rfl, hc] at hp; cases hp
  | ok x =>
    obtain ⟨c, q⟩ := x
    rw [show (0 + 1 + 1 : Nat) = 2 from rfl, hc] at hp
    simp only [ruleK, itemsK] at hp
    cases ht : takeP T e 5 q with
    | error x => rw [ht] at hp; cases hp
    | ok y =>
      obtain ⟨t, q2⟩ := y
      have hq2 := takeP_mono ht
      have hmono := condP_mono T e _ _ _ hc
      rw [ht] at hp
      simp only [endK] at hp
      have hf : (nxt T e q).f0 = 5 ∧ t = (nxt T e q).f2 := by
        rw [takeP] at ht
        split at ht
        · rename_i h; have h3 := Except.ok.inj ht; simp only [Prod.mk.injEq] at h3; exact ⟨h, h3.1.symm⟩
        · cases ht
      have hql : q < T.length := by
        apply Classical.byContradiction
        intro hn
        rw [nxt, dif_neg hn] at hf
        exact absurd hf.1 (by simp)
      have hi : (ws[q - 2]'(by omega)).1 = 5 := by
        have h2 := hf.1
        rw [nxt, dif_pos hql] at h2
        have h3 : (T.map key)[q]'(by rw [List.length_map]; exact hql) = key T[q] := List.getElem_map _
        have h4 : (T.map key)[q]'(by rw [List.length_map]; exact hql) = ws[q - 2]'(by omega) := by
          simp only [hk]
          obtain ⟨d, rfl⟩ : ∃ d, q = d + 2 := ⟨q - 2, by omega⟩
          rfl
        rw [← h4, h3]; exact h2
      have hlast := h5 (q - 2) (by omega) hi
      rw [items_done (by omega)] at hp
      refine ⟨c, q, rfl, by rw [hf.2, hq2] at ht; rw [← hf.2]; rw [hf.2]; exact ht, by omega, ?_⟩
      have := Except.ok.inj hp
      exact this.symm
theorem key_kind {ts : List Tk} (h : ∀ t ∈ ts, t.f0 ≠ 5) : ∀ i (hi : i < (ts.map key ++ [((5 : Int), semiB)]).length), ((ts.map key ++ [((5 : Int), semiB)])[i]).1 = 5 → i + 1 = (ts.map key ++ [((5 : Int), semiB)]).length := by
  intro i hi h5
  simp only [List.length_append, List.length_map, List.length_singleton] at hi ⊢
  by_cases hl : i < ts.length
  · rw [List.getElem_append_left (by rw [List.length_map]; exact hl), List.getElem_map] at h5
    exact absurd h5 (h _ (List.getElem_mem _))
  · omega
theorem KA.at_ {T : List Tk} {p : Nat} {ws : List Ky} (h : KA T p ws) (e : Int) : ∀ j (hj : j < ws.length), (nxt T e (p + j)).f0 = ws[j].1 ∧ (nxt T e (p + j)).f2 = ws[j].2 := by
  intro j hj
  have h2 : KA T (p + (ws.take j).length) (ws.drop j) := KA.drop (by rw [List.take_append_drop]; exact h)
  rw [List.length_take, Nat.min_eq_left (by omega), List.drop_eq_getElem_cons hj] at h2
  obtain ⟨_, h3, h4, _⟩ := h2.head e
  exact ⟨h3, h4⟩
theorem Lok.of {T T' : List Tk} {e e' : Int} {p p' : Nat} {ws r r' : List Ky} {v v' : Ky} (h : KA T p (ws ++ v :: r)) (h' : KA T' p' (ws ++ v' :: r')) (hv : v.1 ≠ 1) (hv' : v'.1 ≠ 1) : Lok T T' e e' p p' ws.length where
  k0 := fun j hj => by rw [(h.weak.at_ e j hj).1, (h'.weak.at_ e' j hj).1]
  k2 := fun j hj => by rw [(h.weak.at_ e j hj).2, (h'.weak.at_ e' j hj).2]
  a := by
    have := h.drop
    exact ⟨by rw [KA.is (k := v.1) (t := v.2) this]; simp [hv], by rw [KA.is (k := v.1) (t := v.2) this]; simp [hv]⟩
  a' := by
    have := h'.drop
    exact ⟨by rw [KA.is (k := v'.1) (t := v'.2) this]; simp [hv'], by rw [KA.is (k := v'.1) (t := v'.2) this]; simp [hv']⟩
  l' := by
    have h2 := (h'.drop.head (w := v') 0).1
    omega
def openB : ByteArray := ⟨#[40]⟩
/-- Brackets around. -/
theorem brackets {T : List Tk} {e : Int} {ks : List Ky} {c : Cd} : ∀ (j m p : Nat) (v : Ky) (r : List Ky), v.1 ≠ 1 → KA T p (List.replicate j (3, openB) ++ (ks ++ (List.replicate j (4, closeB) ++ v :: r))) → OrDeep (.ok (c, p + j + ks.length)) (orP T e (notN T e m) (p + j)) →
    OrDeep (.ok (c, p + j + ks.length + j)) (orP T e (notN T e (m + j)) p)
  | 0, m, p, v, r, hv, h, hd => hd
  | j + 1, m, p, v, r, hv, h, hd => by
    have h1 : KA T p ((3, openB) :: (List.replicate j (3, openB) ++ (ks ++ (List.replicate j (4, closeB) ++ (4, closeB) :: v :: r)))) := by
      have : List.replicate (j + 1) ((4 : Int), closeB) ++ v :: r = List.replicate j (4, closeB) ++ (4, closeB) :: v :: r := by rw [List.replicate_succ']; simp
      rw [this, List.replicate_succ] at h
      exact h
    have ih := brackets j m (p + 1) (4, closeB) (v :: r) (by simp) h1.next (by rw [show p + 1 + j = p + (j + 1) by omega]; exact hd)
    have hq : KA T (p + 1 + j + ks.length + j) ((4, closeB) :: v :: r) := by
      have h2 : KA T (p + 1) ((List.replicate j (3, openB) ++ ks ++ List.replicate j (4, closeB)) ++ ((4, closeB) :: v :: r)) := by simpa using h1.next
      have := h2.drop
      simp only [List.length_append, List.length_replicate] at this
      rw [show p + 1 + j + ks.length + j = p + 1 + (j + ks.length + j) by omega]; exact this
    have hi : isP T e [wNot] p = false := by rw [h1.is]; rfl
    rw [show m + (j + 1) = (m + j) + 1 by omega]
    have hn : OrDeep (.ok (c, p + 1 + j + ks.length + j + 1)) (notN T e ((m + j) + 1) p) := by
      rw [notN, if_neg (by rw [hi]; decide), if_pos (h1.head e).2.1]
      rcases ih with ih | ⟨a, ih⟩
      · rw [ih]; simp only [closeP]; rw [hq.take]; exact .inl rfl
      · rw [ih]; exact .inr ⟨a, rfl⟩
    rcases hn with hn | ⟨a, hn⟩
    · rw [or_one hn (by rw [hq.next.is (k := v.1) (t := v.2)]; simp [hv]) (by rw [hq.next.is (k := v.1) (t := v.2)]; simp [hv])]
      exact .inl (by congr 2; omega)
    · rw [orP, kids_err (kids_err hn)]; exact .inr ⟨a, rfl⟩
end Go.Proofs.YtngedmioeodmfaaDoor.Pu
namespace Go.Proofs.YtngedmioeodmfaaDoor.Pu
open Go.RowKit Go.Proofs.YtngedmioeodmfaaDoor.Pr Go.Proofs.YtngedmioeodmfaaDoorW.PrintWords Go.Proofs.YtngedmioeodmfaaDoor.Lx
open Go.Proofs.YtngedmioeodmfaaDoor.Ps hiding Tk
set_option linter.unusedVariables false
set_option linter.unusedSimpArgs false
def openL (n : Nat) : List Int := List.replicate n 40
def shutL (n : Nat) : List Int := (List.replicate n [(10 : Int), 41]).flatten
def openT : Nat → List Tk
  | 0 => []
  | n + 1 => ⟨3, 0, openB⟩ :: (openT n).map (upT 1)
def shutT : Nat → List Tk
  | 0 => [⟨5, 0, semiB⟩]
  | n + 1 => ⟨4, 1, closeB⟩ :: (shutT n).map (upT 2)
theorem open_lx : ∀ n, Lx1 (openL n) (openT n)
  | 0 => Lx1.nil
  | n + 1 => by
    rw [openL, List.replicate_succ]
    exact (show Lx1 [40] [⟨3, 0, openB⟩] by unfold Lx1; kernel_rfl).app (open_lx n)
theorem open_key : ∀ n, (openT n).map key = List.replicate n (3, openB)
  | 0 => rfl
  | n + 1 => by rw [openT, List.map_cons, key_up, open_key n]; rfl
theorem shut_lx : ∀ n, Lx1 (shutL n ++ [59]) (shutT n)
  | 0 => by unfold Lx1; kernel_rfl
  | n + 1 => by
    rw [shutL, List.replicate_succ, List.flatten_cons, List.append_assoc]
    exact (show Lx1 [10, 41] [⟨4, 1, closeB⟩] by unfold Lx1; kernel_rfl).app (shut_lx n)
theorem shut_key : ∀ n, (shutT n).map key = List.replicate n (4, closeB) ++ [(5, semiB)]
  | 0 => rfl
  | n + 1 => by rw [shutT, List.map_cons, key_up, shut_key n]; rfl
theorem shut_len (n : Nat) : (shutL n).length = 2 * n := by simp [shutL]; omega
def brL (s : List Int) (n : Nat) : List Int := allowL ++ (openL n ++ (s ++ (shutL n ++ [59])))
theorem br_V {s : List Int} (h : V s) (n : Nat) : V (brL s n) := by
  have h1 : V allowL := V_ascii _ (by decide)
  have h2 : V (openL n) := V_ascii _ (fun c hc => by rw [openL, List.mem_replicate] at hc; rw [hc.2]; decide)
  have h3 : V (shutL n ++ [59]) := by
    refine V_ascii _ fun c hc => ?_
    have h4 : ∀ c ∈ [(10 : Int), 41], 0 ≤ c ∧ c < 128 := by decide
    simp only [shutL, List.mem_append, List.mem_flatten, List.mem_replicate] at hc
    rcases hc with ⟨y, ⟨_, rfl⟩, hc⟩ | hc
    · exact h4 c hc
    · simp at hc; subst hc; decide
  exact V_app h1 (V_app h2 (V_app h h3))
/-- The bracketed text: the same, or too deep. -/
theorem br_pol {s x x2 : ByteArray} (hx : bytesOf x = allowL ++ (bytesOf s ++ [59])) (hs : s.size ≤ 1000) {st : Pst} (hp : polA x = .ok st) {ts : List Tk} (hsm : sm 0 .sk [] (bytesOf s) = .good ts) (h5 : ∀ t ∈ ts, t.f0 ≠ 5) (n : Nat) (hn : 1 ≤ n) (hn8 : n ≤ 8) (hx2 : bytesOf x2 = brL (bytesOf s) n) :
    SmallP st ∧ (polA x2 = .ok st ∨ ∃ a, polA x2 = .error (2, a)) := by
  obtain ⟨ts', h1, h2, hv, hc⟩ := semi_lx hx hs hp
  obtain rfl : ts' = ts := Out.good.inj (h2.symm.trans hsm)
  rw [hp] at hc
  have hlen := toks_len h2
  rcases hc with ⟨hc, hcl⟩ | hc
  · obtain ⟨T, hT⟩ : ∃ T, T = allowT ++ (ts' ++ [(⟨5, (s.size : Int), semiB⟩ : Tk)]).map (upT 9) := ⟨_, rfl⟩
    rw [← hT] at hc
    have hk : T.map key = (1, wAllow) :: (1, wIf) :: (ts'.map key ++ [(5, semiB)]) := by
      rw [hT, List.map_append, key_up, List.map_append]; rfl
    obtain ⟨e, he⟩ : ∃ e : Int, e = x.size := ⟨_, rfl⟩
    rw [← he] at hc
    obtain ⟨c, q, h3, h4, h6, rfl⟩ := pol_ok hk (key_kind h5) hc.symm
    have hTl : T.length = ts'.length + 3 := by have := congrArg List.length hk; simpa using this
    have hsz := condP_size _ _ _ h3
    have hsm2 : SmallP { pst0 with items := 1, rules := [⟨true, c⟩] } := ⟨by simp [pst0], by simp [pst0], by simp, by simp [pst0], fun y hy => by
      simp at hy; rw [hy]; show sizeC c ≤ 1000000; omega⟩
    refine ⟨hsm2, ?_⟩
    -- the other text
    have hl1 : Lx1 (bytesOf s ++ (shutL n ++ [59])) (ts' ++ (shutT n).map (upT s.size)) := by
      obtain ⟨m, rfl⟩ : ∃ m, n = m + 1 := ⟨n - 1, by omega⟩
      have hh : shutL (m + 1) ++ [59] = 10 :: (41 :: (shutL m ++ [59])) := by simp [shutL, List.replicate_succ]
      have hb := hcl (41 :: (shutL m ++ [59]))
      have hl := shut_lx (m + 1)
      rw [hh] at hl ⊢
      have := Lx1.behind (by rw [bytesOf_length]; exact hb) hl
      rw [bytesOf_length] at this; exact this
    have hl2 := allow_lx.app ((open_lx n).app hl1)
    obtain ⟨T', hT'⟩ : ∃ T', T' = allowT ++ (openT n ++ (ts' ++ (shutT n).map (upT s.size)).map (upT (openL n).length)).map (upT allowL.length) := ⟨_, rfl⟩
    rw [← hT'] at hl2
    have hk' : T'.map key = (1, wAllow) :: (1, wIf) :: (List.replicate n (3, openB) ++ (ts'.map key ++ (List.replicate n (4, closeB) ++ [(5, semiB)]))) := by
      rw [hT', List.map_append, key_up, List.map_append, key_up, List.map_append, key_up, open_key, shut_key]; rfl
    have hx2s : x2.size ≤ 3000 := by
      rw [← bytesOf_length, hx2, brL]
      simp only [List.length_append, bytesOf_length, shut_len, openL, List.length_replicate, allowL, List.length_cons, List.length_nil]
      omega
    have hP2 : polA x2 = polP T' x2.size := polA_good hx2s (by rw [hx2]; exact br_V hv n) (by rw [hx2]; exact hl2)
    rw [hP2]
    obtain ⟨e', he'⟩ : ∃ e' : Int, e' = x2.size := ⟨_, rfl⟩
    rw [← he']
    have hK := KA.all hk
    have hK' := KA.all hk'
    have hA : KA T' (2 + n) (ts'.map key ++ (List.replicate n (4, closeB) ++ [(5, semiB)])) := by
      have := KA.drop hK'.next.next
      rw [List.length_replicate] at this; exact this
    have hA2 : ∃ r, List.replicate n ((4 : Int), closeB) ++ [((5 : Int), semiB)] = ((4 : Int), closeB) :: r := by
      obtain ⟨m, rfl⟩ : ∃ m, n = m + 1 := ⟨n - 1, by omega⟩
      exact ⟨_, by rw [List.replicate_succ]; rfl⟩
    obtain ⟨r, hr⟩ := hA2
    have hA3 := hA
    rw [hr] at hA3
    have L := Lok.of (e := e) (e' := e') hK.next.next hA3 (by simp) (by simp)
    rw [List.length_map] at L
    have hq : q = 2 + ts'.length := by omega
    rw [hq] at h3
    have h7 : orP T' e' (notN T' e' 30) (2 + n + 0) = .ok (c, 2 + n + ts'.length) := orP_loc L 30 0 ts'.length c h3 (by omega) (by omega)
    have h8 := orP_deep (T := T') (e := e') (one := notN T' e' 30) (one' := notN T' e' (30 - n)) (fun p r h => notN_deep (30 - n) n p r (by rw [Nat.sub_add_cancel (by omega)]; exact h)) _ _ h7
    have h9 := brackets (T := T') (e := e') (ks := ts'.map key) (c := c) n (30 - n) 2 (5, semiB) [] (by simp) hK'.next.next (by rw [List.length_map]; exact h8)
    rw [Nat.sub_add_cancel (by omega), List.length_map] at h9
    have hT'l : T'.length = ts'.length + 2 * n + 3 := by have := congrArg List.length hk'; simp at this; omega
    have hi : itemP T' e' pst0 0 = ifK T' e' { pst0 with items := 1 } wAllow (.ok (wIf, 2)) := by
      rw [item_free hK' (by simp) (by decide), itemK_rule (by decide) (by decide) (by decide) (by decide), hK'.next.word (by decide)]
      rfl
    rw [polP, itemsP_succ (by omega), hi]
    simp only [ifK]
    rcases h9 with h9 | ⟨a, h9⟩
    · left
      rw [show condP T' e' 2 = .ok (c, 2 + n + ts'.length + n) from h9]
      simp only [ruleK, itemsK]
      have hq5 : KA T' (2 + n + ts'.length + n) [(5, semiB)] := by
        have h10 : KA T' (2 + n) ((ts'.map key ++ List.replicate n (4, closeB)) ++ [(5, semiB)]) := by simpa using hA
        have := h10.drop
        simp only [List.length_append, List.length_map, List.length_replicate] at this
        rw [show 2 + n + ts'.length + n = 2 + n + (ts'.length + n) by omega]; exact this
      rw [hq5.take]
      simp only [endK]
      rw [items_done (by omega)]
      rfl
    · right
      rw [show condP T' e' 2 = .error (2, a) from h9]
      exact ⟨a, rfl⟩
  · exfalso
    obtain ⟨T, hT⟩ : ∃ T, T = allowT ++ ts'.map (upT 9) := ⟨_, rfl⟩
    rw [← hT] at hc
    have hk : T.map key = (1, wAllow) :: (1, wIf) :: ts'.map key := by rw [hT, List.map_append, key_up]; rfl
    have hno : ∀ i (hi : i < (ts'.map key).length), ((ts'.map key)[i]).1 = 5 → i + 1 = (ts'.map key).length := by
      intro i hi h
      rw [List.getElem_map] at h
      exact absurd h (h5 _ (List.getElem_mem _))
    obtain ⟨c, q, h3, h4, h6, _⟩ := pol_ok hk hno hc.symm
    have hm := condP_mono _ _ _ _ _ h3
    have hTl : T.length = ts'.length + 2 := by have := congrArg List.length hk; simpa using this
    have hK := KA.all hk
    have h7 : (nxt T x.size q).f0 = 5 := by
      rw [takeP] at h4
      split at h4
      · assumption
      · cases h4
    have h8 := (hK.next.next.at_ x.size (q - 2) (by rw [List.length_map]; omega)).1
    rw [show 0 + 1 + 1 + (q - 2) = q by omega, h7, List.getElem_map] at h8
    exact h5 _ (List.getElem_mem _) h8.symm
theorem awake_b3 : Ev (fun k => (parapetlaw20_awake.f k).bind fun t => some t) true := Ev.bind awake_ev (Ev.const fun _ => rfl)
def resB (k : Nat) (st : Pst) (b : List ByteArray × List (S44) × ByteArray × List (S51) × Bool × Int × Int) : Option Bool :=
  if b.2.2.2.2.2.1 = 2 then ((parapetlaw20_awake.f k).bind fun t => some t) else (if b.2.2.2.2.2.1 = 0 then ((parapetref19_SamePolicy.f k st.csp st.shares st.mixed st.rules st.allow b.1 b.2.1 b.2.2.1 b.2.2.2.1 b.2.2.2.2.1).bind fun t245 => (if t245 = true then ((parapetlaw20_awake.f k).bind fun t246 => (some t246)) else (some false))) else (some false))
theorem bAllow : bytesOf (⟨#[97, 108, 108, 111, 119, 32, 105, 102, 32]⟩ : ByteArray) = allowL := by decide +kernel
theorem bOpen : bytesOf (⟨#[40]⟩ : ByteArray) = [40] := by decide +kernel
theorem bShut : bytesOf (⟨#[10, 41]⟩ : ByteArray) = [10, 41] := by decide +kernel
theorem bSemi : bytesOf (⟨#[59]⟩ : ByteArray) = [59] := by decide +kernel
theorem br_l1 {s x : ByteArray} (hx : bytesOf x = allowL ++ (bytesOf s ++ [59])) (hs : s.size ≤ 1000) {st : Pst} (hp : polA x = .ok st) {ts : List Tk} (hsm : sm 0 .sk [] (bytesOf s) = .good ts) (h5 : ∀ t ∈ ts, t.f0 ≠ 5) (n : Nat) (hn : 1 ≤ n) (hn8 : n ≤ 8) (d : Nat) :
    ∀ (i : Nat) (x10 x11 : ByteArray), i ≤ n → n - i ≤ d → bytesOf x10 = openL i → bytesOf x11 = shutL i → Ev (fun k => parapetlaw20_ParseBrackets.l1 k s n x10 x11 i st.csp st.shares st.mixed st.rules st.allow) true := by
  have hend : ∀ (x10 x11 : ByteArray), bytesOf x10 = openL n → bytesOf x11 = shutL n → Ev (fun k => parapetlaw20_ParseBrackets.l1 k s n x10 x11 n st.csp st.shares st.mixed st.rules st.allow) true := by
    intro x10 x11 h10 h11
    have hx2 : bytesOf (((((⟨#[97, 108, 108, 111, 119, 32, 105, 102, 32]⟩ : ByteArray) ++ x10) ++ s) ++ x11) ++ (⟨#[59]⟩ : ByteArray)) = brL (bytesOf s) n := by
      rw [bytesOf_app, bytesOf_app, bytesOf_app, bytesOf_app, h10, h11, bAllow, bSemi, brL]; simp
    have hs10 : x10.size ≤ 8 := by rw [← bytesOf_length, h10, openL, List.length_replicate]; omega
    have hs11 : x11.size ≤ 16 := by rw [← bytesOf_length, h11, shut_len]; omega
    have hca : (⟨#[97, 108, 108, 111, 119, 32, 105, 102, 32]⟩ : ByteArray).size = 9 := rfl
    have hcs : (⟨#[59]⟩ : ByteArray).size = 1 := rfl
    obtain ⟨hsml, hbr⟩ := br_pol hx hs hp hsm h5 n hn hn8 hx2
    refine Ev.step (fun k => ?_) (Ev.bind (pol_ev (((((⟨#[97, 108, 108, 111, 119, 32, 105, 102, 32]⟩ : ByteArray) ++ x10) ++ s) ++ x11) ++ (⟨#[59]⟩ : ByteArray)) (by simp only [ByteArray.size_append, hca, hcs]; omega)) (f := fun k b => resB k st b) ?_)
    · rw [parapetlaw20_ParseBrackets.l1, if_neg (by omega), if_pos (by omega), if_pos (by simp only [ByteArray.size_append, hca]; omega), if_pos (by simp only [ByteArray.size_append, hca]; omega), if_pos (by simp only [ByteArray.size_append, hca]; omega)]
      rfl
    · rcases hbr with hbr | ⟨a, hbr⟩
      · rw [hbr]
        simp only [polRes, resB]
        rw [show ((fun k => if (0 : Int) = 2 then _ else _) : Nat → Option Bool) = fun k => (parapetref19_SamePolicy.f k st.csp st.shares st.mixed st.rules st.allow st.csp st.shares st.mixed st.rules st.allow).bind fun t245 => (if t245 = true then ((parapetlaw20_awake.f k).bind fun t246 => (some t246)) else (some false)) from funext fun k => by rw [if_neg (by omega), if_pos trivial]]
        exact Ev.bind (policy_same hsml) (f := fun k t245 => (if t245 = true then ((parapetlaw20_awake.f k).bind fun t246 => (some t246)) else (some false))) (by simp only [if_true]; exact awake_b3)
      · rw [hbr]
        simp only [polRes, resB, if_true]
        exact awake_b3
  induction d with
  | zero => intro i x10 x11 hi hd h10 h11; obtain rfl : i = n := (by omega); exact hend x10 x11 h10 h11
  | succ d ih =>
    intro i x10 x11 hi hd h10 h11
    by_cases hlt : i = n
    · subst hlt; exact hend x10 x11 h10 h11
    · have hs10 : x10.size ≤ 8 := by rw [← bytesOf_length, h10, openL, List.length_replicate]; omega
      have hs11 : x11.size ≤ 16 := by rw [← bytesOf_length, h11, shut_len]; omega
      refine Ev.step (fun k => ?_) (ih (i + 1) (x10 ++ (⟨#[40]⟩ : ByteArray)) (x11 ++ (⟨#[10, 41]⟩ : ByteArray)) (by omega) (by omega) (by rw [bytesOf_app, h10, bOpen, openL, openL, List.replicate_succ']) (by rw [bytesOf_app, h11, bShut, shutL, shutL, List.replicate_succ']; simp))
      rw [parapetlaw20_ParseBrackets.l1, if_pos (by omega), if_pos (by omega), if_pos (by omega), show wrap64 ((i : Int) + 1) = ((i + 1 : Nat) : Int) by unfold wrap64; omega]
theorem br_l0 {s x : ByteArray} (hx : bytesOf x = allowL ++ (bytesOf s ++ [59])) (hs : s.size ≤ 1000) {st : Pst} (hp : polA x = .ok st) {ts : List Tk} (hsm : sm 0 .sk [] (bytesOf s) = .good ts) (n : Nat) (hn : 1 ≤ n) (hn8 : n ≤ 8) (d : Nat) :
    ∀ (i : Nat), i ≤ ts.length → ts.length - i ≤ d → (∀ j (h : j < ts.length), j < i → ts[j].f0 ≠ 5) → Ev (fun k => parapetlaw20_ParseBrackets.l0 k s n ts i st.csp st.shares st.mixed st.rules st.allow) true := by
  have hlen := toks_len hsm
  have hend : (∀ j (h : j < ts.length), j < ts.length → ts[j].f0 ≠ 5) → Ev (fun k => parapetlaw20_ParseBrackets.l0 k s n ts ts.length st.csp st.shares st.mixed st.rules st.allow) true := by
    intro h
    refine Ev.step (fun k => ?_) (br_l1 hx hs hp hsm (fun t ht => by obtain ⟨j, hj, rfl⟩ := List.getElem_of_mem ht; exact h j hj hj) n hn hn8 n 0 ⟨#[]⟩ ⟨#[]⟩ (by omega) (by omega) rfl rfl)
    rw [parapetlaw20_ParseBrackets.l0, if_neg (by omega)]
    rfl
  induction d with
  | zero => intro i hi hd h; obtain rfl : i = ts.length := (by omega); exact hend h
  | succ d ih =>
    intro i hi hd h
    by_cases hlt : i = ts.length
    · subst hlt; exact hend h
    · have hrd : rd_T40 ts (i : Int) = ts[i]'(by omega) := by simp [rd_T40, show i < ts.length by omega]
      by_cases h5 : (ts[i]'(by omega)).f0 = 5
      · refine Ev.step (fun k => ?_) awake_b3
        rw [parapetlaw20_ParseBrackets.l0, if_pos (by omega), if_pos (by omega), hrd, if_pos h5]
      · refine Ev.step (fun k => ?_) (ih (i + 1) (by omega) (by omega) (fun j hj hji => by
          by_cases hj2 : j = i
          · subst hj2; exact h5
          · exact h j hj (by omega)))
        rw [parapetlaw20_ParseBrackets.l0, if_pos (by omega), if_pos (by omega), hrd, if_neg h5, show wrap64 ((i : Int) + 1) = ((i + 1 : Nat) : Int) by unfold wrap64; omega]
theorem Ev.of_eq {α : Type} {g g' : Nat → Option α} {r : α} (h : ∀ k, g k = g' k) (e : Ev g' r) : Ev g r := by
  rw [show g = g' from funext h]; exact e
theorem parsebrackets : parapetlaw20_ParseBrackets.Pure := by
  intro s a1 hs0 hw
  obtain ⟨K, hK⟩ : Ev (fun k => parapetlaw20_ParseBrackets.f k s a1) true := by
    have hT : Ev (fun k => parapetlaw20_ParseBrackets.j0 k s a1 true) true := Ev.step (fun k => by simp only [parapetlaw20_ParseBrackets.j0, if_true]) awake_b3
    unfold parapetlaw20_ParseBrackets.f
    by_cases h1 : (s.size : Int) > 1000
    · simp only [if_pos h1]; exact hT
    · simp only [if_neg h1]
      by_cases h2 : a1 < 1
      · simp only [if_pos h2]; exact hT
      · simp only [if_neg h2]
        by_cases h3 : a1 > 8
        · simp only [decide_eq_true h3]; exact hT
        · simp only [decide_eq_false h3]
          obtain ⟨n, rfl⟩ : ∃ n : Nat, a1 = n := ⟨a1.toNat, by omega⟩
          obtain ⟨x, hxd⟩ : ∃ x, x = ((⟨#[97, 108, 108, 111, 119, 32, 105, 102, 32]⟩ : ByteArray) ++ s) ++ (⟨#[59]⟩ : ByteArray) := ⟨_, rfl⟩
          have hx : bytesOf x = allowL ++ (bytesOf s ++ [59]) := by rw [hxd, bytesOf_app, bytesOf_app, bAllow, bSemi, List.append_assoc]
          have hca : (⟨#[97, 108, 108, 111, 119, 32, 105, 102, 32]⟩ : ByteArray).size = 9 := rfl
          have hcs : (⟨#[59]⟩ : ByteArray).size = 1 := rfl
          have hxs : x.size ≤ 1000000 := by rw [hxd]; simp only [ByteArray.size_append, hca, hcs]; omega
          have hj1 : ∀ a b c d e, Ev (fun k => parapetlaw20_ParseBrackets.j1 k s n true a b c d e) true := fun a b c d e => Ev.step (fun k => by simp only [parapetlaw20_ParseBrackets.j1, if_true]) awake_b3
          refine Ev.step (fun k => ?_) (Ev.bind (pol_ev x hxs) (f := fun k b => if b.2.2.2.2.2.1 = 0 then (if (b.2.2.2.1.length : Int) = 1 then (parapetlaw20_ParseBrackets.j1 k s n (decide ((wrap64 ((b.1.length : Int) + (b.2.1.length : Int))) > 0)) b.1 b.2.1 b.2.2.1 b.2.2.2.1 b.2.2.2.2.1) else (parapetlaw20_ParseBrackets.j1 k s n true b.1 b.2.1 b.2.2.1 b.2.2.2.1 b.2.2.2.2.1)) else (parapetlaw20_ParseBrackets.j1 k s n true b.1 b.2.1 b.2.2.1 b.2.2.2.1 b.2.2.2.2.1)) ?_)
          · rw [hxd, parapetlaw20_ParseBrackets.j0, if_neg (by simp), if_pos (by omega), if_pos (by simp only [ByteArray.size_append, hca]; omega)]
          · cases hp : polA x with
            | error f =>
              simp only [polRes]
              obtain ⟨f1, f2⟩ := f
              by_cases hf : f1 = 0
              · exact Ev.of_eq (fun k => if_pos hf) (Ev.of_eq (fun k => if_neg (by simp)) (hj1 [] [] ⟨#[]⟩ [] false))
              · exact Ev.of_eq (fun k => if_neg hf) (hj1 [] [] ⟨#[]⟩ [] false)
            | ok st =>
              simp only [polRes, if_true]
              by_cases hr : (st.rules.length : Int) = 1
              · refine Ev.of_eq (fun k => if_pos hr) ?_
                by_cases hz : (wrap64 ((st.csp.length : Int) + (st.shares.length : Int))) > 0
                · exact Ev.of_eq (fun k => congrArg (fun b => parapetlaw20_ParseBrackets.j1 k s n b st.csp st.shares st.mixed st.rules st.allow) (decide_eq_true hz)) (hj1 _ _ _ _ _)
                · refine Ev.of_eq (fun k => congrArg (fun b => parapetlaw20_ParseBrackets.j1 k s n b st.csp st.shares st.mixed st.rules st.allow) (decide_eq_false hz)) ?_
                  obtain ⟨ts, ht1, ht2, _, _⟩ := semi_lx hx (by omega) hp
                  refine Ev.step (f := fun k => (lex_Tokens.f k s).bind fun bt221 => (parapetlaw20_ParseBrackets.l0 k s n bt221.1 0 st.csp st.shares st.mixed st.rules st.allow)) (fun k => by rw [parapetlaw20_ParseBrackets.j1, if_neg (by simp)]) (Ev.bind (tokens_ev s) ?_)
                  rw [ht1]
                  exact br_l0 hx (by omega) hp ht2 n (by omega) (by omega) ts.length 0 (by omega) (by omega) (fun j _ hj => absurd hj (by omega))
              · exact Ev.of_eq (fun k => if_neg hr) (hj1 st.csp st.shares st.mixed st.rules st.allow)
  exact ⟨K, hK K (Nat.le_refl _)⟩
end Go.Proofs.YtngedmioeodmfaaDoor.Pu
