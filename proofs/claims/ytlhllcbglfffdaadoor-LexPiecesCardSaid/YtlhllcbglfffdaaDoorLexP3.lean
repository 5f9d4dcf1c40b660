/- The machine on rows put together; where the tokens stand. -/
import Derived.Test.YtlhllcbglfffdaaDoorLexP2
import Derived.Test.YtlhllcbglfffdaaDoorPr5
import Derived.KernelRfl
namespace Go.Proofs.YtlhllcbglfffdaaDoor.Pu
open Go.RowKit Go.Proofs.YtlhllcbglfffdaaDoor.Pr Go.Proofs.YtlhllcbglfffdaaDoorW.PrintWords Go.Proofs.YtlhllcbglfffdaaDoor.Lx
set_option linter.unusedVariables false
set_option linter.unusedSimpArgs false

/-- The machine's state behind a row. -/
def rs : Nat → St → List Tk → List Int → One
  | _, st, ts, [] => .go st ts
  | i, st, ts, c :: l => match step i c st ts with
    | .bad j => .bad j
    | .go st' ts' => rs (i + 1) st' ts' l
def ends (n : Nat) : One → Out
  | .bad j => .bad j
  | .go st ts => fin n st ts
theorem sm_rs : ∀ l i st ts, sm i st ts l = ends (i + l.length) (rs i st ts l) := by
  intro l
  induction l with
  | nil => intro i st ts; rfl
  | cons c l ih =>
    intro i st ts
    rw [sm, rs]
    cases step i c st ts with
    | bad j => rfl
    | go st' ts' =>
      simp only
      rw [ih, List.length_cons, show i + 1 + l.length = i + (l.length + 1) by omega]
theorem rs_app : ∀ l1 i st ts l2, rs i st ts (l1 ++ l2) = (match rs i st ts l1 with
    | .bad j => .bad j
    | .go st' ts' => rs (i + l1.length) st' ts' l2) := by
  intro l1
  induction l1 with
  | nil => intro i st ts l2; rfl
  | cons c l ih =>
    intro i st ts l2
    rw [List.cons_append, rs, rs]
    cases step i c st ts with
    | bad j => rfl
    | go st' ts' =>
      simp only
      rw [ih, List.length_cons, show i + 1 + l.length = i + (l.length + 1) by omega]
theorem rs_app_go {l1 : List Int} {i : Nat} {st : St} {ts : List Tk} {st' : St} {ts' : List Tk} (h : rs i st ts l1 = .go st' ts') (l2 : List Int) : rs i st ts (l1 ++ l2) = rs (i + l1.length) st' ts' l2 := by
  rw [rs_app, h]
theorem rs_app_bad {l1 : List Int} {i : Nat} {st : St} {ts : List Tk} {j : Nat} (h : rs i st ts l1 = .bad j) (l2 : List Int) : rs i st ts (l1 ++ l2) = .bad j := by
  rw [rs_app, h]

/-- All places further by n; tokens ahead. -/
def upT (n : Nat) (t : Tk) : Tk := ⟨t.f0, t.f1 + n, t.f2⟩
def upS (n : Nat) : St → St
  | .sk => .sk
  | .nt => .nt
  | .wd a acc => .wd (n + a) acc
  | .qt a acc => .qt (n + a) acc
  | .es a p acc => .es (n + a) (n + p) acc
def upO (n : Nat) (t0 : List Tk) : One → One
  | .bad j => .bad (n + j)
  | .go st ts => .go (upS n st) (t0 ++ ts.map (upT n))
theorem st1_up (n : Nat) (t0 : List Tk) (i : Nat) (c : Int) (ts : List Tk) : st1 (n + i) c (t0 ++ ts.map (upT n)) = upO n t0 (st1 i c ts) := by
  unfold st1
  repeat' split
  all_goals simp [upO, upS, upT]
  all_goals omega
theorem step_up (n : Nat) (t0 : List Tk) (i : Nat) (c : Int) (st : St) (ts : List Tk) : step (n + i) c (upS n st) (t0 ++ ts.map (upT n)) = upO n t0 (step i c st ts) := by
  cases st with
  | sk => exact st1_up n t0 i c ts
  | nt => simp only [step, upS]; split <;> rfl
  | wd a acc =>
    simp only [step, upS]
    split
    · rfl
    · have := st1_up n t0 i c (ts ++ [⟨1, a, strOfNums acc⟩])
      rw [← this]
      congr 1
      simp [upT]; omega
  | qt a acc =>
    simp only [step, upS]
    repeat' split
    all_goals simp [upO, upS, upT]
    omega
  | es a p acc =>
    simp only [step, upS]
    split <;> rfl
theorem rs_up (n : Nat) (t0 : List Tk) : ∀ l i st ts, rs (n + i) (upS n st) (t0 ++ ts.map (upT n)) l = upO n t0 (rs i st ts l) := by
  intro l
  induction l with
  | nil => intro i st ts; rfl
  | cons c l ih =>
    intro i st ts
    rw [rs, rs, step_up]
    cases step i c st ts with
    | bad j => rfl
    | go st' ts' => exact ih (i + 1) st' ts'

/-- What a token is written as. -/
def escL (l : List Int) : List Int := l.flatMap fun c => if c = 34 ∨ c = 92 then [92, c] else [c]
theorem escL_nil : escL [] = [] := rfl
theorem escL_cons (c : Int) (l : List Int) : escL (c :: l) = (if c = 34 ∨ c = 92 then [92, c] else [c]) ++ escL l := by simp [escL]
theorem escL_app (l m : List Int) : escL (l ++ m) = escL l ++ escL m := by simp [escL]
def wof (t : Tk) : List Int := if t.f0 = 2 then 34 :: (escL (bytesOf t.f2) ++ [34]) else bytesOf t.f2
def okT (t : Tk) : Prop :=
  (t.f0 = 1 ∧ ∃ c l, bytesOf t.f2 = c :: l ∧ pBlank c = false ∧ c ≠ 35 ∧ pLetter c = true ∧ ∀ x ∈ l, pWord x = true) ∨
  (t.f0 = 2 ∧ ∀ x ∈ bytesOf t.f2, x ≠ 10) ∨
  (∃ c, (c = 40 ∨ c = 41 ∨ c = 59) ∧ t.f0 = opIdx c ∧ bytesOf t.f2 = [c])
def Placed (bs : List Int) : Nat → List Tk → Prop
  | _, [] => True
  | e, t :: r => okT t ∧ ∃ a : Nat, t.f1 = (a : Int) ∧ e ≤ a ∧ (∃ rest, bs.drop a = wof t ++ rest) ∧ Placed bs (a + (wof t).length) r
theorem Placed.weak {bs : List Int} : ∀ {e e' : Nat} {ts : List Tk}, Placed bs e ts → e' ≤ e → Placed bs e' ts
  | _, _, [], _, _ => trivial
  | _, _, _ :: _, ⟨h1, a, h2, h3, h4, h5⟩, h => ⟨h1, a, h2, Nat.le_trans h h3, h4, h5⟩
def Rng (l : List Int) : Prop := ∀ x ∈ l, 0 ≤ x ∧ x ≤ 255

theorem drop_more {bs : List Int} {a : Nat} {x y : List Int} (h : bs.drop a = x ++ y) : bs.drop (a + x.length) = y := by
  rw [← List.drop_drop, h, List.drop_left]
theorem opIdx_ne (c : Int) : opIdx c ≠ 2 := by unfold opIdx; repeat' split
                                               all_goals omega

/-- What has been read stands where it says. -/
def Inv (bs : List Int) (i : Nat) (l : List Int) : St → Prop
  | .sk => True
  | .nt => True
  | .wd a acc => bs.drop a = acc ++ l ∧ a + acc.length = i ∧ Rng acc ∧ ∃ c r, acc = c :: r ∧ pBlank c = false ∧ c ≠ 35 ∧ pLetter c = true ∧ ∀ x ∈ r, pWord x = true
  | .qt a acc => bs.drop a = (34 :: escL acc) ++ l ∧ a + 1 + (escL acc).length = i ∧ Rng acc ∧ ∀ x ∈ acc, x ≠ 10
  | .es a p acc => bs.drop a = (34 :: escL acc) ++ 92 :: l ∧ a + 1 + (escL acc).length + 1 = i ∧ Rng acc ∧ ∀ x ∈ acc, x ≠ 10
def begins (i : Nat) : St → Nat
  | .sk => i
  | .nt => i
  | .wd a _ => a
  | .qt a _ => a
  | .es a _ _ => a
theorem sm_placed (bs : List Int) : ∀ l i st ts out, bs.drop i = l → Rng l → Inv bs i l st → sm i st ts l = .good out → ∃ new, out = ts ++ new ∧ Placed bs (begins i st) new := by
  intro l
  induction l with
  | nil =>
    intro i st ts out hd hr hI e
    rw [sm] at e
    cases st with
    | sk => simp only [fin, Out.good.injEq] at e; exact ⟨[], by simp [e], trivial⟩
    | nt => simp only [fin, Out.good.injEq] at e; exact ⟨[], by simp [e], trivial⟩
    | wd a acc =>
      simp only [fin, Out.good.injEq] at e
      obtain ⟨h1, h2, h3, c, r, h4, h5⟩ := hI
      have hb := bytesOf_str acc h3
      have hw : wof (⟨1, a, strOfNums acc⟩ : Tk) = acc := by unfold wof; rw [if_neg (by simp)]; exact hb
      refine ⟨[⟨1, a, strOfNums acc⟩], e.symm, .inl ⟨rfl, c, r, by rw [hb, h4], h5⟩, a, rfl, Nat.le_refl _, ⟨[], by rw [hw]; exact h1⟩, trivial⟩
    | qt a acc => cases e
    | es a p acc => cases e
  | cons c l ih =>
    intro i st ts out hd hr hI e
    have hd1 : bs.drop (i + 1) = l := by
      rw [← List.drop_drop, hd]; rfl
    have hr1 : Rng l := fun x hx => hr x (List.mem_cons_of_mem _ hx)
    have hrc := hr c List.mem_cons_self
    rw [sm] at e
    -- from between tokens
    have base : ∀ ts, (match st1 i c ts with | .bad j => Out.bad j | .go st' ts' => sm (i + 1) st' ts' l) = .good out → ∃ new, out = ts ++ new ∧ Placed bs i new := by
      intro ts e
      unfold st1 at e
      by_cases p1 : pBlank c = true
      · rw [if_pos p1] at e
        obtain ⟨new, h1, h2⟩ := ih (i + 1) .sk ts out hd1 hr1 trivial e
        exact ⟨new, h1, h2.weak (Nat.le_succ _)⟩
      rw [if_neg p1] at e
      have p1' : pBlank c = false := by cases h : pBlank c with
        | true => exact absurd h p1
        | false => rfl
      by_cases p2 : c = 35
      · rw [if_pos p2] at e
        obtain ⟨new, h1, h2⟩ := ih (i + 1) .nt ts out hd1 hr1 trivial e
        exact ⟨new, h1, h2.weak (Nat.le_succ _)⟩
      rw [if_neg p2] at e
      by_cases p3 : pLetter c = true
      · rw [if_pos p3] at e
        obtain ⟨new, h1, h2⟩ := ih (i + 1) (.wd i [c]) ts out hd1 hr1 ⟨hd, rfl, by intro x hx; simp at hx; subst hx; exact hrc, c, [], rfl, p1', p2, p3, by simp⟩ e
        exact ⟨new, h1, h2⟩
      rw [if_neg p3] at e
      by_cases p4 : c = 34
      · rw [if_pos p4] at e
        obtain ⟨new, h1, h2⟩ := ih (i + 1) (.qt i []) ts out hd1 hr1 ⟨by rw [hd, p4]; rfl, rfl, (by intro x hx; cases hx), by simp⟩ e
        exact ⟨new, h1, h2⟩
      rw [if_neg p4] at e
      by_cases p5 : c = 40 ∨ c = 41 ∨ c = 59
      · rw [if_pos p5] at e
        obtain ⟨new, h1, h2⟩ := ih (i + 1) .sk _ out hd1 hr1 trivial e
        have hb : bytesOf (strOfNums [c]) = [c] := bytesOf_str [c] (by intro x hx; simp at hx; subst hx; exact hrc)
        have hw : wof (⟨opIdx c, i, strOfNums [c]⟩ : Tk) = [c] := by unfold wof; rw [if_neg (opIdx_ne c)]; exact hb
        refine ⟨⟨opIdx c, i, strOfNums [c]⟩ :: new, by rw [h1]; simp, .inr (.inr ⟨c, p5, rfl, hb⟩), i, rfl, Nat.le_refl _, ⟨l, by rw [hw]; exact hd⟩, ?_⟩
        rw [hw]; exact h2
      · rw [if_neg p5] at e; cases e
    cases st with
    | sk => exact base ts e
    | nt =>
      simp only [step] at e
      by_cases p : c = 10
      · rw [if_pos p] at e
        obtain ⟨new, h1, h2⟩ := ih (i + 1) .sk ts out hd1 hr1 trivial e
        exact ⟨new, h1, h2.weak (Nat.le_succ _)⟩
      · rw [if_neg p] at e
        obtain ⟨new, h1, h2⟩ := ih (i + 1) .nt ts out hd1 hr1 trivial e
        exact ⟨new, h1, h2.weak (Nat.le_succ _)⟩
    | wd a acc =>
      obtain ⟨h1, h2, h3, c0, r, h4, h5, h6, h7, h8⟩ := hI
      simp only [step] at e
      by_cases p : pWord c = true
      · rw [if_pos p] at e
        refine ih (i + 1) (.wd a (acc ++ [c])) ts out hd1 hr1 ⟨by rw [h1]; simp, by rw [List.length_append, List.length_singleton]; omega, ?_, c0, r ++ [c], by rw [h4]; rfl, h5, h6, h7, ?_⟩ e
        · intro x hx; rcases List.mem_append.1 hx with hx | hx
          · exact h3 x hx
          · simp at hx; subst hx; exact hrc
        · intro x hx; rcases List.mem_append.1 hx with hx | hx
          · exact h8 x hx
          · simp at hx; subst hx; exact p
      · rw [if_neg p] at e
        obtain ⟨new, hn1, hn2⟩ := base _ e
        have hb := bytesOf_str acc h3
        have hw : wof (⟨1, a, strOfNums acc⟩ : Tk) = acc := by unfold wof; rw [if_neg (by simp)]; exact hb
        refine ⟨⟨1, a, strOfNums acc⟩ :: new, by rw [hn1]; simp, .inl ⟨rfl, c0, r, by rw [hb, h4], h5, h6, h7, h8⟩, a, rfl, Nat.le_refl _, ⟨c :: l, by rw [hw]; exact h1⟩, ?_⟩
        rw [hw, h2]; exact hn2
    | qt a acc =>
      obtain ⟨h1, h2, h3, h4⟩ := hI
      simp only [step] at e
      by_cases p1 : c = 34
      · rw [if_pos p1] at e
        obtain ⟨new, hn1, hn2⟩ := ih (i + 1) .sk _ out hd1 hr1 trivial e
        have hb := bytesOf_str acc h3
        have hw : wof (⟨2, a, strOfNums acc⟩ : Tk) = 34 :: (escL acc ++ [34]) := by unfold wof; rw [if_pos rfl]; show 34 :: (escL (bytesOf (strOfNums acc)) ++ [34]) = _; rw [hb]
        refine ⟨⟨2, a, strOfNums acc⟩ :: new, by rw [hn1]; simp, .inr (.inl ⟨rfl, by show ∀ x ∈ bytesOf (strOfNums acc), x ≠ 10; rw [hb]; exact h4⟩), a, rfl, Nat.le_refl _, ⟨l, by rw [hw, h1, p1]; simp⟩, ?_⟩
        rw [hw]
        have : a + (34 :: (escL acc ++ [34])).length = i + 1 := by simp; omega
        rw [this]; exact hn2
      · rw [if_neg p1] at e
        by_cases p2 : c = 10
        · rw [if_pos p2] at e; cases e
        · rw [if_neg p2] at e
          by_cases p3 : c = 92
          · rw [if_pos p3] at e
            exact ih (i + 1) (.es a i acc) ts out hd1 hr1 ⟨by rw [h1, p3], by omega, h3, h4⟩ e
          · rw [if_neg p3] at e
            have he : escL (acc ++ [c]) = escL acc ++ [c] := by rw [escL_app, escL_cons, escL_nil, if_neg (by omega)]; rfl
            refine ih (i + 1) (.qt a (acc ++ [c])) ts out hd1 hr1 ⟨by rw [h1, he]; simp, by rw [he, List.length_append, List.length_singleton]; omega, ?_, ?_⟩ e
            · intro x hx; rcases List.mem_append.1 hx with hx | hx
              · exact h3 x hx
              · simp at hx; subst hx; exact hrc
            · intro x hx; rcases List.mem_append.1 hx with hx | hx
              · exact h4 x hx
              · simp at hx; subst hx; exact p2
    | es a p acc =>
      obtain ⟨h1, h2, h3, h4⟩ := hI
      simp only [step] at e
      by_cases p1 : c = 34 ∨ c = 92
      · rw [if_pos p1] at e
        have he : escL (acc ++ [c]) = escL acc ++ [92, c] := by rw [escL_app, escL_cons, escL_nil, if_pos p1]; rfl
        refine ih (i + 1) (.qt a (acc ++ [c])) ts out hd1 hr1 ⟨by rw [h1, he]; simp, by rw [he, List.length_append]; simp; omega, ?_, ?_⟩ e
        · intro x hx; rcases List.mem_append.1 hx with hx | hx
          · exact h3 x hx
          · simp at hx; subst hx; exact hrc
        · intro x hx; rcases List.mem_append.1 hx with hx | hx
          · exact h4 x hx
          · simp at hx; subst hx; omega
      · rw [if_neg p1] at e; cases e
/-- The tokens of a text stand where they say. -/
theorem placed (s : ByteArray) (ts : List Tk) (h : sm 0 .sk [] (bytesOf s) = .good ts) : Placed (bytesOf s) 0 ts := by
  obtain ⟨new, h1, h2⟩ := sm_placed (bytesOf s) (bytesOf s) 0 .sk [] ts rfl (bytesOf_range s) trivial h
  rw [h1]; exact h2

theorem awake_tok : tokM (⟨#[97, 108, 108, 111, 119, 32, 105, 102, 32, 104, 111, 115, 116, 32, 34, 97, 92, 34, 98, 34, 59]⟩ : ByteArray) =
    ([⟨1, 0, ⟨#[97, 108, 108, 111, 119]⟩⟩, ⟨1, 6, ⟨#[105, 102]⟩⟩, ⟨1, 9, ⟨#[104, 111, 115, 116]⟩⟩, ⟨2, 14, ⟨#[97, 34, 98]⟩⟩, ⟨5, 20, ⟨#[59]⟩⟩], 0, 0) := by kernel_rfl
theorem awake_ev : Ev (fun k => parapetlaw19_awake.f k) true := by
  unfold parapetlaw19_awake.f
  refine Ev.bind (tokens_ev _) ?_
  rw [awake_tok]
  refine Ev.const fun k => ?_
  kernel_rfl
end Go.Proofs.YtlhllcbglfffdaaDoor.Pu
