/- 7 texts of the proof, put together, less what is not used; what a tool printed stands among them. -/
import Derived.KernelRfl
import Derived.Test.YtngedmioeodmfaaDoorMCu3
namespace Go.Proofs.YtngedmioeodmfaaDoor.Pu
open Go.RowKit Go.Proofs.YtngedmioeodmfaaDoor.Pr Go.Proofs.YtngedmioeodmfaaDoorW.PrintWords Go.Proofs.YtngedmioeodmfaaDoor.Lx
set_option linter.unusedVariables false
set_option linter.unusedSimpArgs false
/-- The machine's state behind a row. -/
def rs : Nat → St → List Tk → List Int → One
  | _, st, ts, [] => .go st ts
  | i, st, ts, c :: l => match step i c st ts with
    | .bad j => .bad j
    | .go st' ts' => rs (i + 1) st' ts' l
def ends (n : Nat) : One → Out
  | .bad j => .bad j
  | .go st ts => fin n st ts
theorem sm_rs : ∀ l i st ts, sm i st ts l = ends (i + l.length) (rs i st ts l) := by
  intro l
  induction l with
  | nil => intro i st ts; rfl
  | cons c l ih =>
    intro i st ts
    rw [sm, rs]
    cases step i c st ts with
    | bad j => rfl
    | go st' ts' =>
      simp only
      rw [ih, List.length_cons, show i + 1 + l.length = i + (l.length + 1) by omega]
theorem rs_app : ∀ l1 i st ts l2, rs i st ts (l1 ++ l2) = (match rs i st ts l1 with
    | .bad j => .bad j
    | .go st' ts' => rs (i + l1.length) st' ts' l2) := by
  intro l1
  induction l1 with
  | nil => intro i st ts l2; rfl
  | cons c l ih =>
    intro i st ts l2
    rw [List.cons_append, rs, rs]
    cases step i c st ts with
    | bad j => rfl
    | go st' ts' =>
      simp only
      rw [ih, List.length_cons, show i + 1 + l.length = i + (l.length + 1) by omega]
theorem rs_app_go {l1 : List Int} {i : Nat} {st : St} {ts : List Tk} {st' : St} {ts' : List Tk} (h : rs i st ts l1 = .go st' ts') (l2 : List Int) : rs i st ts (l1 ++ l2) = rs (i + l1.length) st' ts' l2 := by
  rw [rs_app, h]
/-- All places further by n; tokens ahead. -/
def upT (n : Nat) (t : Tk) : Tk := ⟨t.f0, t.f1 + n, t.f2⟩
def upS (n : Nat) : St → St
  | .sk => .sk
  | .nt => .nt
  | .wd a acc => .wd (n + a) acc
  | .qt a acc => .qt (n + a) acc
  | .es a p acc => .es (n + a) (n + p) acc
def upO (n : Nat) (t0 : List Tk) : One → One
  | .bad j => .bad (n + j)
  | .go st ts => .go (upS n st) (t0 ++ ts.map (upT n))
theorem st1_up (n : Nat) (t0 : List Tk) (i : Nat) (c : Int) (ts : List Tk) : st1 (n + i) c (t0 ++ ts.map (upT n)) = upO n t0 (st1 i c ts) := by
  unfold st1
  repeat' split
  all_goals simp [upO, upS, upT]
  all_goals omega
theorem step_up (n : Nat) (t0 : List Tk) (i : Nat) (c : Int) (st : St) (ts : List Tk) : step (n + i) c (upS n st) (t0 ++ ts.map (upT n)) = upO n t0 (step i c st ts) := by
  cases st with
  | sk => exact st1_up n t0 i c ts
  | nt => simp only [step, upS]; split <;> rfl
  | wd a acc =>
    simp only [step, upS]
    split
    · rfl
    · have := st1_up n t0 i c (ts ++ [⟨1, a, strOfNums acc⟩])
      rw [← this]
      congr 1
      simp [upT]; omega
  | qt a acc =>
    simp only [step, upS]
    repeat' split
    all_goals simp [upO, upS, upT]
    omega
  | es a p acc =>
    simp only [step, upS]
    split <;> rfl
theorem rs_up (n : Nat) (t0 : List Tk) : ∀ l i st ts, rs (n + i) (upS n st) (t0 ++ ts.map (upT n)) l = upO n t0 (rs i st ts l) := by
  intro l
  induction l with
  | nil => intro i st ts; rfl
  | cons c l ih =>
    intro i st ts
    rw [rs, rs, step_up]
    cases step i c st ts with
    | bad j => rfl
    | go st' ts' => exact ih (i + 1) st' ts'
/-- What a token is written as. -/
def escL (l : List Int) : List Int := l.flatMap fun c => if c = 34 ∨ c = 92 then [92, c] else [c]
theorem escL_nil : escL [] = [] := rfl
theorem escL_cons (c : Int) (l : List Int) : escL (c :: l) = (if c = 34 ∨ c = 92 then [92, c] else [c]) ++ escL l := by simp [escL]
theorem escL_app (l m : List Int) : escL (l ++ m) = escL l ++ escL m := by simp [escL]
def wof (t : Tk) : List Int := if t.f0 = 2 then 34 :: (escL (bytesOf t.f2) ++ [34]) else bytesOf t.f2
def okT (t : Tk) : Prop :=
  (t.f0 = 1 ∧ ∃ c l, bytesOf t.f2 = c :: l ∧ pBlank c = false ∧ c ≠ 35 ∧ pLetter c = true ∧ ∀ x ∈ l, pWord x = true) ∨
  (t.f0 = 2 ∧ ∀ x ∈ bytesOf t.f2, x ≠ 10) ∨
  (∃ c, (c = 40 ∨ c = 41 ∨ c = 59) ∧ t.f0 = opIdx c ∧ bytesOf t.f2 = [c])
def Placed (bs : List Int) : Nat → List Tk → Prop
  | _, [] => True
  | e, t :: r => okT t ∧ ∃ a : Nat, t.f1 = (a : Int) ∧ e ≤ a ∧ (∃ rest, bs.drop a = wof t ++ rest) ∧ Placed bs (a + (wof t).length) r
theorem Placed.weak {bs : List Int} : ∀ {e e' : Nat} {ts : List Tk}, Placed bs e ts → e' ≤ e → Placed bs e' ts
  | _, _, [], _, _ => trivial
  | _, _, _ :: _, ⟨h1, a, h2, h3, h4, h5⟩, h => ⟨h1, a, h2, Nat.le_trans h h3, h4, h5⟩
def Rng (l : List Int) : Prop := ∀ x ∈ l, 0 ≤ x ∧ x ≤ 255
theorem opIdx_ne (c : Int) : opIdx c ≠ 2 := by unfold opIdx; repeat' split
                                               all_goals omega
/-- What has been read stands where it says. -/
def Inv (bs : List Int) (i : Nat) (l : List Int) : St → Prop
  | .sk => True
  | .nt => True
  | .wd a acc => bs.drop a = acc ++ l ∧ a + acc.length = i ∧ Rng acc ∧ ∃ c r, acc = c :: r ∧ pBlank c = false ∧ c ≠ 35 ∧ pLetter c = true ∧ ∀ x ∈ r, pWord x = true
  | .qt a acc => bs.drop a = (34 :: escL acc) ++ l ∧ a + 1 + (escL acc).length = i ∧ Rng acc ∧ ∀ x ∈ acc, x ≠ 10
  | .es a p acc => bs.drop a = (34 :: escL acc) ++ 92 :: l ∧ a + 1 + (escL acc).length + 1 = i ∧ Rng acc ∧ ∀ x ∈ acc, x ≠ 10
def begins (i : Nat) : St → Nat
  | .sk => i
  | .nt => i
  | .wd a _ => a
  | .qt a _ => a
  | .es a _ _ => a
theorem sm_placed (bs : List Int) : ∀ l i st ts out, bs.drop i = l → Rng l → Inv bs i l st → sm i st ts l = .good out → ∃ new, out = ts ++ new ∧ Placed bs (begins i st) new := by
  intro l
  induction l with
  | nil =>
    intro i st ts out hd hr hI e
    rw [sm] at e
    cases st with
    | sk => simp only [fin, Out.good.injEq] at e; exact ⟨[], by simp [e], trivial⟩
    | nt => simp only [fin, Out.good.injEq] at e; exact ⟨[], by simp [e], trivial⟩
    | wd a acc =>
      simp only [fin, Out.good.injEq] at e
      obtain ⟨h1, h2, h3, c, r, h4, h5⟩ := hI
      have hb := bytesOf_str acc h3
      have hw : wof (⟨1, a, strOfNums acc⟩ : Tk) = acc := by unfold wof; rw [if_neg (by simp)]; exact hb
      refine ⟨[⟨1, a, strOfNums acc⟩], e.symm, .inl ⟨rfl, c, r, by rw [hb, h4], h5⟩, a, rfl, Nat.le_refl _, ⟨[], by rw [hw]; exact h1⟩, trivial⟩
    | qt a acc => cases e
    | es a p acc => cases e
  | cons c l ih =>
    intro i st ts out hd hr hI e
    have hd1 : bs.drop (i + 1) = l := by
      rw [← List.drop_drop, hd]; rfl
    have hr1 : Rng l := fun x hx => hr x (List.mem_cons_of_mem _ hx)
    have hrc := hr c List.mem_cons_self
    rw [sm] at e
    -- from between tokens
    have base : ∀ ts, (match st1 i c ts with | .bad j => Out.bad j | .go st' ts' => sm (i + 1) st' ts' l) = .good out → ∃ new, out = ts ++ new ∧ Placed bs i new := by
      intro ts e
      unfold st1 at e
      by_cases p1 : pBlank c = true
      · rw [if_pos p1] at e
        obtain ⟨new, h1, h2⟩ := ih (i + 1) .sk ts out hd1 hr1 trivial e
        exact ⟨new, h1, h2.weak (Nat.le_succ _)⟩
      rw [if_neg p1] at e
      have p1' : pBlank c = false := by cases h : pBlank c with
        | true => exact absurd h p1
        | false => rfl
      by_cases p2 : c = 35
      · rw [if_pos p2] at e
        obtain ⟨new, h1, h2⟩ := ih (i + 1) .nt ts out hd1 hr1 trivial e
        exact ⟨new, h1, h2.weak (Nat.le_succ _)⟩
      rw [if_neg p2] at e
      by_cases p3 : pLetter c = true
      · rw [if_pos p3] at e
        obtain ⟨new, h1, h2⟩ := ih (i + 1) (.wd i [c]) ts out hd1 hr1 ⟨hd, rfl, by intro x hx; simp at hx; subst hx; exact hrc, c, [], rfl, p1', p2, p3, by simp⟩ e
        exact ⟨new, h1, h2⟩
      rw [if_neg p3] at e
      by_cases p4 : c = 34
      · rw [if_pos p4] at e
        obtain ⟨new, h1, h2⟩ := ih (i + 1) (.qt i []) ts out hd1 hr1 ⟨by rw [hd, p4]; rfl, rfl, (by intro x hx; cases hx), by simp⟩ e
        exact ⟨new, h1, h2⟩
      rw [if_neg p4] at e
      by_cases p5 : c = 40 ∨ c = 41 ∨ c = 59
      · rw [if_pos p5] at e
        obtain ⟨new, h1, h2⟩ := ih (i + 1) .sk _ out hd1 hr1 trivial e
        have hb : bytesOf (strOfNums [c]) = [c] := bytesOf_str [c] (by intro x hx; simp at hx; subst hx; exact hrc)
        have hw : wof (⟨opIdx c, i, strOfNums [c]⟩ : Tk) = [c] := by unfold wof; rw [if_neg (opIdx_ne c)]; exact hb
        refine ⟨⟨opIdx c, i, strOfNums [c]⟩ :: new, by rw [h1]; simp, .inr (.inr ⟨c, p5, rfl, hb⟩), i, rfl, Nat.le_refl _, ⟨l, by rw [hw]; exact hd⟩, ?_⟩
        rw [hw]; exact h2
      · rw [if_neg p5] at e; cases e
    cases st with
    | sk => exact base ts e
    | nt =>
      simp only [step] at e
      by_cases p : c = 10
      · rw [if_pos p] at e
        obtain ⟨new, h1, h2⟩ := ih (i + 1) .sk ts out hd1 hr1 trivial e
        exact ⟨new, h1, h2.weak (Nat.le_succ _)⟩
      · rw [if_neg p] at e
        obtain ⟨new, h1, h2⟩ := ih (i + 1) .nt ts out hd1 hr1 trivial e
        exact ⟨new, h1, h2.weak (Nat.le_succ _)⟩
    | wd a acc =>
      obtain ⟨h1, h2, h3, c0, r, h4, h5, h6, h7, h8⟩ := hI
      simp only [step] at e
      by_cases p : pWord c = true
      · rw [if_pos p] at e
        refine ih (i + 1) (.wd a (acc ++ [c])) ts out hd1 hr1 ⟨by rw [h1]; simp, by rw [List.length_append, List.length_singleton]; omega, ?_, c0, r ++ [c], by rw [h4]; rfl, h5, h6, h7, ?_⟩ e
        · intro x hx; rcases List.mem_append.1 hx with hx | hx
          · exact h3 x hx
          · simp at hx; subst hx; exact hrc
        · intro x hx; rcases List.mem_append.1 hx with hx | hx
          · exact h8 x hx
          · simp at hx; subst hx; exact p
      · rw [if_neg p] at e
        obtain ⟨new, hn1, hn2⟩ := base _ e
        have hb := bytesOf_str acc h3
        have hw : wof (⟨1, a, strOfNums acc⟩ : Tk) = acc := by unfold wof; rw [if_neg (by simp)]; exact hb
        refine ⟨⟨1, a, strOfNums acc⟩ :: new, by rw [hn1]; simp, .inl ⟨rfl, c0, r, by rw [hb, h4], h5, h6, h7, h8⟩, a, rfl, Nat.le_refl _, ⟨c :: l, by rw [hw]; exact h1⟩, ?_⟩
        rw [hw, h2]; exact hn2
    | qt a acc =>
      obtain ⟨h1, h2, h3, h4⟩ := hI
      simp only [step] at e
      by_cases p1 : c = 34
      · rw [if_pos p1] at e
        obtain ⟨new, hn1, hn2⟩ := ih (i + 1) .sk _ out hd1 hr1 trivial e
        have hb := bytesOf_str acc h3
        have hw : wof (⟨2, a, strOfNums acc⟩ : Tk) = 34 :: (escL acc ++ [34]) := by unfold wof; rw [if_pos rfl]; show 34 :: (escL (bytesOf (strOfNums acc)) ++ [34]) = _; rw [hb]
        refine ⟨⟨2, a, strOfNums acc⟩ :: new, by rw [hn1]; simp, .inr (.inl ⟨rfl, by show ∀ x ∈ bytesOf (strOfNums acc), x ≠ 10; rw [hb]; exact h4⟩), a, rfl, Nat.le_refl _, ⟨l, by rw [hw, h1, p1]; simp⟩, ?_⟩
        rw [hw]
        have : a + (34 :: (escL acc ++ [34])).length = i + 1 := by simp; omega
        rw [this]; exact hn2
      · rw [if_neg p1] at e
        by_cases p2 : c = 10
        · rw [if_pos p2] at e; cases e
        · rw [if_neg p2] at e
          by_cases p3 : c = 92
          · rw [if_pos p3] at e
            exact ih (i + 1) (.es a i acc) ts out hd1 hr1 ⟨by rw [h1, p3], by omega, h3, h4⟩ e
          · rw [if_neg p3] at e
            have he : escL (acc ++ [c]) = escL acc ++ [c] := by rw [escL_app, escL_cons, escL_nil, if_neg (by omega)]; rfl
            refine ih (i + 1) (.qt a (acc ++ [c])) ts out hd1 hr1 ⟨by rw [h1, he]; simp, by rw [he, List.length_append, List.length_singleton]; omega, ?_, ?_⟩ e
            · intro x hx; rcases List.mem_append.1 hx with hx | hx
              · exact h3 x hx
              · simp at hx; subst hx; exact hrc
            · intro x hx; rcases List.mem_append.1 hx with hx | hx
              · exact h4 x hx
              · simp at hx; subst hx; exact p2
    | es a p acc =>
      obtain ⟨h1, h2, h3, h4⟩ := hI
      simp only [step] at e
      by_cases p1 : c = 34 ∨ c = 92
      · rw [if_pos p1] at e
        have he : escL (acc ++ [c]) = escL acc ++ [92, c] := by rw [escL_app, escL_cons, escL_nil, if_pos p1]; rfl
        refine ih (i + 1) (.qt a (acc ++ [c])) ts out hd1 hr1 ⟨by rw [h1, he]; simp, by rw [he, List.length_append]; simp; omega, ?_, ?_⟩ e
        · intro x hx; rcases List.mem_append.1 hx with hx | hx
          · exact h3 x hx
          · simp at hx; subst hx; exact hrc
        · intro x hx; rcases List.mem_append.1 hx with hx | hx
          · exact h4 x hx
          · simp at hx; subst hx; omega
      · rw [if_neg p1] at e; cases e
/-- The tokens of a text stand where they say. -/
theorem placed (s : ByteArray) (ts : List Tk) (h : sm 0 .sk [] (bytesOf s) = .good ts) : Placed (bytesOf s) 0 ts := by
  obtain ⟨new, h1, h2⟩ := sm_placed (bytesOf s) (bytesOf s) 0 .sk [] ts rfl (bytesOf_range s) trivial h
  rw [h1]; exact h2
end Go.Proofs.YtngedmioeodmfaaDoor.Pu
namespace Go.Proofs.YtngedmioeodmfaaDoor.Pr
open Go.RowKit Go.Proofs.YtngedmioeodmfaaDoorW.PrintWords Go.Proofs.YtngedmioeodmfaaDoorW.PrintLast Go.Proofs.YtngedmioeodmfaaDoorW.PrintMore
attribute [local go_sem] max2_int min2_int max_two min_two max_three min_three max_four min_four   -- for this text's walks alone
set_option linter.unusedVariables false
set_option linter.unusedSimpArgs false
end Go.Proofs.YtngedmioeodmfaaDoor.Pr
namespace Go.Proofs.YtngedmioeodmfaaDoor.Pu
open Go.RowKit Go.Proofs.YtngedmioeodmfaaDoor.Pr Go.Proofs.YtngedmioeodmfaaDoorW.PrintWords Go.Proofs.YtngedmioeodmfaaDoor.Lx
set_option linter.unusedVariables false
set_option linter.unusedSimpArgs false
theorem runeD_ascii (c : UInt8) (l : List UInt8) (h : c.toNat < 128) : runeD (c :: l) = 1 := by
  have := runeD_eq ⟨(c :: l).toArray⟩ (by simp [ByteArray.size])
  have e : bt ⟨(c :: l).toArray⟩ 0 = (c.toNat : Int) := by rw [show (0 : Int) = ((0 : Nat) : Int) from rfl, bt_getD]; rfl
  rw [e] at this
  unfold runeLen at this
  rw [if_pos (by omega)] at this
  have e2 : runeD (c :: l) = runeD (⟨(c :: l).toArray⟩ : ByteArray).data.toList := rfl
  rw [e2]; omega
theorem brkL_ascii (c : UInt8) (l : List UInt8) (h : c.toNat < 128) : brkL (c :: l) = 1 + brkL l := by
  rw [brkL_step _ (by simp), runeD_ascii c l h, if_neg (by omega)]
  rfl
theorem data_str (xs : List Int) : (strOfNums xs).data.toList = xs.map fun n => n.toNat.toUInt8 := by rw [strOfNums_data]
theorem tokM_good (x : ByteArray) (h : x.size ≤ 3000) (hv : brkL x.data.toList = x.size) {ts : List Tk} (hs : sm 0 .sk [] (bytesOf x) = .good ts) : tokM x = (ts, 0, 0) := by
  unfold tokM
  rw [if_neg (by omega), hs]
  simp only
  unfold wrongN
  rw [data_length, if_pos hv, if_neg (by omega)]
end Go.Proofs.YtngedmioeodmfaaDoor.Pu
namespace Go.Proofs.YtngedmioeodmfaaDoor.Pu
open Go.RowKit Go.Proofs.YtngedmioeodmfaaDoor.Pr Go.Proofs.YtngedmioeodmfaaDoorW.PrintWords Go.Proofs.YtngedmioeodmfaaDoor.Lx
set_option linter.unusedVariables false
set_option linter.unusedSimpArgs false
def g (l : List UInt8) (j : Nat) : Int := ((l.getD j 0).toNat : Int)
theorem runeD_list (l : List UInt8) (h : l ≠ []) : (runeD l : Int) = runeLen l.length (g l 0) (g l 1) (g l 2) (g l 3) := by
  have hp : 0 < l.length := List.length_pos_iff.2 h
  have := runeD_eq ⟨l.toArray⟩ (by simpa [ByteArray.size] using hp)
  have e0 := bt_getD ⟨l.toArray⟩ 0
  have e1 := bt_getD ⟨l.toArray⟩ 1
  have e2 := bt_getD ⟨l.toArray⟩ 2
  have e3 := bt_getD ⟨l.toArray⟩ 3
  have hs : ((ByteArray.mk l.toArray).size : Int) = l.length := by simp [ByteArray.size]
  rw [show (1 : Int) = ((1 : Nat) : Int) from rfl, show (2 : Int) = ((2 : Nat) : Int) from rfl, show (3 : Int) = ((3 : Nat) : Int) from rfl, show (0 : Int) = ((0 : Nat) : Int) from rfl, e0, e1, e2, e3, hs] at this
  exact this
theorem g_out (l : List UInt8) (j : Nat) (h : l.length ≤ j) : g l j = 0 := by
  unfold g
  rw [List.getD_eq_getElem?_getD, List.getElem?_eq_none h]; rfl
theorem g_left (A B : List UInt8) (j : Nat) (h : j < A.length) : g (A ++ B) j = g A j := by
  unfold g
  rw [List.getD_eq_getElem?_getD, List.getD_eq_getElem?_getD, List.getElem?_append_left h]
theorem g_at (A : List UInt8) (c : UInt8) (B : List UInt8) : g (A ++ c :: B) A.length = (c.toNat : Int) := by
  unfold g
  rw [List.getD_eq_getElem?_getD, List.getElem?_append_right (Nat.le_refl _), Nat.sub_self]; rfl
theorem runeD_ext (A B : List UInt8) (hA : A ≠ []) (h : runeD A ≠ 0) : runeD (A ++ B) = runeD A := by
  have hp : 0 < A.length := List.length_pos_iff.2 hA
  have e1 := runeD_list A hA
  have e2 := runeD_list (A ++ B) (by simp [hA])
  rw [List.length_append] at e2
  have hb := List.length_pos_iff.2 hA
  have h0 := g_left A B 0
  have h1 := g_left A B 1
  have h2 := g_left A B 2
  have h3 := g_left A B 3
  have o1 := g_out A 1
  have o2 := g_out A 2
  have o3 := g_out A 3
  generalize g (A ++ B) 0 = y0 at *
  generalize g (A ++ B) 1 = y1 at *
  generalize g (A ++ B) 2 = y2 at *
  generalize g (A ++ B) 3 = y3 at *
  generalize g A 0 = x0 at *
  generalize g A 1 = x1 at *
  generalize g A 2 = x2 at *
  generalize g A 3 = x3 at *
  generalize runeD (A ++ B) = r2 at *
  generalize runeD A = r1 at *
  generalize A.length = n at *
  generalize B.length = m at *
  have h0' := h0 hp
  subst h0'
  by_cases n1 : 1 < n
  · have h1' := h1 n1
    subst h1'
    by_cases n2 : 2 < n
    · have h2' := h2 n2
      subst h2'
      by_cases n3 : 3 < n
      · have h3' := h3 n3
        subst h3'
        unfold runeLen at e1 e2
        (repeat' split at e1) <;> (repeat' split at e2) <;> omega
      · have o := o3 (by omega)
        subst o
        unfold runeLen at e1 e2
        (repeat' split at e1) <;> (repeat' split at e2) <;> omega
    · have o := o2 (by omega)
      subst o
      unfold runeLen at e1 e2
      (repeat' split at e1) <;> (repeat' split at e2) <;> omega
  · have o := o1 (by omega)
    subst o
    unfold runeLen at e1 e2
    (repeat' split at e1) <;> (repeat' split at e2) <;> omega
theorem runeD_cut (A : List UInt8) (c : UInt8) (B : List UInt8) (hA : A ≠ []) (hc : c.toNat < 128) : runeD (A ++ c :: B) = runeD A := by
  have hp : 0 < A.length := List.length_pos_iff.2 hA
  by_cases h : runeD A ≠ 0
  · exact runeD_ext A _ hA h
  · have h : runeD A = 0 := by omega
    have e1 := runeD_list A hA
    have e2 := runeD_list (A ++ c :: B) (by simp [hA])
    rw [List.length_append, List.length_cons] at e2
    have h0 := g_left A (c :: B) 0
    have h1 := g_left A (c :: B) 1
    have h2 := g_left A (c :: B) 2
    have h3 := g_left A (c :: B) 3
    have ha := g_at A c B
    by_cases n1 : A.length = 1
    · rw [n1] at ha e1 e2 h0
      rw [h0 (by omega), ha] at e2
      generalize g A 0 = x0 at *
      unfold runeLen at e1 e2
      (repeat' split at e1) <;> (repeat' split at e2) <;> omega
    · by_cases n2 : A.length = 2
      · rw [n2] at ha e1 e2 h0 h1
        rw [h0 (by omega), h1 (by omega), ha] at e2
        generalize g A 0 = x0 at *
        generalize g A 1 = x1 at *
        unfold runeLen at e1 e2
        (repeat' split at e1) <;> (repeat' split at e2) <;> omega
      · by_cases n3 : A.length = 3
        · rw [n3] at ha e1 e2 h0 h1 h2
          rw [h0 (by omega), h1 (by omega), h2 (by omega), ha] at e2
          generalize g A 0 = x0 at *
          generalize g A 1 = x1 at *
          generalize g A 2 = x2 at *
          unfold runeLen at e1 e2
          (repeat' split at e1) <;> (repeat' split at e2) <;> omega
        · rw [h0 (by omega), h1 (by omega), h2 (by omega), h3 (by omega)] at e2
          generalize g A 0 = x0 at *
          generalize g A 1 = x1 at *
          generalize g A 2 = x2 at *
          generalize g A 3 = x3 at *
          unfold runeLen at e1 e2
          (repeat' split at e1) <;> (repeat' split at e2) <;> omega
theorem brkL_le (l : List UInt8) : brkL l ≤ l.length := brk_le _ _
theorem brkL_cut (c : UInt8) (B : List UInt8) (hc : c.toNat < 128) : ∀ n (A : List UInt8), A.length ≤ n → brkL (A ++ c :: B) = if brkL A = A.length then A.length + 1 + brkL B else brkL A := by
  intro n
  induction n with
  | zero =>
    intro A h
    have : A = [] := List.length_eq_zero_iff.1 (by omega)
    subst this
    rw [List.nil_append, brkL_ascii c B hc, if_pos (show brkL [] = ([] : List UInt8).length from rfl)]; simp
  | succ n ih =>
    intro A h
    by_cases hA : A = []
    · subst hA
      rw [List.nil_append, brkL_ascii c B hc, if_pos (show brkL [] = ([] : List UInt8).length from rfl)]; simp
    · have hp : 0 < A.length := List.length_pos_iff.2 hA
      rw [brkL_step (A ++ c :: B) (by simp), runeD_cut A c B hA hc, brkL_step A hA]
      by_cases h0 : runeD A = 0
      · rw [if_pos h0, if_pos h0, if_neg (by omega)]
      · have hle := runeD_le A hA
        rw [if_neg h0, if_neg h0, List.drop_append_of_le_length hle, ih (A.drop (runeD A)) (by rw [List.length_drop]; omega), List.length_drop]
        by_cases q : brkL (A.drop (runeD A)) = A.length - runeD A
        · rw [if_pos q, if_pos (by omega)]; omega
        · rw [if_neg q, if_neg (by omega)]
/-- A row of numbers as bytes is well formed. -/
def toU (l : List Int) : List UInt8 := l.map fun n => n.toNat.toUInt8
def V (l : List Int) : Prop := brkL (toU l) = l.length
theorem toU_app (a b : List Int) : toU (a ++ b) = toU a ++ toU b := by simp [toU]
theorem toU_len (l : List Int) : (toU l).length = l.length := by simp [toU]
theorem toU_bytes (x : ByteArray) : toU (bytesOf x) = x.data.toList := by
  have := congrArg (fun y : ByteArray => y.data.toList) (str_bytesOf x)
  simp only [data_str] at this
  exact this
theorem V_bytes (x : ByteArray) : V (bytesOf x) ↔ brkL x.data.toList = x.size := by
  unfold V; rw [toU_bytes, bytesOf_length]
theorem asc {c : Int} (h0 : 0 ≤ c) (h1 : c < 128) : (c.toNat.toUInt8).toNat < 128 := by
  simp; omega
theorem V_split (A : List Int) (c : Int) (B : List Int) (h0 : 0 ≤ c) (h1 : c < 128) : V (A ++ c :: B) ↔ (V A ∧ V B) := by
  unfold V
  rw [toU_app, show toU (c :: B) = c.toNat.toUInt8 :: toU B from rfl, brkL_cut _ _ (asc h0 h1) _ _ (Nat.le_refl _), toU_len, List.length_append, List.length_cons]
  have hA := brkL_le (toU A)
  have hB := brkL_le (toU B)
  rw [toU_len] at hA hB
  by_cases q : brkL (toU A) = A.length
  · rw [if_pos q]; constructor
    · intro h; exact ⟨q, by omega⟩
    · intro h; omega
  · rw [if_neg q]; constructor
    · intro h; omega
    · intro h; exact absurd h.1 q
theorem tokM_of (x : ByteArray) (h : x.size ≤ 3000) (hv : V (bytesOf x)) {ts : List Tk} (hs : sm 0 .sk [] (bytesOf x) = .good ts) : tokM x = (ts, 0, 0) := tokM_good x h ((V_bytes x).1 hv) hs
end Go.Proofs.YtngedmioeodmfaaDoor.Pu
namespace Go.Proofs.YtngedmioeodmfaaDoor.Pu
open Go.RowKit Go.Proofs.YtngedmioeodmfaaDoor.Pr Go.Proofs.YtngedmioeodmfaaDoorW.PrintWords Go.Proofs.YtngedmioeodmfaaDoor.Lx
set_option linter.unusedVariables false
set_option linter.unusedSimpArgs false
theorem escL_ge (l : List Int) : l.length ≤ (escL l).length := by
  induction l with
  | nil => simp [escL]
  | cons c l ih =>
    rw [escL_cons, List.length_append, List.length_cons]
    split
    all_goals simp
    all_goals omega
theorem wof_pos {t : Tk} (h : okT t) : 1 ≤ (wof t).length := by
  unfold wof
  rcases h with ⟨h1, c, l, h2, _⟩ | ⟨h1, _⟩ | ⟨c, _, h1, h2⟩
  · rw [if_neg (by omega), h2]; simp
  · rw [if_pos h1]; simp
  · rw [if_neg (by rw [h1]; exact opIdx_ne c), h2]; simp
theorem Placed.len {bs : List Int} : ∀ {e : Nat} {ts : List Tk}, Placed bs e ts → e ≤ bs.length → ts.length + e ≤ bs.length
  | e, [], _, h => by simpa using h
  | e, t :: r, ⟨hok, a, ha, hea, ⟨rest, hr⟩, hp⟩, h => by
    have h1 := wof_pos hok
    have h2 := congrArg List.length hr
    rw [List.length_drop, List.length_append] at h2
    have := Placed.len hp (by omega)
    rw [List.length_cons]; omega
theorem tokM_cases (x : ByteArray) : (∃ ts, tokM x = (ts, 0, 0) ∧ sm 0 .sk [] (bytesOf x) = .good ts ∧ V (bytesOf x) ∧ x.size ≤ 3000) ∨ (∃ j : Nat, tokM x = ([], 8, (j : Int)) ∧ j ≤ x.size) ∨ (tokM x = ([], 2, 0) ∧ x.size > 3000) := by
  unfold tokM
  by_cases h : x.size > 3000
  · rw [if_pos h]; exact .inr (.inr ⟨rfl, h⟩)
  · rw [if_neg h]
    have hw : (wrongN x.data.toList ≤ x.size) ∨ (wrongN x.data.toList = x.size + 1 ∧ brkL x.data.toList = x.size) := by
      unfold wrongN
      rw [data_length]
      split
      · rename_i q; exact .inr ⟨rfl, q⟩
      · have := brkL_le x.data.toList; rw [data_length] at this; exact .inl this
    cases hs : sm 0 .sk [] (bytesOf x) with
    | bad j =>
      have hj : j ≤ x.size := sm_bad_le x x.size 0 .sk [] j (by omega) (by omega) (fun _ _ _ e => by cases e) hs
      refine .inr (.inl ⟨min (wrongN x.data.toList) j, ?_, by omega⟩)
      simp only; congr 2; omega
    | good ts =>
      simp only
      rcases hw with hw | ⟨hw, hv⟩
      · rw [if_pos (by omega)]; exact .inr (.inl ⟨wrongN x.data.toList, rfl, hw⟩)
      · rw [if_neg (by omega)]; exact .inl ⟨ts, rfl, rfl, (V_bytes x).2 hv, by omega⟩
end Go.Proofs.YtngedmioeodmfaaDoor.Pu
namespace Go.Proofs.YtngedmioeodmfaaDoor.Pu
open Go.RowKit Go.Proofs.YtngedmioeodmfaaDoor.Pr Go.Proofs.YtngedmioeodmfaaDoorW.PrintWords Go.Proofs.YtngedmioeodmfaaDoor.Lx
set_option linter.unusedVariables false
set_option linter.unusedSimpArgs false
def key (t : Tk) : Int × ByteArray := (t.f0, t.f2)
theorem Placed.all {bs : List Int} : ∀ {e : Nat} {ts : List Tk}, Placed bs e ts → ∀ t ∈ ts, okT t ∧ ∃ (a : Nat) (rest : List Int), bs.drop a = wof t ++ rest
  | _, [], _, t, h => by cases h
  | _, x :: r, ⟨hok, a, _, _, ⟨rest, hr⟩, hp⟩, t, h => by
    rcases List.mem_cons.1 h with rfl | h
    · exact ⟨hok, a, rest, hr⟩
    · exact Placed.all hp t h
end Go.Proofs.YtngedmioeodmfaaDoor.Pu
namespace Go.Proofs.YtngedmioeodmfaaDoor.Pu
open Go.RowKit Go.Proofs.YtngedmioeodmfaaDoor.Pr Go.Proofs.YtngedmioeodmfaaDoorW.PrintWords Go.Proofs.YtngedmioeodmfaaDoor.Lx
set_option linter.unusedVariables false
set_option linter.unusedSimpArgs false
theorem w10 : pBlank 10 = true ∧ pWord 10 = false := by decide +kernel
end Go.Proofs.YtngedmioeodmfaaDoor.Pu
