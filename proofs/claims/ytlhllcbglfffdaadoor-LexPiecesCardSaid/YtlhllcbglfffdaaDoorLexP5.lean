/- Texts put together, and whether they are well formed. -/
import Derived.Test.YtlhllcbglfffdaaDoorLexP4
namespace Go.Proofs.YtlhllcbglfffdaaDoor.Pu
open Go.RowKit Go.Proofs.YtlhllcbglfffdaaDoor.Pr Go.Proofs.YtlhllcbglfffdaaDoorW.PrintWords Go.Proofs.YtlhllcbglfffdaaDoor.Lx
set_option linter.unusedVariables false
set_option linter.unusedSimpArgs false

def g (l : List UInt8) (j : Nat) : Int := ((l.getD j 0).toNat : Int)
theorem runeD_list (l : List UInt8) (h : l ≠ []) : (runeD l : Int) = runeLen l.length (g l 0) (g l 1) (g l 2) (g l 3) := by
  have hp : 0 < l.length := List.length_pos_iff.2 h
  have := runeD_eq ⟨l.toArray⟩ (by simpa [ByteArray.size] using hp)
  have e0 := bt_getD ⟨l.toArray⟩ 0
  have e1 := bt_getD ⟨l.toArray⟩ 1
  have e2 := bt_getD ⟨l.toArray⟩ 2
  have e3 := bt_getD ⟨l.toArray⟩ 3
  have hs : ((ByteArray.mk l.toArray).size : Int) = l.length := by simp [ByteArray.size]
  rw [show (1 : Int) = ((1 : Nat) : Int) from rfl, show (2 : Int) = ((2 : Nat) : Int) from rfl, show (3 : Int) = ((3 : Nat) : Int) from rfl, show (0 : Int) = ((0 : Nat) : Int) from rfl, e0, e1, e2, e3, hs] at this
  exact this
theorem g_range (l : List UInt8) (j : Nat) : 0 ≤ g l j ∧ g l j ≤ 255 := by
  unfold g
  have := UInt8.toNat_lt (l.getD j 0)
  omega
theorem g_out (l : List UInt8) (j : Nat) (h : l.length ≤ j) : g l j = 0 := by
  unfold g
  rw [List.getD_eq_getElem?_getD, List.getElem?_eq_none h]; rfl
theorem g_left (A B : List UInt8) (j : Nat) (h : j < A.length) : g (A ++ B) j = g A j := by
  unfold g
  rw [List.getD_eq_getElem?_getD, List.getD_eq_getElem?_getD, List.getElem?_append_left h]
theorem g_at (A : List UInt8) (c : UInt8) (B : List UInt8) : g (A ++ c :: B) A.length = (c.toNat : Int) := by
  unfold g
  rw [List.getD_eq_getElem?_getD, List.getElem?_append_right (Nat.le_refl _), Nat.sub_self]; rfl
theorem runeD_ext (A B : List UInt8) (hA : A ≠ []) (h : runeD A ≠ 0) : runeD (A ++ B) = runeD A := by
  have hp : 0 < A.length := List.length_pos_iff.2 hA
  have e1 := runeD_list A hA
  have e2 := runeD_list (A ++ B) (by simp [hA])
  rw [List.length_append] at e2
  have hb := List.length_pos_iff.2 hA
  have h0 := g_left A B 0
  have h1 := g_left A B 1
  have h2 := g_left A B 2
  have h3 := g_left A B 3
  have o1 := g_out A 1
  have o2 := g_out A 2
  have o3 := g_out A 3
  generalize g (A ++ B) 0 = y0 at *
  generalize g (A ++ B) 1 = y1 at *
  generalize g (A ++ B) 2 = y2 at *
  generalize g (A ++ B) 3 = y3 at *
  generalize g A 0 = x0 at *
  generalize g A 1 = x1 at *
  generalize g A 2 = x2 at *
  generalize g A 3 = x3 at *
  generalize runeD (A ++ B) = r2 at *
  generalize runeD A = r1 at *
  generalize A.length = n at *
  generalize B.length = m at *
  have h0' := h0 hp
  subst h0'
  by_cases n1 : 1 < n
  · have h1' := h1 n1
    subst h1'
    by_cases n2 : 2 < n
    · have h2' := h2 n2
      subst h2'
      by_cases n3 : 3 < n
      · have h3' := h3 n3
        subst h3'
        unfold runeLen at e1 e2
        (repeat' split at e1) <;> (repeat' split at e2) <;> omega
      · have o := o3 (by omega)
        subst o
        unfold runeLen at e1 e2
        (repeat' split at e1) <;> (repeat' split at e2) <;> omega
    · have o := o2 (by omega)
      subst o
      unfold runeLen at e1 e2
      (repeat' split at e1) <;> (repeat' split at e2) <;> omega
  · have o := o1 (by omega)
    subst o
    unfold runeLen at e1 e2
    (repeat' split at e1) <;> (repeat' split at e2) <;> omega
theorem runeD_cut (A : List UInt8) (c : UInt8) (B : List UInt8) (hA : A ≠ []) (hc : c.toNat < 128) : runeD (A ++ c :: B) = runeD A := by
  have hp : 0 < A.length := List.length_pos_iff.2 hA
  by_cases h : runeD A ≠ 0
  · exact runeD_ext A _ hA h
  · have h : runeD A = 0 := by omega
    have e1 := runeD_list A hA
    have e2 := runeD_list (A ++ c :: B) (by simp [hA])
    rw [List.length_append, List.length_cons] at e2
    have h0 := g_left A (c :: B) 0
    have h1 := g_left A (c :: B) 1
    have h2 := g_left A (c :: B) 2
    have h3 := g_left A (c :: B) 3
    have ha := g_at A c B
    by_cases n1 : A.length = 1
    · rw [n1] at ha e1 e2 h0
      rw [h0 (by omega), ha] at e2
      generalize g A 0 = x0 at *
      unfold runeLen at e1 e2
      (repeat' split at e1) <;> (repeat' split at e2) <;> omega
    · by_cases n2 : A.length = 2
      · rw [n2] at ha e1 e2 h0 h1
        rw [h0 (by omega), h1 (by omega), ha] at e2
        generalize g A 0 = x0 at *
        generalize g A 1 = x1 at *
        unfold runeLen at e1 e2
        (repeat' split at e1) <;> (repeat' split at e2) <;> omega
      · by_cases n3 : A.length = 3
        · rw [n3] at ha e1 e2 h0 h1 h2
          rw [h0 (by omega), h1 (by omega), h2 (by omega), ha] at e2
          generalize g A 0 = x0 at *
          generalize g A 1 = x1 at *
          generalize g A 2 = x2 at *
          unfold runeLen at e1 e2
          (repeat' split at e1) <;> (repeat' split at e2) <;> omega
        · rw [h0 (by omega), h1 (by omega), h2 (by omega), h3 (by omega)] at e2
          generalize g A 0 = x0 at *
          generalize g A 1 = x1 at *
          generalize g A 2 = x2 at *
          generalize g A 3 = x3 at *
          unfold runeLen at e1 e2
          (repeat' split at e1) <;> (repeat' split at e2) <;> omega
theorem brkL_le (l : List UInt8) : brkL l ≤ l.length := brk_le _ _
theorem brkL_cut (c : UInt8) (B : List UInt8) (hc : c.toNat < 128) : ∀ n (A : List UInt8), A.length ≤ n → brkL (A ++ c :: B) = if brkL A = A.length then A.length + 1 + brkL B else brkL A := by
  intro n
  induction n with
  | zero =>
    intro A h
    have : A = [] := List.length_eq_zero_iff.1 (by omega)
    subst this
    rw [List.nil_append, brkL_ascii c B hc, if_pos (show brkL [] = ([] : List UInt8).length from rfl)]; simp
  | succ n ih =>
    intro A h
    by_cases hA : A = []
    · subst hA
      rw [List.nil_append, brkL_ascii c B hc, if_pos (show brkL [] = ([] : List UInt8).length from rfl)]; simp
    · have hp : 0 < A.length := List.length_pos_iff.2 hA
      rw [brkL_step (A ++ c :: B) (by simp), runeD_cut A c B hA hc, brkL_step A hA]
      by_cases h0 : runeD A = 0
      · rw [if_pos h0, if_pos h0, if_neg (by omega)]
      · have hle := runeD_le A hA
        rw [if_neg h0, if_neg h0, List.drop_append_of_le_length hle, ih (A.drop (runeD A)) (by rw [List.length_drop]; omega), List.length_drop]
        by_cases q : brkL (A.drop (runeD A)) = A.length - runeD A
        · rw [if_pos q, if_pos (by omega)]; omega
        · rw [if_neg q, if_neg (by omega)]
theorem brkL_app : ∀ n (A B : List UInt8), A.length ≤ n → brkL A = A.length → brkL (A ++ B) = A.length + brkL B := by
  intro n
  induction n with
  | zero =>
    intro A B h _
    have : A = [] := List.length_eq_zero_iff.1 (by omega)
    subst this
    simp
  | succ n ih =>
    intro A B h hv
    by_cases hA : A = []
    · subst hA; simp
    · have hp : 0 < A.length := List.length_pos_iff.2 hA
      rw [brkL_step A hA] at hv
      by_cases h0 : runeD A = 0
      · rw [if_pos h0] at hv; omega
      · rw [if_neg h0] at hv
        have hle := runeD_le A hA
        have hd : (A.drop (runeD A)).length = A.length - runeD A := List.length_drop
        rw [brkL_step (A ++ B) (by simp [hA]), runeD_ext A B hA h0, if_neg h0, List.drop_append_of_le_length hle, ih (A.drop (runeD A)) B (by omega) (by omega)]
        omega

/-- A row of numbers as bytes is well formed. -/
def toU (l : List Int) : List UInt8 := l.map fun n => n.toNat.toUInt8
def V (l : List Int) : Prop := brkL (toU l) = l.length
theorem toU_app (a b : List Int) : toU (a ++ b) = toU a ++ toU b := by simp [toU]
theorem toU_len (l : List Int) : (toU l).length = l.length := by simp [toU]
theorem toU_bytes (x : ByteArray) : toU (bytesOf x) = x.data.toList := by
  have := congrArg (fun y : ByteArray => y.data.toList) (str_bytesOf x)
  simp only [data_str] at this
  exact this
theorem V_bytes (x : ByteArray) : V (bytesOf x) ↔ brkL x.data.toList = x.size := by
  unfold V; rw [toU_bytes, bytesOf_length]
theorem asc {c : Int} (h0 : 0 ≤ c) (h1 : c < 128) : (c.toNat.toUInt8).toNat < 128 := by
  simp; omega
theorem V_nil : V [] := rfl
theorem V_split (A : List Int) (c : Int) (B : List Int) (h0 : 0 ≤ c) (h1 : c < 128) : V (A ++ c :: B) ↔ (V A ∧ V B) := by
  unfold V
  rw [toU_app, show toU (c :: B) = c.toNat.toUInt8 :: toU B from rfl, brkL_cut _ _ (asc h0 h1) _ _ (Nat.le_refl _), toU_len, List.length_append, List.length_cons]
  have hA := brkL_le (toU A)
  have hB := brkL_le (toU B)
  rw [toU_len] at hA hB
  by_cases q : brkL (toU A) = A.length
  · rw [if_pos q]; constructor
    · intro h; exact ⟨q, by omega⟩
    · intro h; omega
  · rw [if_neg q]; constructor
    · intro h; omega
    · intro h; exact absurd h.1 q
theorem V_app {A B : List Int} (hA : V A) (hB : V B) : V (A ++ B) := by
  unfold V at *
  rw [toU_app, brkL_app _ _ _ (Nat.le_refl _) (by rw [toU_len]; exact hA), toU_len, hB, List.length_append]
theorem V_ascii (l : List Int) (h : ∀ c ∈ l, 0 ≤ c ∧ c < 128) : V l := by
  unfold V
  rw [brkL_all_ascii, toU_len]
  intro c hc
  obtain ⟨n, hn, rfl⟩ := List.mem_map.1 hc
  exact asc (h n hn).1 (h n hn).2
theorem V_escL : ∀ (l A : List Int), V (A ++ l) → V (A ++ escL l) := by
  intro l
  induction l with
  | nil => intro A h; exact h
  | cons c l ih =>
    intro A h
    rw [escL_cons]
    by_cases q : c = 34 ∨ c = 92
    · rw [if_pos q]
      have h2 := (V_split A c l (by omega) (by omega)).1 h
      have h3 : V (escL l) := ih [] h2.2
      exact (V_split A 92 (c :: escL l) (by omega) (by omega)).2 ⟨h2.1, (V_split [] c (escL l) (by omega) (by omega)).2 ⟨V_nil, h3⟩⟩
    · rw [if_neg q]
      have := ih (A ++ [c]) (by simpa using h)
      simpa using this
theorem V_quoteL {l : List Int} (h : V l) : V (quoteL l) := by
  unfold quoteL
  exact (V_split [] 34 _ (by omega) (by omega)).2 ⟨V_nil, (V_split (escL l) 34 [] (by omega) (by omega)).2 ⟨V_escL l [] h, V_nil⟩⟩
theorem bytesOf_app (a b : ByteArray) : bytesOf (a ++ b) = bytesOf a ++ bytesOf b := by
  unfold bytesOf
  simp [ByteArray.data_append]
theorem tokM_of (x : ByteArray) (h : x.size ≤ 3000) (hv : V (bytesOf x)) {ts : List Tk} (hs : sm 0 .sk [] (bytesOf x) = .good ts) : tokM x = (ts, 0, 0) := tokM_good x h ((V_bytes x).1 hv) hs

/-- The machine on a string, on blanks, on a note. -/
theorem rs_esc (a : Nat) (ts : List Tk) : ∀ l i acc, (∀ x ∈ l, x ≠ 10) → rs i (.qt a acc) ts (escL l) = .go (.qt a (acc ++ l)) ts := by
  intro l
  induction l with
  | nil => intro i acc _; rw [escL_nil, rs, List.append_nil]
  | cons c l ih =>
    intro i acc h
    have hl : ∀ x ∈ l, x ≠ 10 := fun x hx => h x (List.mem_cons_of_mem _ hx)
    have hc := h c List.mem_cons_self
    rw [escL_cons]
    by_cases q : c = 34 ∨ c = 92
    · rw [if_pos q]
      show rs i (.qt a acc) ts (92 :: c :: escL l) = _
      rw [rs]
      have s1 : step i 92 (.qt a acc) ts = .go (.es a i acc) ts := rfl
      rw [s1]
      simp only
      rw [rs]
      have s2 : step (i + 1) c (.es a i acc) ts = .go (.qt a (acc ++ [c])) ts := by simp only [step]; rw [if_pos q]
      rw [s2]
      simp only
      rw [ih _ _ hl, List.append_assoc]; rfl
    · rw [if_neg q]
      show rs i (.qt a acc) ts (c :: escL l) = _
      rw [rs]
      have s1 : step i c (.qt a acc) ts = .go (.qt a (acc ++ [c])) ts := by
        simp only [step]; rw [if_neg (fun h => q (.inl h)), if_neg hc, if_neg (fun h => q (.inr h))]
      rw [s1]
      simp only
      rw [ih _ _ hl, List.append_assoc]; rfl
theorem rs_quote (i : Nat) (ts : List Tk) (l : List Int) (h : ∀ x ∈ l, x ≠ 10) : rs i .sk ts (quoteL l) = .go .sk (ts ++ [⟨2, i, strOfNums l⟩]) := by
  unfold quoteL
  rw [rs]
  have s1 : step i 34 .sk ts = .go (.qt i []) ts := by simp only [step, st1, noword34.1, noword34.2]; rfl
  rw [s1]
  simp only
  rw [rs_app_go (rs_esc i ts l (i + 1) [] h), List.nil_append]
  rfl
theorem rs_blanks (n : Nat) : ∀ i ts, rs i .sk ts (List.replicate n 32) = .go .sk ts := by
  induction n with
  | zero => intro i ts; rfl
  | succ n ih =>
    intro i ts
    rw [List.replicate_succ, rs]
    have : step i 32 .sk ts = .go .sk ts := by
      have : pBlank 32 = true := by decide +kernel
      simp only [step, st1, this, if_true]
    rw [this]
    exact ih _ _
theorem rs_note (ts : List Tk) : ∀ l i, (∀ x ∈ l, x ≠ 10) → rs i .nt ts l = .go .nt ts := by
  intro l
  induction l with
  | nil => intro i _; rfl
  | cons c l ih =>
    intro i h
    rw [rs]
    have : step i c .nt ts = .go .nt ts := by simp only [step]; rw [if_neg (h c List.mem_cons_self)]
    rw [this]
    exact ih _ (fun x hx => h x (List.mem_cons_of_mem _ hx))
end Go.Proofs.YtlhllcbglfffdaaDoor.Pu
