/- What the percent package's functions and their references come to, on lists of numbers. -/
import Derived.Test.YtaogcafknbfkmaaDoorPuBase
namespace Go.Proofs.YtaogcafknbfkmaaDoor.Pu
open Go.RowKit Go.Proofs.YtaogcafknbfkmaaDoor.Pr Go.Proofs.YtaogcafknbfkmaaDoorW.PrintWords
set_option linter.unusedVariables false
set_option linter.unusedSimpArgs false

/-! ### In -/
def inS (c s : Int) : Bool := (percent_In.f c s).getD false

theorem fin_of {c : Int} (h0 : 0 ≤ c) (h1 : c ≤ 255) : ∃ q : Fin 256, (q.val : Int) = c := ⟨⟨c.toNat, by omega⟩, by simp; omega⟩

theorem in_all : ∀ c : Fin 256, ∀ s : Fin 4, ∃ b, percent_In.f (c.val : Int) ((s.val : Int) + 1) = some b ∧ parapetref9_In.f 30 (c.val : Int) ((s.val : Int) + 1) = some b := by
  have h : ∀ c : Fin 256, ∀ s : Fin 4, (percent_In.f (c.val : Int) ((s.val : Int) + 1)).isSome = true ∧ parapetref9_In.f 30 (c.val : Int) ((s.val : Int) + 1) = percent_In.f (c.val : Int) ((s.val : Int) + 1) := by decide +kernel
  intro c s
  obtain ⟨h1, h2⟩ := h c s
  obtain ⟨b, hb⟩ := Option.isSome_iff_exists.1 h1
  exact ⟨b, hb, h2.trans hb⟩

theorem in_both (c s : Int) (h0 : 0 ≤ c) (h1 : c ≤ 255) : percent_In.f c s = some (inS c s) ∧ Ev (fun k => parapetref9_In.f k c s) (inS c s) := by
  by_cases hs : 1 ≤ s ∧ s ≤ 4
  · obtain ⟨q, rfl⟩ := fin_of h0 h1
    obtain ⟨s', rfl⟩ : ∃ s' : Fin 4, ((s'.val : Int) + 1) = s := ⟨⟨(s - 1).toNat, by omega⟩, by simp; omega⟩
    obtain ⟨b, hb, hb2⟩ := in_all q s'
    have e : inS (q.val : Int) ((s'.val : Int) + 1) = b := by unfold inS; rw [hb]; rfl
    rw [e]
    exact ⟨hb, Ev.of (fun k => parapetref9_In.mono _ _ k) hb2⟩
  · have n1 : ¬ s = 1 := by omega
    have n2 : ¬ s = 2 := by omega
    have n3 : ¬ s = 3 := by omega
    have n4 : ¬ s = 4 := by omega
    have h2 : percent_In.f c s = some false := by
      unfold percent_In.f percent_extra.f
      rw [if_neg n1, if_neg n2, if_neg n3, if_neg n4]
      rfl
    have e : inS c s = false := by unfold inS; rw [h2]; rfl
    rw [e]
    refine ⟨h2, ⟨0, fun k _ => ?_⟩⟩
    show parapetref9_In.f k c s = some false
    unfold parapetref9_In.f
    rw [if_neg n1, if_neg n2, if_neg n3, if_neg n4]

/-! ### awake -/
theorem awake_ev : Ev (fun k => parapetlaw9_awake.f k) true := Ev.of (fun k => parapetlaw9_awake.mono k) (k := 30) (by decide +kernel)

/-! ### Encode -/
def hexd (j : Int) : Int := bt (⟨#[48, 49, 50, 51, 52, 53, 54, 55, 56, 57, 65, 66, 67, 68, 69, 70]⟩ : ByteArray) j
def encB (s c : Int) : List Int := if inS c s = true then [37, hexd (c / 16), hexd (Go.bits .and .u8 c 15)] else [c]
def encL (s : Int) (l : List Int) : List Int := l.flatMap (encB s)

theorem encB_len (s c : Int) : (encB s c).length ≤ 3 := by unfold encB; split <;> simp
theorem encL_len (s : Int) (l : List Int) : (encL s l).length ≤ 3 * l.length := by
  induction l with
  | nil => simp [encL]
  | cons c l ih => have := encB_len s c; unfold encL at *; rw [List.flatMap_cons, List.length_append, List.length_cons]; omega

theorem and15_all : ∀ c : Fin 256, 0 ≤ Go.bits .and .u8 (c.val : Int) 15 ∧ Go.bits .and .u8 (c.val : Int) 15 < 16 ∧ Go.bits .and .u8 (c.val : Int) 15 = (c.val : Int) % 16 := by decide +kernel
theorem and15 {c : Int} (h0 : 0 ≤ c) (h1 : c ≤ 255) : 0 ≤ Go.bits .and .u8 c 15 ∧ Go.bits .and .u8 c 15 < 16 ∧ Go.bits .and .u8 c 15 = c % 16 := by
  obtain ⟨q, rfl⟩ := fin_of h0 h1
  exact and15_all q

theorem enc_loop (x0 : ByteArray) (s : Int) (d : Nat) : ∀ (i : Nat) (acc : List Int), i + d = x0.size → i + d ≤ 1000000 → acc.length + 3 * d ≤ 100000000000 →
    Ev (fun k => percent_Encode.l0 k x0 s acc (x0.size : Int) (i : Int)) (strOfNums (acc ++ encL s ((bytesOf x0).drop i))) := by
  induction d with
  | zero =>
    intro i acc hi _ _
    refine Ev.step (f := fun _ => some (strOfNums acc)) (fun k => ?_) (by
      have : (bytesOf x0).drop i = [] := List.drop_eq_nil_of_le (by rw [bytesOf_length]; omega)
      rw [this]; simp only [encL, List.flatMap_nil, List.append_nil]; exact Ev.now _)
    simp only [percent_Encode.l0]
    rw [if_neg (by omega)]
  | succ d ih =>
    intro i acc hi hb hacc
    have hr := bt_range x0 (i : Int)
    have hin := (in_both (bt x0 (i : Int)) s hr.1 hr.2).1
    have h15 := and15 hr.1 hr.2
    have hw : wrap64 ((i : Int) + 1) = ((i + 1 : Nat) : Int) := by rw [w64 (by omega) (by omega)]; omega
    have hd := bt_drop x0 i (by omega)
    have e : acc ++ encL s ((bytesOf x0).drop i) = (acc ++ encB s (bt x0 (i : Int))) ++ encL s ((bytesOf x0).drop (i + 1)) := by
      rw [hd]; simp only [encL, List.flatMap_cons, List.append_assoc]
    rw [e]
    have hlen : (encB s (bt x0 (i : Int))).length ≤ 3 := encB_len _ _
    refine Ev.step (fun k => ?_) (ih (i + 1) (acc ++ encB s (bt x0 (i : Int))) (by omega) (by omega) (by rw [List.length_append]; omega))
    simp only [percent_Encode.l0]
    rw [if_pos (by omega), if_pos (by omega), if_pos (by omega), hin]
    simp only [Option.bind_some]
    cases hb2 : inS (bt x0 (i : Int)) s with
    | true =>
      rw [if_pos rfl, if_pos (by omega), if_pos (by omega), if_pos h15.1, if_pos h15.2.1, if_pos (by simp; omega), hw]
      simp only [encB, hb2, if_true, hexd]
    | false =>
      rw [if_neg (by simp), if_pos (by omega), hw]
      simp only [encB, hb2, Bool.false_eq_true, if_false]

theorem enc_ev (x0 : ByteArray) (s : Int) (h : x0.size ≤ 1000000) : Ev (fun k => percent_Encode.f k x0 s) (strOfNums (encL s (bytesOf x0))) := by
  have := enc_loop x0 s x0.size 0 [] (by omega) (by omega) (by simp; omega)
  simpa [percent_Encode.f] using this

theorem renc_loop (x0 : ByteArray) (s : Int) (d : Nat) : ∀ (i : Nat) (acc : List Int), i + d = x0.size → i + d ≤ 1000000 → acc.length + 3 * d ≤ 100000000000 →
    Ev (fun k => parapetref9_Encode.l0 k x0 s (⟨#[48, 49, 50, 51, 52, 53, 54, 55, 56, 57, 65, 66, 67, 68, 69, 70]⟩ : ByteArray) acc (i : Int)) (strOfNums (acc ++ encL s ((bytesOf x0).drop i))) := by
  induction d with
  | zero =>
    intro i acc hi _ _
    refine Ev.step (f := fun _ => some (strOfNums acc)) (fun k => ?_) (by
      have : (bytesOf x0).drop i = [] := List.drop_eq_nil_of_le (by rw [bytesOf_length]; omega)
      rw [this]; simp only [encL, List.flatMap_nil, List.append_nil]; exact Ev.now _)
    simp only [parapetref9_Encode.l0]
    rw [if_neg (by omega)]
  | succ d ih =>
    intro i acc hi hb hacc
    have hr := bt_range x0 (i : Int)
    have hin := (in_both (bt x0 (i : Int)) s hr.1 hr.2).2
    have h15 := and15 hr.1 hr.2
    have hw : wrap64 ((i : Int) + 1) = ((i + 1 : Nat) : Int) := by rw [w64 (by omega) (by omega)]; omega
    have hd := bt_drop x0 i (by omega)
    have e : acc ++ encL s ((bytesOf x0).drop i) = (acc ++ encB s (bt x0 (i : Int))) ++ encL s ((bytesOf x0).drop (i + 1)) := by
      rw [hd]; simp only [encL, List.flatMap_cons, List.append_assoc]
    rw [e]
    have hlen : (encB s (bt x0 (i : Int))).length ≤ 3 := encB_len _ _
    have hI := ih (i + 1) (acc ++ encB s (bt x0 (i : Int))) (by omega) (by omega) (by rw [List.length_append]; omega)
    have hsz : ((⟨#[48, 49, 50, 51, 52, 53, 54, 55, 56, 57, 65, 66, 67, 68, 69, 70]⟩ : ByteArray).size : Int) = 16 := by decide +kernel
    refine Ev.step (fun k => ?_) (Ev.bind hin (f := fun k b => parapetref9_Encode.l0 k x0 s (⟨#[48, 49, 50, 51, 52, 53, 54, 55, 56, 57, 65, 66, 67, 68, 69, 70]⟩ : ByteArray) (acc ++ encB s (bt x0 (i : Int))) ((i + 1 : Nat) : Int)) hI)
    simp only [parapetref9_Encode.l0]
    rw [if_pos (by omega), if_pos (by omega)]
    refine Option.bind_congr fun b hb3 => ?_
    have hb4 : b = inS (bt x0 (i : Int)) s := by
      obtain ⟨K, hK⟩ := hin
      have h5 := hK (max K k) (by omega)
      have h6 := at_rounds (g := fun k => parapetref9_In.f k (bt x0 (i : Int)) s) (fun k => parapetref9_In.mono _ _ k) (show k ≤ max K k by omega) hb3
      exact Option.some.inj (h6.symm.trans h5)
    rw [hb4]
    cases hb2 : inS (bt x0 (i : Int)) s with
    | true =>
      rw [if_pos rfl, hsz, if_pos (by omega), if_pos (by omega), if_pos h15.1, if_pos h15.2.1]
      simp only [Option.bind_some]
      rw [if_pos (by simp; omega), hw]
      simp only [encB, hb2, if_true, hexd]
    | false =>
      rw [if_neg (by simp), if_pos (by omega), hw]
      simp only [encB, hb2, Bool.false_eq_true, if_false]

theorem renc_ev (x0 : ByteArray) (s : Int) (h : x0.size ≤ 1000000) : Ev (fun k => parapetref9_Encode.f k x0 s) (strOfNums (encL s (bytesOf x0))) := by
  have := renc_loop x0 s x0.size 0 [] (by omega) (by omega) (by simp; omega)
  simpa [parapetref9_Encode.f] using this

/-! ### Decode -/
def hv (c : Int) : Int := (percent_digit.f c).getD (-1)
theorem hv_all : ∀ c : Fin 256, percent_digit.f (c.val : Int) = some (hv (c.val : Int)) ∧ parapetref9_hex.f 5 (c.val : Int) = some (hv (c.val : Int)) ∧ -1 ≤ hv (c.val : Int) ∧ hv (c.val : Int) ≤ 15 := by decide +kernel
theorem hv_both {c : Int} (h0 : 0 ≤ c) (h1 : c ≤ 255) : percent_digit.f c = some (hv c) ∧ Ev (fun k => parapetref9_hex.f k c) (hv c) ∧ -1 ≤ hv c ∧ hv c ≤ 15 := by
  obtain ⟨q, rfl⟩ := fin_of h0 h1
  obtain ⟨a, b, c, d⟩ := hv_all q
  exact ⟨a, Ev.of (fun k => parapetref9_hex.mono _ k) b, c, d⟩
theorem or_all : ∀ a b : Fin 16, (Go.bits .or .i64 (wrap64 ((a.val : Int) * 16)) (b.val : Int)) % 256 = 16 * (a.val : Int) + b.val ∧ (wrap64 ((wrap64 (16 * (a.val : Int))) + b.val)) % 256 = 16 * (a.val : Int) + b.val := by decide +kernel
theorem or_both {a b : Int} (ha : 0 ≤ a) (ha2 : a ≤ 15) (hb : 0 ≤ b) (hb2 : b ≤ 15) : (Go.bits .or .i64 (wrap64 (a * 16)) b) % 256 = 16 * a + b ∧ (wrap64 ((wrap64 (16 * a)) + b)) % 256 = 16 * a + b := by
  obtain ⟨a', rfl⟩ : ∃ q : Fin 16, (q.val : Int) = a := ⟨⟨a.toNat, by omega⟩, by simp; omega⟩
  obtain ⟨b', rfl⟩ : ∃ q : Fin 16, (q.val : Int) = b := ⟨⟨b.toNat, by omega⟩, by simp; omega⟩
  exact or_all a' b'

def two : List Int → Bool
  | a :: b :: _ => decide (0 ≤ hv a) && decide (0 ≤ hv b)
  | _ => false
theorem two_cons (a b : Int) (r : List Int) : two (a :: b :: r) = (decide (0 ≤ hv a) && decide (0 ≤ hv b)) := rfl
def decL : List Int → List Int
  | [] => []
  | [c] => [c]
  | [c, a] => [c, a]
  | c :: a :: b :: r => if c = 37 ∧ two (a :: b :: r) = true then (16 * hv a + hv b) :: decL r else c :: decL (a :: b :: r)
theorem decL_skip (c : Int) (l : List Int) (h : ¬ (c = 37 ∧ two l = true)) : decL (c :: l) = c :: decL l := by
  match l with
  | [] => rfl
  | [a] => rfl
  | a :: b :: r => rw [decL, if_neg h]
theorem decL_two (a b : Int) (r : List Int) (h : two (a :: b :: r) = true) : decL (37 :: a :: b :: r) = (16 * hv a + hv b) :: decL r := by
  rw [decL, if_pos ⟨rfl, h⟩]
theorem decL_len : ∀ (n : Nat) (l : List Int), l.length ≤ n → (decL l).length ≤ l.length := by
  intro n
  induction n with
  | zero => intro l h; have : l = [] := List.length_eq_zero_iff.1 (by omega); subst this; simp [decL]
  | succ n ih =>
    intro l h
    match l with
    | [] => simp [decL]
    | [c] => simp [decL]
    | [c, a] => simp [decL]
    | c :: a :: b :: r =>
      rw [decL]; split
      · have := ih r (by simp at h; omega); simp; omega
      · have := ih (a :: b :: r) (by simp at h ⊢; omega); simp at this ⊢; omega

theorem dec_loop (x0 : ByteArray) (hx : x0.size ≤ 1000000) (d : Nat) : ∀ (i : Nat) (acc : List Int), i ≤ x0.size → x0.size - i ≤ d → acc.length + x0.size ≤ 1000000000 + i →
    Ev (fun k => percent_Decode.l0 k x0 acc (i : Int)) (strOfNums (acc ++ decL ((bytesOf x0).drop i))) ∧ Ev (fun k => parapetref9_Decode.l0 k x0 acc (i : Int)) (strOfNums (acc ++ decL ((bytesOf x0).drop i))) := by
  induction d with
  | zero =>
    intro i acc hi hd _
    have : (bytesOf x0).drop i = [] := List.drop_eq_nil_of_le (by rw [bytesOf_length]; omega)
    rw [this]; simp only [decL, List.append_nil]
    refine ⟨Ev.step (f := fun _ => some (strOfNums acc)) (fun k => ?_) (Ev.now _), Ev.step (f := fun _ => some (strOfNums acc)) (fun k => ?_) (Ev.now _)⟩
    · simp only [percent_Decode.l0]; rw [if_neg (by omega)]
    · simp only [parapetref9_Decode.l0]; rw [if_neg (by omega)]
  | succ d ih =>
    intro i acc hi hd hacc
    by_cases hlt : i < x0.size
    rotate_left
    · have : (bytesOf x0).drop i = [] := List.drop_eq_nil_of_le (by rw [bytesOf_length]; omega)
      rw [this]; simp only [decL, List.append_nil]
      refine ⟨Ev.step (f := fun _ => some (strOfNums acc)) (fun k => ?_) (Ev.now _), Ev.step (f := fun _ => some (strOfNums acc)) (fun k => ?_) (Ev.now _)⟩
      · simp only [percent_Decode.l0]; rw [if_neg (by omega)]
      · simp only [parapetref9_Decode.l0]; rw [if_neg (by omega)]
    have hd0 := bt_drop x0 i hlt
    have hw1 : wrap64 ((i : Int) + 1) = ((i + 1 : Nat) : Int) := by rw [w64 (by omega) (by omega)]; omega
    have hw2 : wrap64 ((i : Int) + 2) = ((i + 2 : Nat) : Int) := by rw [w64 (by omega) (by omega)]; omega
    have hw3 : wrap64 (((i + 2 : Nat) : Int) + 1) = ((i + 3 : Nat) : Int) := by rw [w64 (by omega) (by omega)]; omega
    have I1 := ih (i + 1) (acc ++ [bt x0 (i : Int)]) (by omega) (by omega) (by simp; omega)
    -- one byte is taken as it is
    have one : two ((bytesOf x0).drop (i + 1)) = false ∨ bt x0 (i : Int) ≠ 37 → acc ++ decL ((bytesOf x0).drop i) = (acc ++ [bt x0 (i : Int)]) ++ decL ((bytesOf x0).drop (i + 1)) := by
      intro h
      rw [hd0, decL_skip _ _ (by rintro ⟨e1, e2⟩; rcases h with h | h; · rw [h] at e2; cases e2
                                 · exact h e1)]
      simp
    have plainP : Ev (fun k => percent_Decode.j1 k x0 acc (i : Int) false) (strOfNums ((acc ++ [bt x0 (i : Int)]) ++ decL ((bytesOf x0).drop (i + 1)))) := by
      refine Ev.step (fun k => ?_) I1.1
      simp only [percent_Decode.j1]
      rw [if_neg (by simp), if_pos (by omega), if_pos (by omega), if_pos (by omega), hw1]
    have plainR : Ev (fun k => parapetref9_Decode.j1 k x0 acc (i : Int) false) (strOfNums ((acc ++ [bt x0 (i : Int)]) ++ decL ((bytesOf x0).drop (i + 1)))) := by
      refine Ev.step (fun k => ?_) I1.2
      simp only [parapetref9_Decode.j1]
      rw [if_neg (by simp), if_pos (by omega), if_pos (by omega), if_pos (by omega), hw1]
    by_cases h37 : bt x0 (i : Int) = 37
    · by_cases h2 : i + 2 < x0.size
      · have r1 := bt_range x0 ((i + 1 : Nat) : Int)
        have r2 := bt_range x0 ((i + 2 : Nat) : Int)
        obtain ⟨A1, A2, A3, A4⟩ := hv_both r1.1 r1.2
        obtain ⟨B1, B2, B3, B4⟩ := hv_both r2.1 r2.2
        have hd1 := bt_drop x0 (i + 1) (by omega)
        have hd2 := bt_drop x0 (i + 2) (by omega)
        by_cases hab : 0 ≤ hv (bt x0 ((i + 1 : Nat) : Int)) ∧ 0 ≤ hv (bt x0 ((i + 2 : Nat) : Int))
        · obtain ⟨ha, hb⟩ := hab
          have ho := or_both ha A4 hb B4
          have I3 := ih (i + 3) (acc ++ [16 * hv (bt x0 ((i + 1 : Nat) : Int)) + hv (bt x0 ((i + 2 : Nat) : Int))]) (by omega) (by omega) (by simp; omega)
          have e : acc ++ decL ((bytesOf x0).drop i) = (acc ++ [16 * hv (bt x0 ((i + 1 : Nat) : Int)) + hv (bt x0 ((i + 2 : Nat) : Int))]) ++ decL ((bytesOf x0).drop (i + 3)) := by
            rw [hd0, h37, hd1, hd2, decL_two _ _ _ (by rw [two_cons, decide_eq_true ha, decide_eq_true hb]; rfl)]; simp
          rw [e]
          constructor
          · refine Ev.step (f := fun k => percent_Decode.j1 k x0 acc (i : Int) true) (fun k => ?_) (Ev.step (fun k => ?_) I3.1)
            · simp only [percent_Decode.l0]
              rw [if_pos (by omega), if_pos (by omega), if_pos h37, hw2, decide_eq_true (by omega)]
            · simp only [percent_Decode.j1]
              rw [if_pos trivial, hw1, hw2, if_pos (by omega), if_pos (by omega), A1]
              simp only [Option.bind_some]
              rw [if_pos (by omega), if_pos (by omega), B1]
              simp only [Option.bind_some]
              rw [if_pos (by omega), if_pos (by omega), if_pos (by omega), ho.1, hw3]
          · have J : Ev (fun k => parapetref9_Decode.j1 k x0 acc (i : Int) true) (strOfNums ((acc ++ [16 * hv (bt x0 ((i + 1 : Nat) : Int)) + hv (bt x0 ((i + 2 : Nat) : Int))]) ++ decL ((bytesOf x0).drop (i + 3)))) := by
              refine Ev.step (f := fun k => (parapetref9_hex.f k (bt x0 ((i + 1 : Nat) : Int))).bind fun a => (parapetref9_hex.f k (bt x0 ((i + 2 : Nat) : Int))).bind fun b => if acc.length < 140737488355328 then parapetref9_Decode.l0 k x0 (acc ++ [(wrap64 ((wrap64 (16 * a)) + b)) % 256]) ((i + 3 : Nat) : Int) else none) (fun k => ?_) (Ev.bind A2 (Ev.bind B2 ?_))
              · simp only [parapetref9_Decode.j1]
                rw [if_pos trivial, hw1, hw2, if_pos (by omega), if_pos (by omega)]
                refine Option.bind_congr fun a _ => ?_
                rw [if_pos (by omega), if_pos (by omega), hw3]
              · rw [ho.2]; simp only [show acc.length < 140737488355328 from by omega, if_true]; exact I3.2
            refine Ev.step (f := fun k => (parapetref9_hex.f k (bt x0 ((i + 1 : Nat) : Int))).bind fun a => if a ≥ 0 then ((parapetref9_hex.f k (bt x0 ((i + 2 : Nat) : Int))).bind fun b => parapetref9_Decode.j1 k x0 acc (i : Int) (decide (b ≥ 0))) else parapetref9_Decode.j1 k x0 acc (i : Int) false) (fun k => ?_) (Ev.bind A2 ?_)
            · simp only [parapetref9_Decode.l0]
              rw [if_pos (by omega), if_pos (by omega), if_pos h37, hw1, hw2, if_pos (by omega), if_pos (by omega), if_pos (by omega)]
              refine Option.bind_congr fun a _ => ?_
              rw [if_pos (show (0:Int) ≤ ((i + 2 : Nat) : Int) by omega)]
            · simp only [show hv (bt x0 ((i + 1 : Nat) : Int)) ≥ 0 from ha, if_true]
              refine Ev.bind B2 ?_
              simp only [show decide (hv (bt x0 ((i + 2 : Nat) : Int)) ≥ 0) = true from decide_eq_true hb]
              exact J
        · have ht : two ((bytesOf x0).drop (i + 1)) = false := by
            rw [hd1, hd2]; simp only [two, Bool.and_eq_false_iff, decide_eq_false_iff_not]; omega
          rw [one (.inl ht)]
          constructor
          · refine Ev.step (f := fun k => percent_Decode.j1 k x0 acc (i : Int) true) (fun k => ?_) (Ev.step (fun k => ?_) I1.1)
            · simp only [percent_Decode.l0]
              rw [if_pos (by omega), if_pos (by omega), if_pos h37, hw2, decide_eq_true (by omega)]
            · simp only [percent_Decode.j1]
              rw [if_pos trivial, hw1, hw2, if_pos (by omega), if_pos (by omega), A1]
              simp only [Option.bind_some]
              rw [if_pos (by omega), if_pos (by omega), B1]
              simp only [Option.bind_some]
              by_cases ha : 0 ≤ hv (bt x0 ((i + 1 : Nat) : Int))
              · rw [if_pos (by omega), if_neg (by omega), if_pos (by omega), if_pos (by omega), if_pos (by omega)]
              · rw [if_neg (by omega), if_pos (by omega), if_pos (by omega), if_pos (by omega)]
          · refine Ev.step (f := fun k => (parapetref9_hex.f k (bt x0 ((i + 1 : Nat) : Int))).bind fun a => if a ≥ 0 then ((parapetref9_hex.f k (bt x0 ((i + 2 : Nat) : Int))).bind fun b => parapetref9_Decode.j1 k x0 acc (i : Int) (decide (b ≥ 0))) else parapetref9_Decode.j1 k x0 acc (i : Int) false) (fun k => ?_) (Ev.bind A2 ?_)
            · simp only [parapetref9_Decode.l0]
              rw [if_pos (by omega), if_pos (by omega), if_pos h37, hw1, hw2, if_pos (by omega), if_pos (by omega), if_pos (by omega)]
              refine Option.bind_congr fun a _ => ?_
              rw [if_pos (show (0:Int) ≤ ((i + 2 : Nat) : Int) by omega)]
            · by_cases ha : 0 ≤ hv (bt x0 ((i + 1 : Nat) : Int))
              · simp only [show hv (bt x0 ((i + 1 : Nat) : Int)) ≥ 0 from ha, if_true]
                refine Ev.bind B2 ?_
                simp only [show decide (hv (bt x0 ((i + 2 : Nat) : Int)) ≥ 0) = false from decide_eq_false (by omega)]
                exact plainR
              · simp only [show ¬ hv (bt x0 ((i + 1 : Nat) : Int)) ≥ 0 from by omega, if_false]; exact plainR
      · have ht : two ((bytesOf x0).drop (i + 1)) = false := by
          by_cases h1 : i + 1 < x0.size
          · rw [bt_drop x0 (i + 1) h1, show (bytesOf x0).drop (i + 1 + 1) = [] from List.drop_eq_nil_of_le (by rw [bytesOf_length]; omega)]; rfl
          · rw [show (bytesOf x0).drop (i + 1) = [] from List.drop_eq_nil_of_le (by rw [bytesOf_length]; omega)]; rfl
        rw [one (.inl ht)]
        constructor
        · refine Ev.step (fun k => ?_) plainP
          simp only [percent_Decode.l0]
          rw [if_pos (by omega), if_pos (by omega), if_pos h37, hw2, decide_eq_false (by omega)]
        · refine Ev.step (fun k => ?_) plainR
          simp only [parapetref9_Decode.l0]
          rw [if_pos (by omega), if_pos (by omega), if_pos h37, hw2, if_neg (by omega)]
    · rw [one (.inr h37)]
      constructor
      · refine Ev.step (fun k => ?_) plainP
        simp only [percent_Decode.l0]
        rw [if_pos (by omega), if_pos (by omega), if_neg h37]
      · refine Ev.step (fun k => ?_) plainR
        simp only [parapetref9_Decode.l0]
        rw [if_pos (by omega), if_pos (by omega), if_neg h37]

theorem dec_ev (x0 : ByteArray) (h : x0.size ≤ 1000000) : Ev (fun k => percent_Decode.f k x0) (strOfNums (decL (bytesOf x0))) ∧ Ev (fun k => parapetref9_Decode.f k x0) (strOfNums (decL (bytesOf x0))) := by
  have := dec_loop x0 h x0.size 0 [] (by omega) (by omega) (by simp; omega)
  simpa [percent_Decode.f, parapetref9_Decode.f] using this

end Go.Proofs.YtaogcafknbfkmaaDoor.Pu
