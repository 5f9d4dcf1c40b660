/- What wrong and Tokens come to. -/
import Derived.Test.YtlhllcbglfffdaaDoorLexP1
import Derived.Test.YtlhllcbglfffdaaDoorPr4
import Derived.Test.YtlhllcbglfffdaaDoorPuUtf8
namespace Go.Proofs.YtlhllcbglfffdaaDoor.Pu
open Go.RowKit Go.Proofs.YtlhllcbglfffdaaDoor.Pr Go.Proofs.YtlhllcbglfffdaaDoorW.PrintWords Go.Proofs.YtlhllcbglfffdaaDoor.Lx
set_option linter.unusedVariables false
set_option linter.unusedSimpArgs false

theorem decodeGo_L (x : ByteArray) (h : 0 < x.size) : Go.Lib.decodeGo x = Go.Lib.decodeL x.data.toList := by
  unfold Go.Lib.decodeGo
  rw [if_neg (by omega)]
  cases x with | mk d => cases d with | mk l => rfl
def wrongN (l : List UInt8) : Nat := if brkL l = l.length then l.length + 1 else brkL l
theorem wrong_loop (x : ByteArray) (hx : x.size ≤ 1000000) (d : Nat) : ∀ i : Nat, i ≤ x.size → x.size - i ≤ d → Ev (fun k => lex_wrong.l0 k x (i : Int)) ((if i + brkL (x.data.toList.drop i) = x.size then x.size + 1 else i + brkL (x.data.toList.drop i) : Nat) : Int) := by
  have stop : ∀ i : Nat, i ≤ x.size → ¬ i < x.size → Ev (fun k => lex_wrong.l0 k x (i : Int)) ((if i + brkL (x.data.toList.drop i) = x.size then x.size + 1 else i + brkL (x.data.toList.drop i) : Nat) : Int) := by
    intro i hi hn
    have : x.data.toList.drop i = [] := List.drop_eq_nil_of_le (by rw [data_length]; omega)
    rw [this]
    have hz : brkL ([] : List UInt8) = 0 := rfl
    rw [hz, if_pos (by omega)]
    refine Ev.step (f := fun _ => some (wrap64 ((x.size : Int) + 1))) (fun k => ?_) ((Ev.now _).eq (by rw [w64 (by omega) (by omega)]; omega))
    simp only [lex_wrong.l0]
    rw [if_neg (by omega)]
  induction d with
  | zero => intro i hi hd; exact stop i hi (by omega)
  | succ d ih =>
    intro i hi hd
    by_cases hlt : i < x.size
    · have hsz : (x.extract i x.size).size = x.size - i := by rw [← data_length, data_extract, List.length_drop, data_length]
      have hne : x.data.toList.drop i ≠ [] := by
        intro e; have := congrArg List.length e; rw [List.length_drop, data_length] at this; simp at this; omega
      have hle := runeD_le _ hne
      rw [List.length_drop, data_length] at hle
      have hdec : Go.Lib.decodeGo (x.extract i x.size) = Go.Lib.decodeL (x.data.toList.drop i) := by rw [decodeGo_L _ (by omega), data_extract]
      have hle2 := Go.Lib.decodeL_le _ hne
      rw [List.length_drop, data_length] at hle2
      have hw := Go.Lib.decodeL_width (x.data.toList.drop i)
      have hb := brkL_step _ hne
      have hrd : runeD (x.data.toList.drop i) = if (Go.Lib.decodeL (x.data.toList.drop i)).1 = 65533 ∧ (Go.Lib.decodeL (x.data.toList.drop i)).2 = 1 then 0 else (Go.Lib.decodeL (x.data.toList.drop i)).2 := rfl
      have hbl := brk_le (x.data.toList.drop i).length (x.data.toList.drop i)
      refine Ev.step (fun k => ?_) (Ev.some_bind (o := utf8_DecodeRuneInString.f (x.extract i x.size)) (a := (((Go.Lib.decodeL (x.data.toList.drop i)).1 : Int), ((Go.Lib.decodeL (x.data.toList.drop i)).2 : Int))) (f := fun k bt => if bt.1 = 65533 then (if bt.2 = 1 then some (i : Int) else lex_wrong.l0 k x (wrap64 ((i : Int) + bt.2))) else lex_wrong.l0 k x (wrap64 ((i : Int) + bt.2))) (by rw [utf8_DecodeRuneInString.f, hdec]) ?_)
      · simp only [lex_wrong.l0]
        rw [if_pos (by omega), if_pos (by omega), if_pos (by omega), Int.toNat_natCast]
      · simp only
        by_cases h0 : (Go.Lib.decodeL (x.data.toList.drop i)).1 = 65533 ∧ (Go.Lib.decodeL (x.data.toList.drop i)).2 = 1
        · rw [if_pos h0] at hrd
          rw [hrd, if_pos rfl] at hb
          rw [hb, if_neg (by omega)]
          refine Ev.step (f := fun _ => some (i : Int)) (fun k => ?_) ((Ev.now _).eq (by omega))
          rw [if_pos (by omega), if_pos (by omega)]
        · rw [if_neg h0] at hrd
          have h1 : runeD (x.data.toList.drop i) ≠ 0 := by omega
          rw [if_neg h1] at hb
          have hi2 := ih (i + (Go.Lib.decodeL (x.data.toList.drop i)).2) (by omega) (by omega)
          rw [← List.drop_drop, ← hrd] at hi2
          rw [hb]
          have e : ∀ k, (if (((Go.Lib.decodeL (x.data.toList.drop i)).1 : Nat) : Int) = 65533 then (if (((Go.Lib.decodeL (x.data.toList.drop i)).2 : Nat) : Int) = 1 then some (i : Int) else lex_wrong.l0 k x (wrap64 ((i : Int) + (((Go.Lib.decodeL (x.data.toList.drop i)).2 : Nat) : Int)))) else lex_wrong.l0 k x (wrap64 ((i : Int) + (((Go.Lib.decodeL (x.data.toList.drop i)).2 : Nat) : Int)))) = lex_wrong.l0 k x ((i + runeD (x.data.toList.drop i) : Nat) : Int) := by
            intro k
            rw [w64 (by omega) (by omega), ← hrd, Int.natCast_add]
            split
            · split
              · omega
              · rfl
            · rfl
          simp only [e]
          rw [Nat.add_assoc] at hi2
          exact hi2
    · exact stop i hi hlt
theorem wrong_ev (x : ByteArray) (hx : x.size ≤ 1000000) : Ev (fun k => lex_wrong.f k x) ((wrongN x.data.toList : Nat) : Int) := by
  have := wrong_loop x hx x.size 0 (by omega) (by omega)
  simp only [Nat.zero_add, List.drop_zero] at this
  unfold wrongN
  rw [data_length]
  exact this
/-- What Tokens hands back. -/
def tokM (x : ByteArray) : List Tk × Int × Int :=
  if x.size > 3000 then ([], 2, 0) else
  match sm 0 .sk [] (bytesOf x) with
  | .bad j => ([], 8, min (wrongN x.data.toList : Int) (j : Int))
  | .good ts => if (wrongN x.data.toList : Int) ≤ (x.size : Int) then ([], 8, (wrongN x.data.toList : Int)) else (ts, 0, 0)
theorem tokens_ev (x : ByteArray) : Ev (fun k => lex_Tokens.f k x) (tokM x) := by
  unfold tokM lex_Tokens.f
  by_cases h : x.size > 3000
  · rw [if_pos h]
    refine Ev.const fun k => ?_
    rw [if_pos (by omega)]
  · rw [if_neg h]
    have e : ∀ k, (if (x.size : Int) > 3000 then some ([], 2, 0) else (lex_wrong.f k x).bind fun bad => some (tokRes x bad)) = (lex_wrong.f k x).bind fun bad => some (tokRes x bad) := fun k => if_neg (by omega)
    simp only [e]
    refine Ev.bind (wrong_ev x (by omega)) ((Ev.now _).eq ?_)
    rw [tokRes_sm]
    cases sm 0 .sk [] (bytesOf x) <;> rfl
end Go.Proofs.YtlhllcbglfffdaaDoor.Pu
