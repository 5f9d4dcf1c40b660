/- The walks of between and quoted. -/
import Derived.Test.YtlhllcbglfffdaaDoorLexW
namespace Go.Proofs.YtlhllcbglfffdaaDoor.Lx
open Go.RowKit Go.Proofs.YtlhllcbglfffdaaDoor.Pr Go.Proofs.YtlhllcbglfffdaaDoorW.PrintWords Go.Proofs.YtlhllcbglfffdaaDoorW.PrintLast Go.Proofs.YtlhllcbglfffdaaDoorW.PrintMore
set_option linter.unusedVariables false
set_option linter.unusedSimpArgs false

def pBlank (c : Int) : Bool := (lex_blank.f c).getD false
def pWord (c : Int) : Bool := (lex_word.f c).getD false
def pLetter (c : Int) : Bool := (lex_letter.f c).getD false
def pNN (c : Int) : Bool := c != 10
theorem pBlank_some (c : Int) (h0 : 0 ≤ c) (h1 : c ≤ 255) : lex_blank.f c = some (pBlank c) := by
  have h : ∀ q : Fin 256, lex_blank.f (q.val : Int) = some (pBlank (q.val : Int)) := by decide +kernel
  obtain ⟨q, rfl⟩ : ∃ q : Fin 256, (q.val : Int) = c := ⟨⟨c.toNat, by omega⟩, by simp; omega⟩
  exact h q
theorem pWord_some (c : Int) (h0 : 0 ≤ c) (h1 : c ≤ 255) : lex_word.f c = some (pWord c) := by
  have h : ∀ q : Fin 256, lex_word.f (q.val : Int) = some (pWord (q.val : Int)) := by decide +kernel
  obtain ⟨q, rfl⟩ : ∃ q : Fin 256, (q.val : Int) = c := ⟨⟨c.toNat, by omega⟩, by simp; omega⟩
  exact h q
theorem pLetter_some (c : Int) (h0 : 0 ≤ c) (h1 : c ≤ 255) : lex_letter.f c = some (pLetter c) := by
  have h : ∀ q : Fin 256, lex_letter.f (q.val : Int) = some (pLetter (q.val : Int)) := by decide +kernel
  obtain ⟨q, rfl⟩ : ∃ q : Fin 256, (q.val : Int) = c := ⟨⟨c.toNat, by omega⟩, by simp; omega⟩
  exact h q
theorem hBlank (c : Int) (w : World) (h0 : 0 ≤ c) (h1 : c ≤ 255) : Calls Tryd.prog 21 #[.int .u8 c] w fun e w' => e = .returned (.bool (pBlank c)) ∧ Drawn0 w w' := lex_blank.calls c _ w (pBlank_some c h0 h1)
theorem hWord (c : Int) (w : World) (h0 : 0 ≤ c) (h1 : c ≤ 255) : Calls Tryd.prog 24 #[.int .u8 c] w fun e w' => e = .returned (.bool (pWord c)) ∧ Drawn0 w w' := lex_word.calls c _ w (pWord_some c h0 h1)
theorem hNN (c : Int) (w : World) (h0 : 0 ≤ c) (h1 : c ≤ 255) : Calls Tryd.prog 22 #[.int .u8 c] w fun e w' => e = .returned (.bool (pNN c)) ∧ Drawn0 w w' := by
  go_enter Tryd.func22, Tryd.ntmps22
  go_wp2
  go_ret
  exact ⟨rfl, Drawn0.refl _⟩

def bEnd (s : ByteArray) (i : Nat) : Nat := rowEnd s pBlank (s.size - i) i
def nEnd (s : ByteArray) (i : Nat) : Nat := rowEnd s pNN (s.size - i) i
def wEnd (s : ByteArray) (i : Nat) : Nat := rowEnd s pWord (s.size - i) i
theorem bEnd_le (s : ByteArray) (i : Nat) (h : i ≤ s.size) : i ≤ bEnd s i ∧ bEnd s i ≤ s.size := rowEnd_le s _ _ i h
theorem nEnd_le (s : ByteArray) (i : Nat) (h : i ≤ s.size) : i ≤ nEnd s i ∧ nEnd s i ≤ s.size := rowEnd_le s _ _ i h
theorem wEnd_le (s : ByteArray) (i : Nat) (h : i ≤ s.size) : i ≤ wEnd s i ∧ wEnd s i ≤ s.size := rowEnd_le s _ _ i h
theorem nEnd_lt (s : ByteArray) (i : Nat) (h : i < s.size) (hc : bt s i = 35) : i < nEnd s i := by
  have e : nEnd s i = rowEnd s pNN (s.size - (i + 1)) (i + 1) := rowEnd_go s pNN i h (by rw [hc]; rfl)
  have := rowEnd_le s pNN (s.size - (i + 1)) (i + 1) (by omega)
  omega
/-- Notes and blanks behind them. -/
def btw2 (s : ByteArray) : Nat → Nat → Nat
  | 0, i => i
  | d + 1, i => if i < s.size ∧ bt s i = 35 then btw2 s d (bEnd s (nEnd s i)) else i
def btw (s : ByteArray) (i : Nat) : Nat := btw2 s (s.size - bEnd s i) (bEnd s i)
theorem btw2_le (s : ByteArray) : ∀ d i, i ≤ s.size → i ≤ btw2 s d i ∧ btw2 s d i ≤ s.size := by
  intro d
  induction d with
  | zero => intro i h; exact ⟨Nat.le_refl _, h⟩
  | succ d ih =>
    intro i h
    rw [btw2]
    split
    · have h1 := nEnd_le s i h
      have h2 := bEnd_le s (nEnd s i) h1.2
      have := ih (bEnd s (nEnd s i)) h2.2
      omega
    · exact ⟨Nat.le_refl _, h⟩
theorem btw_le (s : ByteArray) (i : Nat) (h : i ≤ s.size) : i ≤ btw s i ∧ btw s i ≤ s.size := by
  have h1 := bEnd_le s i h
  have := btw2_le s (s.size - bEnd s i) (bEnd s i) h1.2
  unfold btw; omega
/-- More rounds than are wanted tell the same. -/
theorem btw2_more (s : ByteArray) : ∀ d d' i, i ≤ s.size → s.size - i ≤ d → s.size - i ≤ d' → btw2 s d i = btw2 s d' i := by
  intro d
  induction d with
  | zero =>
    intro d' i hi h h'
    cases d' with
    | zero => rfl
    | succ d' => rw [btw2, btw2, if_neg (by omega)]
  | succ d ih =>
    intro d' i hi h h'
    cases d' with
    | zero => rw [btw2, btw2, if_neg (by omega)]
    | succ d' =>
      rw [btw2, btw2]
      by_cases q : i < s.size ∧ bt s i = 35
      · have h1 := nEnd_le s i hi
        have h2 := bEnd_le s (nEnd s i) h1.2
        have h3 := nEnd_lt s i q.1 q.2
        rw [if_pos q, if_pos q]
        exact ih d' _ h2.2 (by omega) (by omega)
      · rw [if_neg q, if_neg q]
theorem btw2_go (s : ByteArray) (i : Nat) (h : i < s.size) (hc : bt s i = 35) : btw2 s (s.size - i) i = btw2 s (s.size - bEnd s (nEnd s i)) (bEnd s (nEnd s i)) := by
  have h1 := nEnd_le s i (by omega)
  have h2 := bEnd_le s (nEnd s i) h1.2
  have h3 := nEnd_lt s i h hc
  rw [show s.size - i = (s.size - i - 1) + 1 by omega, btw2, if_pos ⟨h, hc⟩]
  exact btw2_more s _ _ _ h2.2 (by omega) (by omega)
theorem btw2_stop (s : ByteArray) (d i : Nat) (h : ¬ (i < s.size ∧ bt s i = 35)) : btw2 s d i = i := by
  cases d with
  | zero => rfl
  | succ d => rw [btw2, if_neg h]

set_option maxHeartbeats 1000000 in
set_option maxRecDepth 100000 in
theorem between_calls (s : ByteArray) (i0 : Nat) (L : Value) (g : Nat) (w : World) (hs : s.size ≤ 140737488351232) (hi0 : i0 ≤ s.size) (hb : Blk w g s i0 L) :
    Calls Tryd.prog 15 #[.pointer (some ⟨g, 0, none⟩)] w fun e w' =>
      e = .returned (.tuple #[]) ∧ Blk w' g s (btw s i0 : Nat) L ∧ Keep w w' g := by
  obtain ⟨R, hR⟩ : ∃ R, btw2 s (s.size - bEnd s i0) (bEnd s i0) = R := ⟨_, rfl⟩
  have hRb : btw s i0 = R := hR
  rw [hRb]
  clear hRb
  have HR := Aside0.mk hR
  have HB := Aside0.mk hb
  have HS := Aside0.mk hs
  have HI := Aside0.mk hi0
  clear hR hb
  go_enter Tryd.func15, Tryd.ntmps15
  go_wp2_with fail
  refine (row_blank s i0 L g pBlank _ hs hi0 HB.out hBlank).mono ?_
  rintro e w1 ⟨rfl, hb1, hk1⟩
  have HB1 := Aside0.mk hb1
  have HK1 := Aside0.mk hk1
  clear hb1 hk1
  go_wp2
  go_loopg [] (s.size - bEnd s i0) (fun gk w' => ∃ i : Nat, Aside0 (i ≤ s.size) ∧ Aside0 (btw2 s (s.size - i) i = R) ∧ Aside0 (Blk w' g s i L) ∧ Aside0 (Keep w w' g) ∧ Aside0 (s.size - i ≤ gk))
  case atStart => exact ⟨bEnd s i0, ⟨(bEnd_le s i0 HI.out).2⟩, HR, HB1, HK1, ⟨Nat.le_refl _⟩⟩
  case round =>
    clear HR HB HB1 HK1
    obtain ⟨i, Hi, HR, HB, HK, HG⟩ := hrel
    have c0 := HB.out.c0
    have c1 := HB.out.c1
    have hi := Hi.out
    by_cases hlt : i < s.size
    · have e1 : decide (s.size ≤ i) = false := decide_eq_false (by omega)
      have hlt2 : (i : Int) < (s.size : Int) := by omega
      have hx : ∀ h : i < s.size, ((s[i]'h).toNat : Int) = bt s (i : Int) := fun h => bt_at s (i : Int) h
      by_cases hc : bt s (i : Int) = 35
      · have hc0 : (bt s (i : Int) == 35) = true := beq_iff_eq.mpr hc
        have HC := Aside0.mk hc
        clear hc
        go_upto_region 1 with (fail)
        go_quiet ((go_at_call 16; exact quiet0 (end_calls s i L g _ (blk_drewN HB.out _))))
        clear c0 c1 hx hc0 e1
        go_wp2_with fail
        refine (row_nn s i L g pNN _ HS.out hi (blk_drewN HB.out _) hNN).mono ?_
        rintro e w2 ⟨rfl, hb2, hk2⟩
        have HB2 := Aside0.mk hb2
        have HK2 := Aside0.mk hk2
        clear hb2 hk2
        go_wp2_with fail
        refine (row_blank s (nEnd s i) L g pBlank _ HS.out (nEnd_le s i hi).2 HB2.out hBlank).mono ?_
        rintro e w3 ⟨rfl, hb3, hk3⟩
        have HB3 := Aside0.mk hb3
        have HK3 := Aside0.mk hk3
        clear hb3 hk3
        go_wp2
        go_roundg (s.size - bEnd s (nEnd s i))
        case measure =>
          have h1 := nEnd_le s i hi
          have h2 := bEnd_le s (nEnd s i) h1.2
          have h3 := nEnd_lt s i hlt HC.out
          have := HG.out; omega
        case rel =>
          have h1 := nEnd_le s i hi
          have h2 := bEnd_le s (nEnd s i) h1.2
          exact ⟨bEnd s (nEnd s i), ⟨h2.2⟩, ⟨by rw [← btw2_go s i hlt HC.out]; exact HR.out⟩, HB3, ⟨(HK.out.drewN _).trans (HK2.out.trans HK3.out)⟩, ⟨Nat.le_refl _⟩⟩
      · have hc0 : (bt s (i : Int) == 35) = false := beq_eq_false_iff_ne.mpr hc
        have HC := Aside0.mk hc
        clear hc
        go_upto_region 1 with (fail)
        go_quiet ((go_at_call 16; exact quiet0 (end_calls s i L g _ (blk_drewN HB.out _))))
        go_wp2
        go_end0
        have e := (btw2_stop s _ i (fun h => HC.out h.2)).symm.trans HR.out
        subst e
        exact ⟨rfl, blk_drewN HB.out _, HK.out.drewN _⟩
    · have e1 : decide (s.size ≤ i) = true := decide_eq_true (by omega)
      go_upto_region 1 with (fail)
      go_quiet ((go_at_call 16; exact quiet0 (end_calls s i L g _ (blk_drewN HB.out _))))
      go_wp2
      go_end0
      have e := (btw2_stop s _ i (fun h => hlt h.1)).symm.trans HR.out
      subst e
      exact ⟨rfl, blk_drewN HB.out _, HK.out.drewN _⟩

/-! ### A string's text -/
theorem Keep.below {w w1 w2 : World} {g : Nat} (h : Keep w w1 g) (hb : Below w.heap.size w1 w2) (hg : g < w.heap.size) : Keep w w2 g :=
  ⟨⟨Nat.le_trans h.k.1 hb.size, fun i hi hne hr => (hb.block i hi).trans (h.k.2 i hi hne hr)⟩, h.b.trans (hb.mono (Nat.le_of_lt hg))⟩
def quo (s : ByteArray) : Nat → Nat → List Int → (List Int × Nat × Bool)
  | 0, i, _ => ([], i, false)
  | d + 1, i, out =>
    if i < s.size then
      if bt s i = 34 then (out, i + 1, true)
      else if bt s i = 10 then ([], i, false)
      else if bt s i = 92 then
        if i + 1 = s.size then ([], i + 1, false)
        else if bt s ((i + 1 : Nat) : Int) = 34 ∨ bt s ((i + 1 : Nat) : Int) = 92 then quo s d (i + 2) (out ++ [bt s ((i + 1 : Nat) : Int)])
        else ([], i, false)
      else quo s d (i + 1) (out ++ [bt s i])
    else ([], i, false)
def quoE (s : ByteArray) (i : Nat) (out : List Int) : List Int × Nat × Bool := quo s (s.size - i) i out
theorem quo_more (s : ByteArray) : ∀ d d' i out, s.size - i ≤ d → s.size - i ≤ d' → quo s d i out = quo s d' i out := by
  intro d
  induction d with
  | zero => intro d' i out h h'; cases d' with
    | zero => rfl
    | succ d' => rw [quo, quo, if_neg (by omega)]
  | succ d ih =>
    intro d' i out h h'
    cases d' with
    | zero => rw [quo, quo, if_neg (by omega)]
    | succ d' =>
      rw [quo, quo]
      by_cases q : i < s.size
      · rw [if_pos q, if_pos q, ih d' (i + 1) _ (by omega) (by omega), ih d' (i + 2) _ (by omega) (by omega)]
      · rw [if_neg q, if_neg q]
theorem quoE_step (s : ByteArray) (i : Nat) (out : List Int) (h : i < s.size) : quoE s i out =
      if bt s i = 34 then (out, i + 1, true)
      else if bt s i = 10 then ([], i, false)
      else if bt s i = 92 then
        if i + 1 = s.size then ([], i + 1, false)
        else if bt s ((i + 1 : Nat) : Int) = 34 ∨ bt s ((i + 1 : Nat) : Int) = 92 then quoE s (i + 2) (out ++ [bt s ((i + 1 : Nat) : Int)])
        else ([], i, false)
      else quoE s (i + 1) (out ++ [bt s i]) := by
  unfold quoE
  rw [show s.size - i = (s.size - i - 1) + 1 by omega, quo, if_pos h, quo_more s (s.size - i - 1) (s.size - (i + 1)) (i + 1) _ (by omega) (by omega), quo_more s (s.size - i - 1) (s.size - (i + 2)) (i + 2) _ (by omega) (by omega)]
theorem quoE_end (s : ByteArray) (i : Nat) (out : List Int) (h : ¬ i < s.size) : quoE s i out = ([], i, false) := by
  unfold quoE; rw [show s.size - i = 0 by omega, quo]
end Go.Proofs.YtlhllcbglfffdaaDoor.Lx
