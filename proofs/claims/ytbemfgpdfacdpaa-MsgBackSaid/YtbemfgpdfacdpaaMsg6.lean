/- The walk of a writer: lists, texts, entries. -/
import Derived.Test.YtbemfgpdfacdpaaMsg5
import Derived.Test.YtbemfgpdfacdpaaPr0
namespace Go.Proofs.Ytbemfgpdfacdpaa.Ms
open Go.RowKit Go.Proofs.Ytbemfgpdfacdpaa.Pr Go.Proofs.YtbemfgpdfacdpaaW.PrintWords Go.Proofs.YtbemfgpdfacdpaaW.PrintLast Go.Proofs.YtbemfgpdfacdpaaW.PrintMore
open Go.Proofs.Ytbemfgpdfacdpaa.QT (OwnAt)
set_option linter.unusedVariables false
set_option linter.unusedSimpArgs false
def wints (vs : List Int) : List Int := vs.flatMap fun v => wnum v 8
theorem wints_length : ∀ vs : List Int, (wints vs).length = 8 * vs.length
  | [] => rfl
  | v :: vs => by
    have := wints_length vs
    rw [wints] at this ⊢
    rw [List.flatMap_cons, List.length_append, wnum_length, this, List.length_cons]; omega
theorem wints_take (vs : List Int) (i : Nat) (h : i < vs.length) : wints (vs.take (i + 1)) = wints (vs.take i) ++ wnum (vs.getD i 0) 8 := by
  rw [wints, List.take_succ_eq_append_getElem h, List.flatMap_append, List.flatMap_singleton, List.getD_eq_getElem?_getD, List.getElem?_eq_getElem h]
  rfl
theorem any_take (vs : List Int) (i : Nat) (h : i < vs.length) (bad : Bool) : (bad || (vs.take (i + 1)).any (fun x => decide (x < 0))) = ((bad || (vs.take i).any (fun x => decide (x < 0))) || decide (vs.getD i 0 < 0)) := by
  rw [List.take_succ_eq_append_getElem h, List.any_append, List.getD_eq_getElem?_getD, List.getElem?_eq_getElem h]
  simp [Bool.or_assoc]
def WrQ (w : World) (g : Nat) (l : List Int) (bad : Bool) (e : Ending) (w' : World) : Prop := e = .returned (.tuple #[]) ∧ Wr w' g l bad ∧ WK w w' g
theorem Wr.setBad {w : World} {g : Nat} {l : List Int} {bad : Bool} (h : Wr w g l bad) (b : Bool) : Wr (w.setCell ⟨g, 1, none⟩ (.bool b)) g l b := by
  obtain ⟨A, n, c, h1, h2, h3, h4⟩ := h
  exact ⟨A, n, c, blk_set h1 1 _, h2, h3, h4.setCell (p := ⟨g, 1, none⟩) (by intro he; have := h4.base_le _ he; simp at this; omega) _⟩
set_option maxHeartbeats 1000000 in
set_option maxRecDepth 100000 in
theorem wints_calls (w : World) (g : Nat) (l : List Int) (bad : Bool) (A : Option Addr) (n c : Nat) (vs : List Int) (h : Wr w g l bad) (hC : ∀ W', WK w W' g → (Kd.int .i64).C W' A vs.length vs) (hn : n = vs.length) (hc : n ≤ c) (hv : n ≤ 140737488355328) (hl : l.length + 8 * n ≤ 140737488340000) :
    Calls Try.prog 18 #[.pointer (some ⟨g, 0, none⟩), .slice A n c] w (WrQ w g (l ++ wints vs) (bad || vs.any (fun x => decide (x < 0)))) := by
  have HR := Aside0.mk h
  have HC := Aside0.mk hC
  have HN := Aside0.mk hn
  have HL := Aside0.mk hl
  clear h hC hn hl
  go_enter Try.func18, Try.ntmps18
  go_wp2_with fail
  go_loopg [8] n (fun gk v8 wr => ∃ (i : Nat), v8 = .int .i64 i ∧ Aside0 (i ≤ n) ∧ Aside0 (n - i ≤ gk) ∧ Aside0 (Wr wr g (l ++ wints (vs.take i)) (bad || (vs.take i).any (fun x => decide (x < 0)))) ∧ Aside0 (WK w wr g))
  case atStart => exact ⟨0, rfl, ⟨by omega⟩, ⟨by omega⟩, ⟨by simpa [wints] using HR.out⟩, ⟨WK.refl _ _⟩⟩
  case round =>
    clear HR
    obtain ⟨i, rfl, HI, HGK, HR, HW⟩ := hrel
    have hi := HI.out
    by_cases hlt : i < n
    · have l1 : decide (i < n) = true := decide_eq_true hlt
      have l2 : (i : Int) < (n : Int) := by omega
      obtain ⟨ad, hA1, hcell⟩ := Kd.at_int (HC.out wr HW.out) (i : Int) (by omega) (by rw [← HN.out]; omega)
      subst hA1
      have hc2 : wr.cell? (ad.add i) = some (.int .i64 (vs.getD i 0)) := hcell
      have hlen : (l ++ wints (vs.take i)).length ≤ 140737488350000 := by
        rw [List.length_append, wints_length, List.length_take]
        have := HL.out; omega
      have ht := wints_take vs i (by rw [← HN.out]; exact hlt)
      have hta := any_take vs i (by rw [← HN.out]; exact hlt) bad
      obtain ⟨x, hx⟩ : ∃ x, x = vs.getD i 0 := ⟨_, rfl⟩
      rw [← hx] at hc2 ht hta
      obtain ⟨b0, hb0⟩ : ∃ b, b = (bad || (vs.take i).any (fun x => decide (x < 0))) := ⟨_, rfl⟩
      rw [← hb0] at hta
      have HR2 : Aside0 (Wr wr g (l ++ wints (vs.take i)) b0) := ⟨by rw [hb0]; exact HR.out⟩
      obtain ⟨A', n', c', hb', hrd⟩ := HR2.out
      have m1 : wr.cell? ⟨g, 1, none⟩ = some (.bool b0) := blk_cell hb' 1
      have f1 := blk_frozen hb' 1
      have HT := Aside0.mk ht
      have HTA := Aside0.mk hta
      have HLEN := Aside0.mk hlen
      clear hx hcell hb' hrd HR ht hta hb0 hlen
      cases b0
      all_goals
        go_upto_region 4 with (fail)
        generalize hwb : World.setCell wr _ _ = w2
        have HR3 : Aside0 (Wr w2 g (l ++ wints (vs.take i)) (bad || (vs.take (i + 1)).any (fun x => decide (x < 0)))) := ⟨by rw [HTA.out, ← hwb]; exact HR2.out.setBad _⟩
        have HW3 : Aside0 (WK w w2 g) := ⟨by rw [← hwb]; exact HW.out.set 1 _⟩
        clear hwb HR2 HW HTA m1 f1
        go_wp2_with fail
        refine (wnum_calls w2 g _ _ x 8 HR3.out (by decide) HLEN.out).mono ?_
        rintro e w3 ⟨rfl, hR4, hW4⟩
        rw [List.append_assoc, ← HT.out] at hR4
        have HR4 := Aside0.mk hR4
        have HW4 := Aside0.mk (HW3.out.trans hW4)
        clear hR4 hW4 HR3 HW3
        go_wp2
        go_roundg (n - (i + 1))
        case measure => have := HGK.out; omega
        case rel => exact ⟨i + 1, by first | go_num | (rw [show wrap64 ((i : Int) + 1) = ((i + 1 : Nat) : Int) by unfold wrap64; omega]), ⟨by omega⟩, ⟨Nat.le_refl _⟩, HR4, HW4⟩
    · have l1 : decide (i < n) = false := decide_eq_false hlt
      have hin : vs.take i = vs := List.take_of_length_le (by rw [← HN.out]; omega)
      have fin : WrQ w g (l ++ wints vs) (bad || vs.any (fun x => decide (x < 0))) (.returned (.tuple #[])) wr := ⟨rfl, by have := HR.out; rw [hin] at this; exact this, HW.out⟩
      have FIN := Aside0.mk fin
      clear fin hin
      go_wp2
      go_end0
      exact FIN.out
set_option maxHeartbeats 1000000 in
set_option maxRecDepth 100000 in
theorem wyes_calls (w : World) (g : Nat) (l : List Int) (bad : Bool) (y : Bool) (h : Wr w g l bad) (hl : l.length ≤ 140737488350000) :
    Calls Try.prog 19 #[.pointer (some ⟨g, 0, none⟩), .bool y] w (WrQ w g (l ++ [if y then 1 else 0]) bad) := by
  have HR := Aside0.mk h
  have HL := Aside0.mk hl
  clear h hl
  cases y
  all_goals
    go_enter Try.func19, Try.ntmps19
    go_wp2_with fail
    refine (wnum_calls w g l bad _ 1 HR.out (by decide) HL.out).mono ?_
    rintro e w2 ⟨rfl, hR, hW⟩
    have fin : WrQ w g _ bad (.returned (.tuple #[])) w2 := ⟨rfl, hR, hW⟩
    have FIN := Aside0.mk fin
    clear fin hR hW
    go_wp2
    go_end0
    exact FIN.out
def wmem (vs : List Int) : List Int := wnum vs.length 1 ++ wints vs
set_option maxHeartbeats 1000000 in
set_option maxRecDepth 100000 in
theorem wmem_calls (w : World) (g : Nat) (l : List Int) (bad : Bool) (A : Option Addr) (n c : Nat) (vs : List Int) (h : Wr w g l bad) (hC : ∀ W', WK w W' g → (Kd.int .i64).C W' A vs.length vs) (hn : n = vs.length) (hc : n ≤ c) (hv : n ≤ 140737488355328) (hl : l.length + 8 * n ≤ 140737488330000) :
    Calls Try.prog 21 #[.pointer (some ⟨g, 0, none⟩), .slice A n c] w (WrQ w g (l ++ wmem vs) ((bad || decide (9 < vs.length)) || vs.any (fun x => decide (x < 0)))) := by
  have HR := Aside0.mk h
  have HC := Aside0.mk hC
  have HN := Aside0.mk hn
  have HL := Aside0.mk hl
  obtain ⟨A', n', c', hb', hrd⟩ := h
  have m1 : w.cell? ⟨g, 1, none⟩ = some (.bool bad) := blk_cell hb' 1
  have f1 := blk_frozen hb' 1
  clear hC hn hl hb' hrd
  have HD : Aside0 (decide ((9 : Int) < (n : Int)) = decide (9 < vs.length)) := ⟨by rw [HN.out]; exact decide_eq_decide.2 (by omega)⟩
  obtain ⟨nb, hnb⟩ : ∃ nb, nb = (bad || decide (9 < vs.length)) := ⟨_, rfl⟩
  rw [← hnb]
  have HNB := Aside0.mk hnb
  clear hnb
  cases bad
  all_goals
    go_enter Try.func21, Try.ntmps21
    go_upto_region 1 with (fail)
    generalize hwb : World.setCell w _ _ = w2
    have HR2 : Aside0 (Wr w2 g l nb) := ⟨by rw [HNB.out, ← hwb, ← HD.out]; exact HR.out.setBad _⟩
    have HW2 : Aside0 (WK w w2 g) := ⟨by rw [← hwb]; exact (WK.refl _ _).set 1 _⟩
    clear hwb HR m1 f1
    go_wp2_with fail
    refine (wnum_calls w2 g l _ n 1 HR2.out (by decide) (by have := HL.out; omega)).mono ?_
    rintro e w3 ⟨rfl, hR3, hW3⟩
    have HR3 := Aside0.mk hR3
    have HW3 := Aside0.mk (HW2.out.trans hW3)
    clear hR3 hW3 HR2 HW2
    go_wp2_with fail
    refine (wints_calls w3 g _ _ A n c vs HR3.out (fun W' hW => HC.out W' (HW3.out.trans hW)) HN.out hc hv (by rw [List.length_append, wnum_length]; have := HL.out; omega)).mono ?_
    rintro e w4 ⟨rfl, hR4, hW4⟩
    rw [List.append_assoc, HN.out] at hR4
    have fin : WrQ w g (l ++ wmem vs) _ (.returned (.tuple #[])) w4 := ⟨rfl, hR4, HW3.out.trans hW4⟩
    have FIN := Aside0.mk fin
    clear fin hR4 hW4
    go_wp2
    go_end0
    exact FIN.out
theorem bytesOf_length (s : ByteArray) : (bytesOf s).length = s.size := by simp [bytesOf]
theorem src_string (s : ByteArray) (w : World) : Src Try.prog 1 9 (.string s) (nums .u8 (bytesOf s)).length (nums .u8 (bytesOf s)) w := by
  have q := Src.ofString (P := Try.prog) (w := w) Try.underlying9 s
  have e : byteCells s = nums .u8 (bytesOf s) := by simp [byteCells, nums, bytesOf]
  rw [nums_length, bytesOf_length, ← e]
  exact q
def wtext (s : ByteArray) : List Int := wnum s.size 4 ++ bytesOf s
set_option maxHeartbeats 1000000 in
set_option maxRecDepth 100000 in
theorem wtext_calls (w : World) (g : Nat) (l : List Int) (bad : Bool) (s : ByteArray) (most : Nat) (h : Wr w g l bad) (hs : s.size ≤ 140737488300000) (hl : l.length + s.size ≤ 140737488330000) :
    Calls Try.prog 22 #[.pointer (some ⟨g, 0, none⟩), .string s, .int .i64 most] w (WrQ w g (l ++ wtext s) (bad || decide (most < s.size))) := by
  have HR := Aside0.mk h
  have HL := Aside0.mk hl
  obtain ⟨A', n', c', hb', hrd⟩ := h
  have m1 : w.cell? ⟨g, 1, none⟩ = some (.bool bad) := blk_cell hb' 1
  have f1 := blk_frozen hb' 1
  obtain ⟨nb, hnb⟩ : ∃ nb, nb = (bad || decide (most < s.size)) := ⟨_, rfl⟩
  rw [← hnb]
  have HNB := Aside0.mk hnb
  clear hl hb' hrd hnb
  cases bad
  all_goals
    go_enter Try.func22, Try.ntmps22
    go_upto_region 1 with (fail)
    generalize hwb : World.setCell w _ _ = w2
    have HR2 : Aside0 (Wr w2 g l nb) := ⟨by rw [HNB.out, ← hwb]; exact HR.out.setBad _⟩
    have HW2 : Aside0 (WK w w2 g) := ⟨by rw [← hwb]; exact (WK.refl _ _).set 1 _⟩
    clear hwb HR m1 f1
    go_wp2_with fail
    refine (wnum_calls w2 g l _ s.size 4 HR2.out (by decide) (by have := HL.out; omega)).mono ?_
    rintro e w3 ⟨rfl, hR3, hW3⟩
    have HW3 := Aside0.mk (HW2.out.trans hW3)
    obtain ⟨acc, hacc⟩ : ∃ acc, acc = l ++ wnum s.size 4 := ⟨_, rfl⟩
    rw [← hacc] at hR3
    have HACC := Aside0.mk hacc
    obtain ⟨A, n, c, hb, hn, hz, hO⟩ := hR3
    have m0 : w3.cell? ⟨g, 0, none⟩ = some (.slice A n c) := blk_cell hb 0
    have f0 := blk_frozen hb 0
    have HB := Aside0.mk hb
    have HN := Aside0.mk hn
    have HZ := Aside0.mk hz
    have HO := Aside0.mk hO
    have HS : Aside0 (Src Try.prog 1 9 (.string s) (nums .u8 (bytesOf s)).length (nums .u8 (bytesOf s)) w3) := ⟨src_string s w3⟩
    obtain ⟨i0, hi0, hz0, hz1, hz2⟩ := info_parts infoB
    clear hW3 HR2 HW2 hb hn hz hO hacc
    go_wp2_with (at_builtin; refine QT.wpList_append_at rfl _ _ 30 9 rfl 5 i0 (.int .u8 0) 1 Try.underlying30 hi0 hz0 rfl hz1 hz2 rfl HO.out _ rfl (nums .u8 (bytesOf s)) HS.out (QT.nums_one _ _) (by rw [nums_length, nums_length, bytesOf_length, HACC.out, List.length_append, wnum_length]; have := HL.out; omega) (by decide) ?_ ?_)
    · have := blk_lt HB.out; omega
    · intro v4 w4 hO4 hG4 hv4
      have hb4 := (hG4.block _ (blk_lt HB.out) (by intro he; have := HO.out.base_le _ he.symm; omega)).trans HB.out
      have hW4 := WK.grown HO.out (fun h => HZ.out (by simpa [nums] using h)) hG4
      obtain ⟨A4, c4, e4, hl4, _⟩ := hO4.slice
      rw [← nums_append, nums_length] at e4
      rw [← nums_append] at hO4
      obtain ⟨n4, hn4⟩ : ∃ n4, n4 = (acc ++ bytesOf s).length := ⟨_, rfl⟩
      rw [← hn4] at e4
      subst e4
      have m4 : w4.cell? ⟨g, 0, none⟩ = some (.slice A n c) := blk_cell hb4 0
      have f4 := blk_frozen hb4 0
      have hz4 : acc ++ bytesOf s = [] → A4 = none := fun h => absurd (congrArg List.length h) (by rw [HACC.out, List.length_append, List.length_append, wnum_length]; simp)
      have fin : WrQ w g (l ++ wtext s) nb (.returned (.tuple #[])) (w4.setCell ⟨g, 0, none⟩ (.slice A4 n4 c4)) := ⟨rfl, by
        rw [wtext, ← List.append_assoc, ← HACC.out]
        exact ⟨A4, n4, c4, blk_set hb4 0 _, hn4, hz4, hO4.setCell (p := ⟨g, 0, none⟩) (by intro he; have := hO4.base_le _ he; simp at this; omega) _⟩, (HW3.out.trans hW4).set 0 _⟩
      have FIN := Aside0.mk fin
      clear fin hz4 hn4 hO4 hG4 hv4 hb4 hW4 hl4 m0 f0
      go_wp2
      go_end0
      exact FIN.out
end Go.Proofs.Ytbemfgpdfacdpaa.Ms
