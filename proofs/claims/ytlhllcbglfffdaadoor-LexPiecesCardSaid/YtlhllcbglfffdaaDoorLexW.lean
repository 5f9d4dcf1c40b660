/- The walks of the scanner's methods. -/
import Derived.Test.YtlhllcbglfffdaaDoorPr0
import Derived.Test.YtlhllcbglfffdaaDoorPr3
import Derived.Test.YtlhllcbglfffdaaDoorPr3
import Derived.Test.YtlhllcbglfffdaaDoorPr3
import Derived.Test.YtlhllcbglfffdaaDoorPr3
import Derived.Outline
namespace Go.Proofs.YtlhllcbglfffdaaDoor.Lx
open Go.RowKit Go.Proofs.YtlhllcbglfffdaaDoor.Pr Go.Proofs.YtlhllcbglfffdaaDoorW.PrintWords Go.Proofs.YtlhllcbglfffdaaDoorW.PrintLast Go.Proofs.YtlhllcbglfffdaaDoorW.PrintMore
set_option linter.unusedVariables false
set_option linter.unusedSimpArgs false

/-- The scanner's block: a text, a place in it, tokens. -/
def Blk (w : World) (g : Nat) (s : ByteArray) (at_ : Int) (L : Value) : Prop := w.heap[g]? = some (.cells #[.string s, .int .i64 at_, L] 42 (0, 0))
theorem Blk.c0 {w g s at_ L} (h : Blk w g s at_ L) : w.cell? ⟨g, 0, none⟩ = some (.string s) := blk_cell h 0
theorem Blk.c1 {w g s at_ L} (h : Blk w g s at_ L) : w.cell? ⟨g, 1, none⟩ = some (.int .i64 at_) := blk_cell h 1
theorem Blk.c2 {w g s at_ L} (h : Blk w g s at_ L) : w.cell? ⟨g, 2, none⟩ = some L := blk_cell h 2
theorem Blk.fr {w g s at_ L} (h : Blk w g s at_ L) (i : Nat) : w.frozen? ⟨g, i, none⟩ = false := blk_frozen h i
theorem Blk.at1 {w g s at_ L} (h : Blk w g s at_ L) (a : Int) : Blk (w.setCell ⟨g, 1, none⟩ (.int .i64 a)) g s a L := by
  have := blk_set h 1 (.int .i64 a); simpa [Blk] using this

set_option maxHeartbeats 400000 in
theorem end_calls (s : ByteArray) (at_ : Int) (L : Value) (g : Nat) (w : World) (hb : Blk w g s at_ L) :
    Calls Tryd.prog 16 #[.pointer (some ⟨g, 0, none⟩)] w fun e w' => e = .returned (.bool (decide ((s.size : Int) ≤ at_))) ∧ Drawn0 w w' := by
  have c0 := hb.c0
  have c1 := hb.c1
  clear hb
  go_enter Tryd.func16, Tryd.ntmps16
  go_wp2
  go_quiet (fail)
  go_wp2
  go_ret
  exact ⟨rfl, ⟨_, rfl⟩⟩

/-- All is as it was but the scanner's own block, and what is new. -/
structure Keep (w w' : World) (g : Nat) : Prop where
  k : KeepBut w w' g none
  b : Below g w w'
theorem Keep.refl (w : World) (g : Nat) : Keep w w g := ⟨KeepBut.refl _ _ _, Below.refl _ _⟩
theorem Keep.drewN {w w' : World} {g : Nat} (h : Keep w w' g) (n : Nat) : Keep w (w'.drewN n) g := ⟨keep_drewN h.k n, pw_below_drewN h.b n⟩
theorem Keep.set {w w' : World} {g : Nat} (h : Keep w w' g) (j : Nat) (u : Value) : Keep w (w'.setCell ⟨g, j, none⟩ u) g := ⟨KeepBut.set_ h.k j u, h.b.setCell (Nat.le_refl _) u⟩
theorem Keep.trans {w w1 w2 : World} {g : Nat} (h : Keep w w1 g) (k : Keep w1 w2 g) : Keep w w2 g := ⟨h.k.trans k.k (.inl rfl), h.b.trans k.b⟩

theorem quiet0 {P : Program} {f : FuncId} {args : Array Value} {w : World} {n : Nat} {v : Value}
    (h : Calls P f args (w.drewN n) fun e w' => e = .returned v ∧ Drawn0 (w.drewN n) w') : Calls P f args (w.drewN n) fun e w'' => e = .returned v ∧ ∃ m, w'' = w.drewN m :=
  Calls.quiet_of (h.mono fun _ _ ⟨he, ⟨m, hm⟩⟩ => ⟨he, m, hm⟩)

/-- Where a row of bytes that are so ends. -/
def rowEnd (s : ByteArray) (p : Int → Bool) : Nat → Nat → Nat
  | 0, i => i
  | d + 1, i => if i < s.size ∧ p (bt s i) = true then rowEnd s p d (i + 1) else i
theorem rowEnd_le (s : ByteArray) (p : Int → Bool) : ∀ d i, i ≤ s.size → i ≤ rowEnd s p d i ∧ rowEnd s p d i ≤ s.size := by
  intro d
  induction d with
  | zero => intro i h; exact ⟨Nat.le_refl _, h⟩
  | succ d ih =>
    intro i h
    rw [rowEnd]
    split
    · rename_i q; have := ih (i + 1) (by omega); omega
    · exact ⟨Nat.le_refl _, h⟩
theorem rowEnd_go (s : ByteArray) (p : Int → Bool) (i : Nat) (h : i < s.size) (hp : p (bt s i) = true) : rowEnd s p (s.size - i) i = rowEnd s p (s.size - (i + 1)) (i + 1) := by
  rw [show s.size - i = (s.size - (i + 1)) + 1 by omega, rowEnd, if_pos ⟨h, hp⟩]
theorem rowEnd_stop (s : ByteArray) (p : Int → Bool) (i : Nat) (h : ¬ (i < s.size ∧ p (bt s i) = true)) : rowEnd s p (s.size - i) i = i := by
  cases hd : s.size - i with
  | zero => rfl
  | succ d => rw [rowEnd, if_neg h]

set_option maxHeartbeats 1000000 in
set_option maxRecDepth 100000 in
theorem row_blank (s : ByteArray) (i0 : Nat) (L : Value) (g : Nat) (p : Int → Bool) (w : World) (hs : s.size ≤ 140737488351232) (hi0 : i0 ≤ s.size) (hb : Blk w g s i0 L)
    (hp : ∀ (c : Int) (w : World), 0 ≤ c → c ≤ 255 → Calls Tryd.prog 21 #[.int .u8 c] w fun e w' => e = .returned (.bool (p c)) ∧ Drawn0 w w') :
    Calls Tryd.prog 20 #[.pointer (some ⟨g, 0, none⟩), .func (.func 21) #[] #[]] w fun e w' =>
      e = .returned (.string (s.extract i0 (rowEnd s p (s.size - i0) i0))) ∧ Blk w' g s (rowEnd s p (s.size - i0) i0 : Nat) L ∧ Keep w w' g := by
  obtain ⟨R, hR⟩ : ∃ R, rowEnd s p (s.size - i0) i0 = R := ⟨_, rfl⟩
  have hR2 := rowEnd_le s p (s.size - i0) i0 hi0
  rw [hR] at hR2 ⊢
  have HR := Aside0.mk hR
  clear hR
  have c1 := hb.c1
  have HB := Aside0.mk hb
  have HP := Aside0.mk hp
  clear hp hb
  go_enter Tryd.func20, Tryd.ntmps20
  go_wp2
  go_loopg [] (s.size - i0) (fun gk w' => ∃ i : Nat, Aside0 (i ≤ s.size) ∧ Aside0 (i0 ≤ i) ∧ Aside0 (rowEnd s p (s.size - i) i = R) ∧ Aside0 (Blk w' g s i L) ∧ Aside0 (Keep w w' g) ∧ Aside0 (s.size - i ≤ gk))
  case atStart => exact ⟨i0, ⟨hi0⟩, ⟨Nat.le_refl _⟩, HR, HB, ⟨Keep.refl _ _⟩, ⟨Nat.le_refl _⟩⟩
  case round =>
    clear HR HB c1
    obtain ⟨i, Hi, Hi0, HR, HB, HK, HG⟩ := hrel
    have c0 := HB.out.c0
    have c1 := HB.out.c1
    have f1 := HB.out.fr 1
    have hi := Hi.out
    by_cases hlt : i < s.size
    · have hlt2 : (i : Int) < (s.size : Int) := by omega
      have e1 : decide (s.size ≤ i) = false := decide_eq_false (by omega)
      have hr := bt_range s (i : Int)
      have hx : ∀ h : i < s.size, ((s[i]'h).toNat : Int) = bt s (i : Int) := fun h => bt_at s (i : Int) h
      cases hpi : p (bt s (i : Int)) with
      | true =>
        have HPI := Aside0.mk hpi
        have HPT := Aside0.mk (show ∀ W : World, Calls Tryd.prog 21 #[.int .u8 (bt s (i : Int))] W fun e w' => e = .returned (.bool true) ∧ Drawn0 W w' from fun W => hpi ▸ HP.out _ W hr.1 hr.2)
        clear hpi
        go_upto_region 2 with (fail)
        go_quiet (first | (go_at_call 16; exact quiet0 (end_calls s i L g _ (blk_drewN HB.out _))) | (go_at_call 21; exact quiet0 (HPT.out _)))
        go_wp2
        go_roundg (s.size - (i + 1))
        case measure => have := HG.out; omega
        case rel =>
          have hpi := HPI.out
          refine ⟨i + 1, ⟨by omega⟩, ⟨by have := Hi0.out; omega⟩, ⟨by rw [← rowEnd_go s p i hlt hpi]; exact HR.out⟩, ⟨?_⟩, ⟨?_⟩, ⟨Nat.le_refl _⟩⟩
          · exact Blk.at1 (blk_drewN HB.out _) _
          · exact Keep.set (HK.out.drewN _) _ _
      | false =>
        have HPI := Aside0.mk hpi
        have HPT := Aside0.mk (show ∀ W : World, Calls Tryd.prog 21 #[.int .u8 (bt s (i : Int))] W fun e w' => e = .returned (.bool false) ∧ Drawn0 W w' from fun W => hpi ▸ HP.out _ W hr.1 hr.2)
        clear hpi
        go_upto_region 2 with (fail)
        go_quiet (first | (go_at_call 16; exact quiet0 (end_calls s i L g _ (blk_drewN HB.out _))) | (go_at_call 21; exact quiet0 (HPT.out _)))
        go_wp2
        have hi0' := Hi0.out
        have hz1 : (i0 : Int) ≤ (i : Int) := by omega
        have hz2 : (i : Int) ≤ (s.size : Int) := by omega
        go_quiet (fail)
        go_wp2
        go_ret
        have e := (rowEnd_stop s p i (fun h => by rw [HPI.out] at h; cases h.2)).symm.trans HR.out
        subst e
        exact ⟨rfl, blk_drewN (blk_drewN HB.out _) _, (HK.out.drewN _).drewN _⟩
    · have e1 : decide (s.size ≤ i) = true := decide_eq_true (by omega)
      go_upto_region 2 with (fail)
      go_quiet ((go_at_call 16; exact quiet0 (end_calls s i L g _ (blk_drewN HB.out _))))
      go_wp2
      have hi0' := Hi0.out
      have hz1 : (i0 : Int) ≤ (i : Int) := by omega
      have hz2 : (i : Int) ≤ (s.size : Int) := by omega
      go_quiet (fail)
      go_wp2
      go_ret
      have e := (rowEnd_stop s p i (fun h => hlt h.1)).symm.trans HR.out
      subst e
      exact ⟨rfl, blk_drewN (blk_drewN HB.out _) _, (HK.out.drewN _).drewN _⟩
set_option maxHeartbeats 1000000 in
set_option maxRecDepth 100000 in
theorem row_nn (s : ByteArray) (i0 : Nat) (L : Value) (g : Nat) (p : Int → Bool) (w : World) (hs : s.size ≤ 140737488351232) (hi0 : i0 ≤ s.size) (hb : Blk w g s i0 L)
    (hp : ∀ (c : Int) (w : World), 0 ≤ c → c ≤ 255 → Calls Tryd.prog 22 #[.int .u8 c] w fun e w' => e = .returned (.bool (p c)) ∧ Drawn0 w w') :
    Calls Tryd.prog 20 #[.pointer (some ⟨g, 0, none⟩), .func (.func 22) #[] #[]] w fun e w' =>
      e = .returned (.string (s.extract i0 (rowEnd s p (s.size - i0) i0))) ∧ Blk w' g s (rowEnd s p (s.size - i0) i0 : Nat) L ∧ Keep w w' g := by
  obtain ⟨R, hR⟩ : ∃ R, rowEnd s p (s.size - i0) i0 = R := ⟨_, rfl⟩
  have hR2 := rowEnd_le s p (s.size - i0) i0 hi0
  rw [hR] at hR2 ⊢
  have HR := Aside0.mk hR
  clear hR
  have c1 := hb.c1
  have HB := Aside0.mk hb
  have HP := Aside0.mk hp
  clear hp hb
  go_enter Tryd.func20, Tryd.ntmps20
  go_wp2
  go_loopg [] (s.size - i0) (fun gk w' => ∃ i : Nat, Aside0 (i ≤ s.size) ∧ Aside0 (i0 ≤ i) ∧ Aside0 (rowEnd s p (s.size - i) i = R) ∧ Aside0 (Blk w' g s i L) ∧ Aside0 (Keep w w' g) ∧ Aside0 (s.size - i ≤ gk))
  case atStart => exact ⟨i0, ⟨hi0⟩, ⟨Nat.le_refl _⟩, HR, HB, ⟨Keep.refl _ _⟩, ⟨Nat.le_refl _⟩⟩
  case round =>
    clear HR HB c1
    obtain ⟨i, Hi, Hi0, HR, HB, HK, HG⟩ := hrel
    have c0 := HB.out.c0
    have c1 := HB.out.c1
    have f1 := HB.out.fr 1
    have hi := Hi.out
    by_cases hlt : i < s.size
    · have hlt2 : (i : Int) < (s.size : Int) := by omega
      have e1 : decide (s.size ≤ i) = false := decide_eq_false (by omega)
      have hr := bt_range s (i : Int)
      have hx : ∀ h : i < s.size, ((s[i]'h).toNat : Int) = bt s (i : Int) := fun h => bt_at s (i : Int) h
      cases hpi : p (bt s (i : Int)) with
      | true =>
        have HPI := Aside0.mk hpi
        have HPT := Aside0.mk (show ∀ W : World, Calls Tryd.prog 22 #[.int .u8 (bt s (i : Int))] W fun e w' => e = .returned (.bool true) ∧ Drawn0 W w' from fun W => hpi ▸ HP.out _ W hr.1 hr.2)
        clear hpi
        go_upto_region 2 with (fail)
        go_quiet (first | (go_at_call 16; exact quiet0 (end_calls s i L g _ (blk_drewN HB.out _))) | (go_at_call 22; exact quiet0 (HPT.out _)))
        go_wp2
        go_roundg (s.size - (i + 1))
        case measure => have := HG.out; omega
        case rel =>
          have hpi := HPI.out
          refine ⟨i + 1, ⟨by omega⟩, ⟨by have := Hi0.out; omega⟩, ⟨by rw [← rowEnd_go s p i hlt hpi]; exact HR.out⟩, ⟨?_⟩, ⟨?_⟩, ⟨Nat.le_refl _⟩⟩
          · exact Blk.at1 (blk_drewN HB.out _) _
          · exact Keep.set (HK.out.drewN _) _ _
      | false =>
        have HPI := Aside0.mk hpi
        have HPT := Aside0.mk (show ∀ W : World, Calls Tryd.prog 22 #[.int .u8 (bt s (i : Int))] W fun e w' => e = .returned (.bool false) ∧ Drawn0 W w' from fun W => hpi ▸ HP.out _ W hr.1 hr.2)
        clear hpi
        go_upto_region 2 with (fail)
        go_quiet (first | (go_at_call 16; exact quiet0 (end_calls s i L g _ (blk_drewN HB.out _))) | (go_at_call 22; exact quiet0 (HPT.out _)))
        go_wp2
        have hi0' := Hi0.out
        have hz1 : (i0 : Int) ≤ (i : Int) := by omega
        have hz2 : (i : Int) ≤ (s.size : Int) := by omega
        go_quiet (fail)
        go_wp2
        go_ret
        have e := (rowEnd_stop s p i (fun h => by rw [HPI.out] at h; cases h.2)).symm.trans HR.out
        subst e
        exact ⟨rfl, blk_drewN (blk_drewN HB.out _) _, (HK.out.drewN _).drewN _⟩
    · have e1 : decide (s.size ≤ i) = true := decide_eq_true (by omega)
      go_upto_region 2 with (fail)
      go_quiet ((go_at_call 16; exact quiet0 (end_calls s i L g _ (blk_drewN HB.out _))))
      go_wp2
      have hi0' := Hi0.out
      have hz1 : (i0 : Int) ≤ (i : Int) := by omega
      have hz2 : (i : Int) ≤ (s.size : Int) := by omega
      go_quiet (fail)
      go_wp2
      go_ret
      have e := (rowEnd_stop s p i (fun h => hlt h.1)).symm.trans HR.out
      subst e
      exact ⟨rfl, blk_drewN (blk_drewN HB.out _) _, (HK.out.drewN _).drewN _⟩
set_option maxHeartbeats 1000000 in
set_option maxRecDepth 100000 in
theorem row_word (s : ByteArray) (i0 : Nat) (L : Value) (g : Nat) (p : Int → Bool) (w : World) (hs : s.size ≤ 140737488351232) (hi0 : i0 ≤ s.size) (hb : Blk w g s i0 L)
    (hp : ∀ (c : Int) (w : World), 0 ≤ c → c ≤ 255 → Calls Tryd.prog 24 #[.int .u8 c] w fun e w' => e = .returned (.bool (p c)) ∧ Drawn0 w w') :
    Calls Tryd.prog 20 #[.pointer (some ⟨g, 0, none⟩), .func (.func 24) #[] #[]] w fun e w' =>
      e = .returned (.string (s.extract i0 (rowEnd s p (s.size - i0) i0))) ∧ Blk w' g s (rowEnd s p (s.size - i0) i0 : Nat) L ∧ Keep w w' g := by
  obtain ⟨R, hR⟩ : ∃ R, rowEnd s p (s.size - i0) i0 = R := ⟨_, rfl⟩
  have hR2 := rowEnd_le s p (s.size - i0) i0 hi0
  rw [hR] at hR2 ⊢
  have HR := Aside0.mk hR
  clear hR
  have c1 := hb.c1
  have HB := Aside0.mk hb
  have HP := Aside0.mk hp
  clear hp hb
  go_enter Tryd.func20, Tryd.ntmps20
  go_wp2
  go_loopg [] (s.size - i0) (fun gk w' => ∃ i : Nat, Aside0 (i ≤ s.size) ∧ Aside0 (i0 ≤ i) ∧ Aside0 (rowEnd s p (s.size - i) i = R) ∧ Aside0 (Blk w' g s i L) ∧ Aside0 (Keep w w' g) ∧ Aside0 (s.size - i ≤ gk))
  case atStart => exact ⟨i0, ⟨hi0⟩, ⟨Nat.le_refl _⟩, HR, HB, ⟨Keep.refl _ _⟩, ⟨Nat.le_refl _⟩⟩
  case round =>
    clear HR HB c1
    obtain ⟨i, Hi, Hi0, HR, HB, HK, HG⟩ := hrel
    have c0 := HB.out.c0
    have c1 := HB.out.c1
    have f1 := HB.out.fr 1
    have hi := Hi.out
    by_cases hlt : i < s.size
    · have hlt2 : (i : Int) < (s.size : Int) := by omega
      have e1 : decide (s.size ≤ i) = false := decide_eq_false (by omega)
      have hr := bt_range s (i : Int)
      have hx : ∀ h : i < s.size, ((s[i]'h).toNat : Int) = bt s (i : Int) := fun h => bt_at s (i : Int) h
      cases hpi : p (bt s (i : Int)) with
      | true =>
        have HPI := Aside0.mk hpi
        have HPT := Aside0.mk (show ∀ W : World, Calls Tryd.prog 24 #[.int .u8 (bt s (i : Int))] W fun e w' => e = .returned (.bool true) ∧ Drawn0 W w' from fun W => hpi ▸ HP.out _ W hr.1 hr.2)
        clear hpi
        go_upto_region 2 with (fail)
        go_quiet (first | (go_at_call 16; exact quiet0 (end_calls s i L g _ (blk_drewN HB.out _))) | (go_at_call 24; exact quiet0 (HPT.out _)))
        go_wp2
        go_roundg (s.size - (i + 1))
        case measure => have := HG.out; omega
        case rel =>
          have hpi := HPI.out
          refine ⟨i + 1, ⟨by omega⟩, ⟨by have := Hi0.out; omega⟩, ⟨by rw [← rowEnd_go s p i hlt hpi]; exact HR.out⟩, ⟨?_⟩, ⟨?_⟩, ⟨Nat.le_refl _⟩⟩
          · exact Blk.at1 (blk_drewN HB.out _) _
          · exact Keep.set (HK.out.drewN _) _ _
      | false =>
        have HPI := Aside0.mk hpi
        have HPT := Aside0.mk (show ∀ W : World, Calls Tryd.prog 24 #[.int .u8 (bt s (i : Int))] W fun e w' => e = .returned (.bool false) ∧ Drawn0 W w' from fun W => hpi ▸ HP.out _ W hr.1 hr.2)
        clear hpi
        go_upto_region 2 with (fail)
        go_quiet (first | (go_at_call 16; exact quiet0 (end_calls s i L g _ (blk_drewN HB.out _))) | (go_at_call 24; exact quiet0 (HPT.out _)))
        go_wp2
        have hi0' := Hi0.out
        have hz1 : (i0 : Int) ≤ (i : Int) := by omega
        have hz2 : (i : Int) ≤ (s.size : Int) := by omega
        go_quiet (fail)
        go_wp2
        go_ret
        have e := (rowEnd_stop s p i (fun h => by rw [HPI.out] at h; cases h.2)).symm.trans HR.out
        subst e
        exact ⟨rfl, blk_drewN (blk_drewN HB.out _) _, (HK.out.drewN _).drewN _⟩
    · have e1 : decide (s.size ≤ i) = true := decide_eq_true (by omega)
      go_upto_region 2 with (fail)
      go_quiet ((go_at_call 16; exact quiet0 (end_calls s i L g _ (blk_drewN HB.out _))))
      go_wp2
      have hi0' := Hi0.out
      have hz1 : (i0 : Int) ≤ (i : Int) := by omega
      have hz2 : (i : Int) ≤ (s.size : Int) := by omega
      go_quiet (fail)
      go_wp2
      go_ret
      have e := (rowEnd_stop s p i (fun h => hlt h.1)).symm.trans HR.out
      subst e
      exact ⟨rfl, blk_drewN (blk_drewN HB.out _) _, (HK.out.drewN _).drewN _⟩
end Go.Proofs.YtlhllcbglfffdaaDoor.Lx
