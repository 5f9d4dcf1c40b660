/- The walk of a reader: it takes several numbers, lists and texts. -/
import Derived.Test.YtbemfgpdfacdpaaMsg1
namespace Go.Proofs.Ytbemfgpdfacdpaa.Ms
open Go.RowKit Go.Proofs.YtbemfgpdfacdpaaW.PrintWords Go.Proofs.YtbemfgpdfacdpaaW.PrintLast Go.Proofs.YtbemfgpdfacdpaaW.PrintMore
set_option linter.unusedVariables false
set_option linter.unusedSimpArgs false
abbrev maxI : Nat := 9223372036854775807
/-- m numbers of eight bytes. -/
def intsP (l : List Int) (bad : Bool) : Nat → List Int × List Int × Bool
  | 0 => ([], l, bad)
  | m + 1 => ((intsP l bad m).1 ++ [((numP (intsP l bad m).2.1 (intsP l bad m).2.2 8 maxI).1 : Int)], (numP (intsP l bad m).2.1 (intsP l bad m).2.2 8 maxI).2)
theorem intsP_length (l : List Int) (bad : Bool) : ∀ m, (intsP l bad m).1.length = m
  | 0 => rfl
  | m + 1 => by rw [intsP, List.length_append, intsP_length l bad m]; rfl
theorem takeP_left {l : List Int} {bad : Bool} {n : Nat} {P : Int → Prop} (h : ∀ x ∈ l, P x) : ∀ x ∈ (takeP l bad n).2.1, P x := by
  unfold takeP
  split
  · exact h
  · exact fun x hx => h x (List.mem_of_mem_drop hx)
theorem numP_left {l : List Int} {bad : Bool} {n m : Nat} {P : Int → Prop} (h : ∀ x ∈ l, P x) : ∀ x ∈ (numP l bad n m).2.1, P x := by
  unfold numP
  split <;> exact takeP_left h
theorem numP_le (l : List Int) (bad : Bool) (n m : Nat) : (numP l bad n m).1 ≤ m := by
  unfold numP
  split <;> simp <;> omega
theorem intsP_left {l : List Int} {bad : Bool} {P : Int → Prop} (h : ∀ x ∈ l, P x) : ∀ m, ∀ x ∈ (intsP l bad m).2.1, P x
  | 0 => h
  | m + 1 => numP_left (intsP_left h m)
/-- Cells from o on, numbers put into them. -/
def putI (cs : Array Value) (o : Nat) (vs : List Int) : Array Value := vs.foldl (fun (p : Array Value × Nat) v => (p.1.setIfInBounds p.2 (.int .i64 v), p.2 + 1)) (cs, o) |>.1
theorem putI_snd (vs : List Int) : ∀ (cs : Array Value) (o : Nat), (vs.foldl (fun (p : Array Value × Nat) v => (p.1.setIfInBounds p.2 (.int .i64 v), p.2 + 1)) (cs, o)).2 = o + vs.length := by
  induction vs with
  | nil => intro cs o; rfl
  | cons v vs ih => intro cs o; rw [List.foldl_cons, ih, List.length_cons]; omega
theorem putI_snoc (cs : Array Value) (o : Nat) (vs : List Int) (v : Int) : putI cs o (vs ++ [v]) = (putI cs o vs).setIfInBounds (o + vs.length) (.int .i64 v) := by
  have := putI_snd vs cs o
  simp only [putI, List.foldl_append, List.foldl_cons, List.foldl_nil]
  rw [this]
theorem putI_get (cs : Array Value) (vs : List Int) (o j : Nat) (h : ∃ v, cs[j]? = some v) : ∃ v, (putI cs o vs)[j]? = some v := by
  have hz : ∀ vs : List Int, (putI cs o vs).size = cs.size := fun vs => by
    unfold putI
    induction vs generalizing cs o with
    | nil => rfl
    | cons v vs ih => rw [List.foldl_cons, ih]; · simp
                      · obtain ⟨v, hv⟩ := h
                        have := (Array.getElem?_eq_some_iff.1 hv).1
                        exact ⟨_, Array.getElem?_eq_getElem (by simpa using this)⟩
  obtain ⟨v, hv⟩ := h
  have := (Array.getElem?_eq_some_iff.1 hv).1
  exact ⟨_, Array.getElem?_eq_getElem (by rw [hz]; exact this)⟩
def ptrs (gm o m : Nat) : Array Value := ((List.range m).map fun j => Value.pointer (some ⟨gm, o + j, none⟩)).toArray
theorem ptrs_get (gm o m j : Nat) (h : j < m) : (ptrs gm o m)[j]? = some (.pointer (some ⟨gm, o + j, none⟩)) := by simp [ptrs, h]
def IntsQ (w0 w : World) (g gm o : Nat) (cs : Array Value) (t : TypeId) (r : List Int × List Int × Bool) (e : Ending) (w' : World) : Prop :=
  e = .returned (.tuple #[]) ∧ Rd w0 w' g r.2.1 r.2.2 ∧ w'.heap[gm]? = some (.cells (putI cs o r.1) t (0, 0)) ∧ Kept w w' (fun k => k = g ∨ k = gm) ∧ Below w0.heap.size w0 w'
set_option maxHeartbeats 1000000 in
set_option maxRecDepth 100000 in
theorem rints_calls (w0 w : World) (g : Nat) (l : List Int) (bad : Bool) (gt gm o m : Nat) (cs : Array Value) (t : TypeId) (hB : Below w0.heap.size w0 w) (hg : w0.heap.size ≤ g) (hgm : w0.heap.size ≤ gm) (h : Rd w0 w g l bad) (hby : ∀ x ∈ l, 0 ≤ x ∧ x ≤ 255)
    (hm : m ≤ 9) (hcs : w.heap[gm]? = some (.cells cs t (0, 0))) (hpt : w.heap[gt]? = some (.cells (ptrs gm o m) 68 (0, 0))) (h1 : gm ≠ g) (h2 : gt ≠ g) (h3 : gt ≠ gm) (hcv : ∀ i, i < m → ∃ v, cs[o + i]? = some v) :
    Calls Try.prog 30 #[.pointer (some ⟨g, 0, none⟩), .slice (some ⟨gt, 0, none⟩) m m] w (IntsQ w0 w g gm o cs t (intsP l bad m)) := by
  have HR := Aside0.mk h
  have HB := Aside0.mk hB
  have HG := Aside0.mk hg
  have HGM := Aside0.mk hgm
  have HBY := Aside0.mk hby
  have HM := Aside0.mk hm
  have HCS := Aside0.mk hcs
  have HPT := Aside0.mk hpt
  have H1 := Aside0.mk h1
  have H2 := Aside0.mk h2
  have H3 := Aside0.mk h3
  have HCV := Aside0.mk hcv
  clear h hB hg hgm hby hm hcs hpt h1 h2 h3 hcv
  go_enter Try.func30, Try.ntmps30
  go_wp2_with fail
  go_loopg [8] 9 (fun gk v8 wr => ∃ (i : Nat), v8 = .int .i64 i ∧ Aside0 (i ≤ m) ∧ Aside0 (m - i ≤ gk) ∧ Aside0 (Rd w0 wr g (intsP l bad i).2.1 (intsP l bad i).2.2) ∧ Aside0 (wr.heap[gm]? = some (.cells (putI cs o (intsP l bad i).1) t (0, 0))) ∧ Aside0 (Kept w wr (fun k => k = g ∨ k = gm)) ∧ Aside0 (Below w0.heap.size w0 wr))
  case atStart => exact ⟨0, rfl, ⟨by omega⟩, ⟨by have := HM.out; omega⟩, HR, HCS, ⟨Kept.refl _ _⟩, HB⟩
  case round =>
    clear HR HCS HB
    obtain ⟨i, rfl, HI, HGK, HR, HCS, HK, HB⟩ := hrel
    have hi := HI.out
    by_cases hlt : i < m
    · have l1 : decide (i < m) = true := decide_eq_true hlt
      have z1 : (i : Int) < (m : Int) := by omega
      have hpb := blk_kept HPT.out HK.out (by have := H2.out; have := H3.out; simp; omega)
      have c1 : wr.cell? ⟨gt, i, none⟩ = some (.pointer (some ⟨gm, o + i, none⟩)) := (blk_cell hpb i).trans (ptrs_get _ _ _ _ hlt)
      clear hpb
      go_wp2_with fail
      refine (rnum_calls w0 wr g _ _ 8 maxI HB.out HG.out HR.out (intsP_left HBY.out i) (by decide) (by decide)).mono ?_
      rintro e w1 ⟨rfl, hR1, hK1, hB1⟩
      have hs := blk_kept HCS.out hK1 (by have := H1.out; simp; omega)
      have f1 := blk_frozen hs (o + i)
      have hcell : ∃ u, w1.cell? ⟨gm, o + i, none⟩ = some u := by
        obtain ⟨v, hv⟩ := putI_get cs (intsP l bad i).1 o (o + i) (HCV.out i hlt)
        exact ⟨v, (blk_cell hs _).trans hv⟩
      obtain ⟨u, m1⟩ := hcell
      have hR2 : Rd w0 (w1.setCell ⟨gm, o + i, none⟩ (.int .i64 (numP (intsP l bad i).2.1 (intsP l bad i).2.2 8 maxI).1)) g (numP (intsP l bad i).2.1 (intsP l bad i).2.2 8 maxI).2.1 (numP (intsP l bad i).2.1 (intsP l bad i).2.2 8 maxI).2.2 := by
        obtain ⟨A, k, c, q1, q2⟩ := hR1
        exact ⟨A, k, c, blk_far q1 (p := ⟨gm, o + i, none⟩) (Ne.symm H1.out) _, q2⟩
      have hs2 : (w1.setCell ⟨gm, o + i, none⟩ (.int .i64 (numP (intsP l bad i).2.1 (intsP l bad i).2.2 8 maxI).1)).heap[gm]? = some (.cells (putI cs o (intsP l bad (i + 1)).1) t (0, 0)) := by
        rw [intsP, putI_snoc, intsP_length]
        exact blk_set hs _ _
      have hK2 : Kept w (w1.setCell ⟨gm, o + i, none⟩ (.int .i64 (numP (intsP l bad i).2.1 (intsP l bad i).2.2 8 maxI).1)) (fun k => k = g ∨ k = gm) := (HK.out.then_ hK1 (fun k hk => .inl (.inl hk))).setCell (p := ⟨gm, o + i, none⟩) (.inl (.inr rfl)) _
      have HR2 := Aside0.mk hR2
      have HS2 := Aside0.mk hs2
      have HK2 := Aside0.mk hK2
      have HB2 := Aside0.mk (hB1.setCell (p := ⟨gm, o + i, none⟩) HGM.out (.int .i64 (numP (intsP l bad i).2.1 (intsP l bad i).2.2 8 maxI).1))
      obtain ⟨x, hx⟩ : ∃ x : Int, x = (numP (intsP l bad i).2.1 (intsP l bad i).2.2 8 maxI).1 := ⟨_, rfl⟩
      rw [← hx] at HR2 HS2 HK2 HB2 ⊢
      clear hR2 hs2 hK2 hR1 hK1 hB1 hs hx HR HCS HK HB
      go_wp2
      go_roundg (m - (i + 1))
      case measure => have := HGK.out; omega
      case rel =>
        have hm9 := HM.out
        have hi9 : (i : Int) + 1 ≤ 10 := by omega
        exact ⟨i + 1, by first | go_num | (show Value.int .i64 (wrap64 (i + 1)) = _; rw [show wrap64 ((i : Int) + 1) = ((i + 1 : Nat) : Int) by unfold wrap64; omega]), ⟨by omega⟩, ⟨Nat.le_refl _⟩, HR2, HS2, HK2, HB2⟩
    · have l1 : decide (i < m) = false := decide_eq_false hlt
      have him : i = m := by omega
      subst him
      have fin : IntsQ w0 w g gm o cs t (intsP l bad i) (.returned (.tuple #[])) wr := ⟨rfl, HR.out, HCS.out, HK.out, HB.out⟩
      have FIN := Aside0.mk fin
      clear fin
      go_wp2
      go_end0
      exact FIN.out
theorem Rd.kept {w0 W W2 : World} {g : Nat} {l : List Int} {bad : Bool} {S : Nat → Prop} (h : Rd w0 W g l bad) (hk : Kept W W2 S) (hn : ¬ S g) : Rd w0 W2 g l bad := by
  obtain ⟨A, k, c, q1, q2⟩ := h
  exact ⟨A, k, c, blk_kept q1 hk hn, q2⟩
theorem Rd.lt {w0 W : World} {g : Nat} {l : List Int} {bad : Bool} (h : Rd w0 W g l bad) : g < W.heap.size := by
  obtain ⟨A, k, c, q1, q2⟩ := h
  exact blk_lt q1
theorem info_int : (Try.prog.info? 3).map (fun i => (i.zero, i.size, i.bytes)) = some (some (.int .i64 0), 1, 8) := by kernel_rfl
def memP (l : List Int) (bad : Bool) : List Int × List Int × Bool := intsP (numP l bad 1 9).2.1 (numP l bad 1 9).2.2 (numP l bad 1 9).1
def MemQ (w0 w : World) (g : Nat) (r : List Int × List Int × Bool) (e : Ending) (w' : World) : Prop :=
  ∃ v, e = .returned v ∧ (Kd.int .i64).R 3 w' w0.heap.size (fun k => w.heap.size ≤ k) v r.1 ∧ Rd w0 w' g r.2.1 r.2.2 ∧ Kept w w' (fun k => k = g) ∧ Below w0.heap.size w0 w'
set_option maxHeartbeats 1000000 in
set_option maxRecDepth 100000 in
theorem rmem_calls (w0 w : World) (g : Nat) (l : List Int) (bad : Bool) (hB : Below w0.heap.size w0 w) (hg : w0.heap.size ≤ g) (h : Rd w0 w g l bad) (hby : ∀ x ∈ l, 0 ≤ x ∧ x ≤ 255) :
    Calls Try.prog 32 #[.pointer (some ⟨g, 0, none⟩)] w (MemQ w0 w g (memP l bad)) := by
  have HR := Aside0.mk h
  have HB := Aside0.mk hB
  have HG := Aside0.mk hg
  have HBY := Aside0.mk hby
  have HGW := Aside0.mk h.lt
  obtain ⟨q, hq⟩ : ∃ q, q = memP l bad := ⟨_, rfl⟩
  rw [← hq]
  have HQ0 := Aside0.mk hq
  clear h hB hg hby hq
  go_enter Try.func32, Try.ntmps32
  go_wp2_with fail
  refine (rnum_calls w0 w g _ _ 1 9 HB.out HG.out HR.out HBY.out (by decide) (by decide)).mono ?_
  rintro e w1 ⟨rfl, hR1, hK1, hB1⟩
  have hnle := numP_le l bad 1 9
  have hby1 := numP_left (bad := bad) (n := 1) (m := 9) HBY.out
  have hq := HQ0.out
  rw [memP] at hq
  obtain ⟨N, l1, b1, h1⟩ : ∃ N l1 b1, numP l bad 1 9 = (N, l1, b1) := ⟨_, _, _, rfl⟩
  rw [h1] at hR1 hnle hby1 hq ⊢
  clear HQ0
  have HR1 := Aside0.mk hR1
  have HB1 := Aside0.mk hB1
  have HK1 := Aside0.mk hK1
  have HBY1 := Aside0.mk hby1
  have HN := Aside0.mk hnle
  have HQ := Aside0.mk hq
  clear hR1 hB1 hK1 hby1 hnle h1 hq
  go_wp2_with fail
  go_loopg [2, 3] 9 (fun gk v2 v3 wr => ∃ (i k : Nat), v3 = .int .i64 k ∧ Aside0 (i + k = N) ∧ Aside0 (k ≤ gk) ∧ Aside0 ((Kd.int .i64).R 3 wr w0.heap.size (fun k => w.heap.size ≤ k) v2 (intsP l1 b1 i).1) ∧ Aside0 (Rd w0 wr g (intsP l1 b1 i).2.1 (intsP l1 b1 i).2.2) ∧ Aside0 (Kept w wr (fun k => k = g)) ∧ Aside0 (Below w0.heap.size w0 wr))
  case atStart => exact ⟨0, N, rfl, ⟨by omega⟩, HN, ⟨Kd.R_nil _ _ _ _ _⟩, HR1, HK1, HB1⟩
  case round =>
    clear HR1 HB1 HK1
    obtain ⟨i, k, rfl, HI, HGK, HO, HR, HK, HB⟩ := hrel
    have hi := HI.out
    have hn9 := HN.out
    by_cases hlt : 0 < k
    · have l2 : (0 : Int) < (k : Int) := by omega
      have l1' : decide ((0 : Int) < (k : Int)) = true := decide_eq_true (by omega)
      go_wp2_with fail
      refine (rnum_calls w0 wr g _ _ 8 maxI HB.out HG.out HR.out (intsP_left HBY1.out i) (by decide) (by decide)).mono ?_
      rintro e w2 ⟨rfl, hR2, hK2, hB2⟩
      have hO2 := Kd.R_kept HO.out hK2 (fun k hk => by have := HGW.out; simp; omega)
      obtain ⟨x, hx⟩ : ∃ x : Int, x = (numP (intsP l1 b1 i).2.1 (intsP l1 b1 i).2.2 8 maxI).1 := ⟨_, rfl⟩
      rw [← hx]
      have HX := Aside0.mk hx
      have HO2 := Aside0.mk hO2
      have HR2 := Aside0.mk hR2
      have HK2 := Aside0.mk (HK.out.then_ hK2 (fun _ h => .inl h))
      have HB2 := Aside0.mk hB2
      have HL : Aside0 ((intsP l1 b1 i).1.length ≤ 9) := ⟨by rw [intsP_length]; omega⟩
      have HSZ : Aside0 (w0.heap.size ≤ w2.heap.size) := ⟨hB2.size⟩
      have HSW : Aside0 (w.heap.size ≤ w2.heap.size) := ⟨HK2.out.1⟩
      clear hx hO2 hR2 hK2 hB2 HO HR HK HB
      go_wp2_with (at_builtin; refine Kd.R_append (Kd.int .i64) (w0 := w0) w0.heap.size rfl (.tmp 10) (.tmp 13) 23 3 (.int .i64 0) 8 rfl Try.underlying23 info_int rfl (by decide) (by decide) u2 (intsP l1 b1 i).1 x [.int .i64 x] (fun k => w.heap.size ≤ k) (fun _ => False) rfl rfl rfl (fun _ hk => hk.elim) (fun k hk => Nat.le_trans HSW.out hk) HO2.out HB2.out HSZ.out (by have := HL.out; omega) ?_)
      intro v3 w3 hO3 hB3 hg3 hat3
      have hK3 : Kept w w3 (fun k => k = g) := Kept.of_grown hg3 HK2.out (fun k hk => .inr (HO2.out.1 k hk))
      have hR3 : Rd w0 w3 g (intsP l1 b1 (i + 1)).2.1 (intsP l1 b1 (i + 1)).2.2 := by
        rw [intsP]
        exact HR2.out.kept (S := fun k => w.heap.size ≤ k) ⟨hg3.size, fun k hlt hn => hg3.block k hlt (fun he => hn (HO2.out.1 k he.symm))⟩ (by have := HGW.out; simp; omega)
      have hO4 : (Kd.int .i64).R 3 w3 w0.heap.size (fun k => w.heap.size ≤ k) v3 (intsP l1 b1 (i + 1)).1 := by rw [intsP, ← HX.out]; exact hO3
      have HK3 := Aside0.mk hK3
      have HR3 := Aside0.mk hR3
      have HO4 := Aside0.mk hO4
      have HB3 := Aside0.mk hB3
      clear hK3 hR3 hO4 hO3 hB3 hg3 hat3 HO2 HR2 HK2 HB2
      go_wp2
      go_roundg (k - 1)
      case measure => have := HGK.out; omega
      case rel => exact ⟨i + 1, k - 1, by first | go_num | (rw [show wrap64 ((k : Int) - 1) = ((k - 1 : Nat) : Int) by unfold wrap64; omega]), ⟨by omega⟩, ⟨Nat.le_refl _⟩, HO4, HR3, HK3, HB3⟩
    · have l1 : decide ((0 : Int) < (k : Int)) = false := decide_eq_false (by omega)
      obtain rfl : k = 0 := by omega
      obtain rfl : i = N := by omega
      have fin : MemQ w0 w g q (.returned _) wr := ⟨_, rfl, by rw [HQ.out]; exact HO.out, by rw [HQ.out]; exact HR.out, HK.out, HB.out⟩
      have FIN := Aside0.mk fin
      clear fin
      go_wp2
      go_ret
      exact FIN.out
end Go.Proofs.Ytbemfgpdfacdpaa.Ms
