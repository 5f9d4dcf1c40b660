/- 1 texts of the proof, put together, less what is not used; what a tool printed stands among them. -/
import Derived.Test.YtbemfgpdfacdpaaMFld7
namespace Go.Proofs.Ytbemfgpdfacdpaa.Ms
open Go.RowKit Go.Proofs.Ytbemfgpdfacdpaa.Pr Go.Proofs.YtbemfgpdfacdpaaW.PrintWords Go.Proofs.YtbemfgpdfacdpaaW.PrintLast Go.Proofs.YtbemfgpdfacdpaaW.PrintMore
set_option linter.unusedVariables false
set_option linter.unusedSimpArgs false
def textP (l : List Int) (bad : Bool) (most : Nat) : ByteArray × List Int × Bool :=
  (strOfNums (takeP (numP l bad 4 most).2.1 (numP l bad 4 most).2.2 (numP l bad 4 most).1).1, (takeP (numP l bad 4 most).2.1 (numP l bad 4 most).2.2 (numP l bad 4 most).1).2)
theorem textP_left {l : List Int} {bad : Bool} {m : Nat} {P : Int → Prop} (h : ∀ x ∈ l, P x) : ∀ x ∈ (textP l bad m).2.1, P x := takeP_left (numP_left h)
theorem memP_left {l : List Int} {bad : Bool} {P : Int → Prop} (h : ∀ x ∈ l, P x) : ∀ x ∈ (memP l bad).2.1, P x := intsP_left (numP_left h) _
def TextQ (w0 w : World) (g : Nat) (r : ByteArray × List Int × Bool) (e : Ending) (w' : World) : Prop :=
  e = .returned (.string r.1) ∧ Rd w0 w' g r.2.1 r.2.2 ∧ Kept w w' (fun k => k = g) ∧ Below w0.heap.size w0 w'
set_option maxHeartbeats 1000000 in
set_option maxRecDepth 100000 in
theorem rtext_calls (w0 w : World) (g : Nat) (l : List Int) (bad : Bool) (most : Nat) (hB : Below w0.heap.size w0 w) (hg : w0.heap.size ≤ g) (h : Rd w0 w g l bad) (hby : ∀ x ∈ l, 0 ≤ x ∧ x ≤ 255) (hm : most ≤ 9223372036854775807) :
    Calls Try.prog 33 #[.pointer (some ⟨g, 0, none⟩), .int .i64 most] w (TextQ w0 w g (textP l bad most)) := by
  have HR := Aside0.mk h
  have HB := Aside0.mk hB
  have HG := Aside0.mk hg
  have HBY := Aside0.mk hby
  have HM := Aside0.mk hm
  obtain ⟨q, hq⟩ : ∃ q, q = textP l bad most := ⟨_, rfl⟩
  rw [← hq]
  have HQ := Aside0.mk hq
  clear h hB hg hby hm hq
  go_enter Try.func33, Try.ntmps33
  go_wp2_with fail
  refine (rnum_calls w0 w g _ _ 4 most HB.out HG.out HR.out HBY.out (by decide) HM.out).mono ?_
  rintro e w1 ⟨rfl, hR1, hK1, hB1⟩
  have HR1 := Aside0.mk hR1
  have HB1 := Aside0.mk hB1
  have HK1 := Aside0.mk hK1
  clear hR1 hB1 hK1 HR HB
  go_wp2_with fail
  refine (take_calls w0 w1 g _ _ _ HB1.out HG.out HR1.out).mono ?_
  rintro e w2 ⟨A, c, rfl, hc, hC, hR2, hK2, hB2⟩
  have fin : TextQ w0 w g q (.returned (.string (strOfNums (takeP (numP l bad 4 most).2.1 (numP l bad 4 most).2.2 (numP l bad 4 most).1).1))) w2 := by
    rw [HQ.out]
    exact ⟨rfl, hR2, HK1.out.then_ hK2 (fun _ h => .inl h), hB2⟩
  have hC2 : (Kd.int .u8).C w2 A _ _ := Kd.C_below hC (by exact hB2)
  have FIN := Aside0.mk fin
  obtain ⟨t, ht⟩ : ∃ t, t = (takeP (numP l bad 4 most).2.1 (numP l bad 4 most).2.2 (numP l bad 4 most).1).1 := ⟨_, rfl⟩
  rw [← ht] at hC2 FIN ⊢
  obtain ⟨n, hn⟩ : ∃ n, n = t.length := ⟨_, rfl⟩
  rw [← hn] at hC2 ⊢
  have hcv := Kd.C_string (dst := 9) (c := c) Try.underlying30 Try.underlying5 Try.underlying9 hC2
  clear hC2 hC hc hR2 hK2 hB2 fin ht hn
  go_wp2
  go_ret
  exact FIN.out
def entryP (l : List Int) (bad : Bool) : S46 × List Int × Bool :=
  (⟨(intsP l bad 3).1.getD 0 0, (intsP l bad 3).1.getD 1 0, (intsP l bad 3).1.getD 2 0, (textP (intsP l bad 3).2.1 (intsP l bad 3).2.2 4000).1,
    (memP (textP (intsP l bad 3).2.1 (intsP l bad 3).2.2 4000).2.1 (textP (intsP l bad 3).2.1 (intsP l bad 3).2.2 4000).2.2).1⟩,
   (memP (textP (intsP l bad 3).2.1 (intsP l bad 3).2.2 4000).2.1 (textP (intsP l bad 3).2.1 (intsP l bad 3).2.2 4000).2.2).2)
def entL : Nat → List S46 → List Int → Bool → List S46 × List Int × Bool
  | 0, acc, l, b => (acc, l, b)
  | k + 1, acc, l, b => if b = true then (acc, l, b) else entL k (acc ++ [(entryP l b).1]) (entryP l b).2.1 (entryP l b).2.2
def entP (l : List Int) (bad : Bool) : List S46 × List Int × Bool := entL (numP l bad 1 8).1 [] (numP l bad 1 8).2.1 (numP l bad 1 8).2.2
theorem entryP_left {l : List Int} {bad : Bool} {P : Int → Prop} (h : ∀ x ∈ l, P x) : ∀ x ∈ (entryP l bad).2.1, P x := by
  simp only [entryP]
  exact memP_left (textP_left (intsP_left h 3))
theorem info_entry : (Try.prog.info? 46).map (fun i => (i.zero, i.size, i.bytes)) = some (some (.agg #[.int .i64 0, .int .i64 0, .int .i64 0, .string ⟨#[]⟩, .slice none 0 0]), 5, 64) := by kernel_rfl
theorem size_entry : (Try.prog.info? 46).map (·.size) = some 5 := by kernel_rfl
def EntQ (w0 w : World) (g : Nat) (r : List S46 × List Int × Bool) (e : Ending) (w' : World) : Prop :=
  ∃ v, e = .returned v ∧ k46.R 46 w' w0.heap.size (fun k => w.heap.size ≤ k) v r.1 ∧ Rd w0 w' g r.2.1 r.2.2 ∧ Kept w w' (fun k => k = g) ∧ Below w0.heap.size w0 w'
set_option maxHeartbeats 1000000 in
set_option maxRecDepth 100000 in
theorem rent_calls (w0 w : World) (g : Nat) (l : List Int) (bad : Bool) (hB : Below w0.heap.size w0 w) (hg : w0.heap.size ≤ g) (h : Rd w0 w g l bad) (hby : ∀ x ∈ l, 0 ≤ x ∧ x ≤ 255) :
    Calls Try.prog 31 #[.pointer (some ⟨g, 0, none⟩)] w (EntQ w0 w g (entP l bad)) := by
  have HR := Aside0.mk h
  have HB := Aside0.mk hB
  have HG := Aside0.mk hg
  have HBY := Aside0.mk hby
  have HGW := Aside0.mk h.lt
  obtain ⟨q, hq⟩ : ∃ q, q = entP l bad := ⟨_, rfl⟩
  rw [← hq]
  have HQ0 := Aside0.mk hq
  clear h hB hg hby hq
  go_enter Try.func31, Try.ntmps31
  go_wp2_with fail
  refine (rnum_calls w0 w g _ _ 1 8 HB.out HG.out HR.out HBY.out (by decide) (by decide)).mono ?_
  rintro e w1 ⟨rfl, hR1, hK1, hB1⟩
  have hnle := numP_le l bad 1 8
  have hby1 := numP_left (bad := bad) (n := 1) (m := 8) HBY.out
  have hq := HQ0.out
  rw [entP] at hq
  obtain ⟨N, l1, b1, h1⟩ : ∃ N l1 b1, numP l bad 1 8 = (N, l1, b1) := ⟨_, _, _, rfl⟩
  rw [h1] at hR1 hnle hby1 hq ⊢
  clear HQ0
  have HR1 := Aside0.mk hR1
  have HB1 := Aside0.mk hB1
  have HK1 := Aside0.mk hK1
  have HBY1 := Aside0.mk hby1
  have HN := Aside0.mk hnle
  have HQ := Aside0.mk hq
  clear hR1 hB1 hK1 hby1 hnle h1 hq HR HB
  go_wp2_with fail
  go_loopg [2, 3] 8 (fun gk v2 v3 wr => ∃ (k : Nat) (acc : List S46) (lr : List Int) (br : Bool), v3 = .int .i64 k ∧ Aside0 (k ≤ 8) ∧ Aside0 (k ≤ gk) ∧ Aside0 (acc.length + k ≤ 8) ∧ Aside0 (q = entL k acc lr br) ∧ Aside0 (∀ x ∈ lr, 0 ≤ x ∧ x ≤ 255) ∧ Aside0 (k46.R 46 wr w0.heap.size (fun k => w.heap.size ≤ k) v2 acc) ∧ Aside0 (Rd w0 wr g lr br) ∧ Aside0 (Kept w wr (fun k => k = g)) ∧ Aside0 (Below w0.heap.size w0 wr))
  case atStart => exact ⟨N, [], l1, b1, rfl, HN, HN, ⟨by have := HN.out; simpa using this⟩, HQ, HBY1, ⟨Kd.R_nil _ _ _ _ _⟩, HR1, HK1, HB1⟩
  case round =>
    clear HR1 HB1 HK1 HBY1 HQ HN
    obtain ⟨k, acc, lr, br, rfl, HN, HGK, HAL, HQ, HBY, HO, HR, HK, HB⟩ := hrel
    have hn8 := HN.out
    obtain ⟨A, n', c', hb', hrd⟩ := HR.out
    have m1 : wr.cell? ⟨g, 1, none⟩ = some (.bool br) := blk_cell hb' 1
    clear hb' hrd
    by_cases hlt : 0 < k ∧ br = false
    · obtain ⟨hk0, rfl⟩ := hlt
      have l1' : decide ((0 : Int) < (k : Int)) = true := decide_eq_true (by omega)
      go_wp2_with fail
      have hb0 : Below w0.heap.size w0 ((wr.alloc (.cells #[.int .i64 0, .int .i64 0, .int .i64 0, .string ⟨#[]⟩, .slice none 0 0] 46)).alloc (.cells (ptrs wr.heap.size 0 3) 68)) := (HB.out.alloc HB.out.size _).alloc (by have := HB.out.size; simp; omega) _
      have hk0 : Kept w ((wr.alloc (.cells #[.int .i64 0, .int .i64 0, .int .i64 0, .string ⟨#[]⟩, .slice none 0 0] 46)).alloc (.cells (ptrs wr.heap.size 0 3) 68)) (fun k => k = g) := (HK.out.alloc _).alloc _
      have hr0 : Rd w0 ((wr.alloc (.cells #[.int .i64 0, .int .i64 0, .int .i64 0, .string ⟨#[]⟩, .slice none 0 0] 46)).alloc (.cells (ptrs wr.heap.size 0 3) 68)) g lr false := HR.out.kept (S := fun _ => False) (((Kept.refl _ _).alloc _).alloc _) (fun h => h)
      have hgw : g < wr.heap.size := HR.out.lt
      have HO0 := Aside0.mk (Kd.R_alloc (Kd.R_alloc HO.out (.cells #[.int .i64 0, .int .i64 0, .int .i64 0, .string ⟨#[]⟩, .slice none 0 0] 46)) (.cells (ptrs wr.heap.size 0 3) 68))
      refine (rints_calls w0 _ g lr false (wr.heap.size + 1) wr.heap.size 0 3 #[.int .i64 0, .int .i64 0, .int .i64 0, .string ⟨#[]⟩, .slice none 0 0] 46 hb0 HG.out HB.out.size hr0 HBY.out (by decide) (blk_alloc (blk_new _ _) _) (by have := blk_new (wr.alloc (.cells #[.int .i64 0, .int .i64 0, .int .i64 0, .string ⟨#[]⟩, .slice none 0 0] 46)) (.cells (ptrs wr.heap.size 0 3) 68); simpa using this) (by omega) (by omega) (by omega) (fun i hi => ?_)).mono ?_
      · have : i = 0 ∨ i = 1 ∨ i = 2 := by omega
        rcases this with rfl | rfl | rfl <;> exact ⟨_, rfl⟩
      rintro e w2 ⟨rfl, hR2, hE2, hK2, hB2⟩
      have hKr2 : Kept wr w2 (fun k => k = g) := (((Kept.refl wr (fun k => k = g)).alloc _).alloc _).then_ hK2 (fun k hk => hk.elim .inl (fun h => .inr (by omega)))
      obtain ⟨ge, hge⟩ : ∃ ge, ge = wr.heap.size := ⟨_, rfl⟩
      rw [← hge] at hE2 ⊢
      have hby2 := intsP_left (bad := false) HBY.out 3
      obtain ⟨r3, hr3⟩ : ∃ r3, r3 = intsP lr false 3 := ⟨_, rfl⟩
      have hl3 : r3.1.length = 3 := by rw [hr3]; exact intsP_length _ _ _
      have hent : entryP lr false = (⟨r3.1.getD 0 0, r3.1.getD 1 0, r3.1.getD 2 0, (textP r3.2.1 r3.2.2 4000).1, (memP (textP r3.2.1 r3.2.2 4000).2.1 (textP r3.2.1 r3.2.2 4000).2.2).1⟩, (memP (textP r3.2.1 r3.2.2 4000).2.1 (textP r3.2.1 r3.2.2 4000).2.2).2) := by rw [hr3]; rfl
      rw [← hr3] at hR2 hE2 hby2
      obtain ⟨vs, l2, b2⟩ := r3
      obtain ⟨x0, x1, x2, rfl⟩ : ∃ x0 x1 x2, vs = [x0, x1, x2] := by
        match vs, hl3 with
        | [x0, x1, x2], _ => exact ⟨_, _, _, rfl⟩
      have hE2' : w2.heap[ge]? = some (.cells #[.int .i64 x0, .int .i64 x1, .int .i64 x2, .string ⟨#[]⟩, .slice none 0 0] 46 (0, 0)) := hE2
      have HGE : Aside0 (wr.heap.size ≤ ge) := ⟨by omega⟩
      have HGE0 : Aside0 (w0.heap.size ≤ ge) := ⟨by have := HB.out.size; omega⟩
      have HGEg : Aside0 (g ≠ ge) := ⟨by omega⟩
      have HB2 := Aside0.mk hB2
      have HR2 := Aside0.mk hR2
      have HE2 := Aside0.mk hE2'
      have HKr2 := Aside0.mk hKr2
      have HBY2 := Aside0.mk hby2
      have HENT := Aside0.mk hent
      clear hB2 hR2 hE2 hE2' hK2 hKr2 hge hr3 hl3 hby2 hent hb0 hk0 hr0 hgw HR HB
      go_wp2_with fail
      refine (rtext_calls w0 w2 g l2 b2 4000 HB2.out HG.out HR2.out HBY2.out (by decide)).mono ?_
      rintro e w3 ⟨rfl, hR3, hK3, hB3⟩
      have hby3 := textP_left (bad := b2) (m := 4000) HBY2.out
      have hent := HENT.out
      obtain ⟨s, l3, b3, h3⟩ : ∃ a_ b_ c_, textP l2 b2 4000 = (a_, b_, c_) := ⟨_, _, _, rfl⟩
      simp only [h3] at hR3 hent hby3 ⊢
      clear HENT
      have hE3 := blk_kept HE2.out hK3 (Ne.symm HGEg.out)
      have f3 := blk_frozen hE3 3
      have m3 : w3.cell? ⟨ge, 3, none⟩ = some (.string ⟨#[]⟩) := blk_cell hE3 3
      have HE3 := Aside0.mk (blk_set hE3 3 (.string s))
      have HR3 : Aside0 (Rd w0 (w3.setCell ⟨ge, 3, none⟩ (.string s)) g l3 b3) := ⟨hR3.kept (S := fun k => k = ge) (Kept.setCell (S := fun k => k = ge) (p := ⟨ge, 3, none⟩) (Kept.refl _ _) (.inl rfl) _) HGEg.out⟩
      have HKr3 : Aside0 (Kept wr (w3.setCell ⟨ge, 3, none⟩ (.string s)) (fun k => k = g)) := ⟨(HKr2.out.then_ hK3 (fun k hk => .inl hk)).setCell (p := ⟨ge, 3, none⟩) (.inr HGE.out) _⟩
      have HB3 : Aside0 (Below w0.heap.size w0 (w3.setCell ⟨ge, 3, none⟩ (.string s))) := ⟨hB3.setCell (p := ⟨ge, 3, none⟩) HGE0.out _⟩
      have HBY3 := Aside0.mk hby3
      have HENT := Aside0.mk hent
      clear hent hby3 hB3 hR3 hK3 hE3 h3 HR2 HB2 HKr2 HE2 HBY2
      go_wp2_with fail
      obtain ⟨w4, hw4⟩ : ∃ w4, w4 = w3.setCell ⟨ge, 3, none⟩ (.string s) := ⟨_, rfl⟩
      rw [← hw4] at HE3 HR3 HKr3 HB3 ⊢
      clear hw4
      refine (rmem_calls w0 w4 g l3 b3 HB3.out HG.out HR3.out HBY3.out).mono ?_
      rintro e w5 ⟨v4, rfl, hV5, hR5, hK5, hB5⟩
      have hby5 := memP_left (bad := b3) HBY3.out
      have hent := HENT.out
      obtain ⟨ms, l5, b5, h5⟩ : ∃ a_ b_ c_, memP l3 b3 = (a_, b_, c_) := ⟨_, _, _, rfl⟩
      simp only [h5] at hR5 hent hby5 hV5
      obtain ⟨Av, cv, hv4⟩ := Kd.R_slice hV5
      obtain ⟨nv, hnv⟩ : ∃ nv, nv = ms.length := ⟨_, rfl⟩
      rw [← hnv] at hv4
      subst hv4
      clear hnv
      have hE5 := blk_kept HE3.out hK5 (Ne.symm HGEg.out)
      have f5 := blk_frozen hE5 4
      have m5 : w5.cell? ⟨ge, 4, none⟩ = some (.slice none 0 0) := blk_cell hE5 4
      obtain ⟨E, hE⟩ : ∃ E : S46, E = ⟨x0, x1, x2, s, ms⟩ := ⟨_, rfl⟩
      have HEE := Aside0.mk hE
      have hge4 : ge < w4.heap.size := blk_lt HE3.out
      have hM6 : k46.M (w5.setCell ⟨ge, 4, none⟩ (.slice Av nv cv)) w0.heap.size (fun k => w4.heap.size ≤ k) E [.int .i64 x0, .int .i64 x1, .int .i64 x2, .string s, .slice Av nv cv] := by
        rw [hE]
        exact k46_mkM _ _ _ _ (Kd.R_far hV5 (p := ⟨ge, 4, none⟩) (fun k hk => by show k ≠ ge; omega) _)
      have HM6 := Aside0.mk hM6
      have HE6 := Aside0.mk (blk_set hE5 4 (.slice Av nv cv))
      have HR6 : Aside0 (Rd w0 (w5.setCell ⟨ge, 4, none⟩ (.slice Av nv cv)) g l5 b5) := ⟨hR5.kept (S := fun k => k = ge) (Kept.setCell (S := fun k => k = ge) (p := ⟨ge, 4, none⟩) (Kept.refl _ _) (.inl rfl) _) HGEg.out⟩
      have hKr6 : Kept wr (w5.setCell ⟨ge, 4, none⟩ (.slice Av nv cv)) (fun k => k = g) := (HKr3.out.then_ hK5 (fun k hk => .inl hk)).setCell (p := ⟨ge, 4, none⟩) (.inr HGE.out) _
      have HB6 : Aside0 (Below w0.heap.size w0 (w5.setCell ⟨ge, 4, none⟩ (.slice Av nv cv))) := ⟨hB5.setCell (p := ⟨ge, 4, none⟩) HGE0.out _⟩
      have HO6 := Aside0.mk (Kd.R_kept HO.out hKr6 (fun k hk => by have := HGW.out; show k ≠ g; omega))
      have HK6 := Aside0.mk (HK.out.then_ hKr6 (fun k hk => .inl hk))
      have HBY6 := Aside0.mk hby5
      have HENT := Aside0.mk hent
      have hW4 : wr.heap.size ≤ w4.heap.size := HKr3.out.1
      have HOK6 : Aside0 (∀ k, w4.heap.size ≤ k → w.heap.size ≤ k ∧ some k ≠ (u2 : Value).ownBlock) := ⟨fun k hk => ⟨Nat.le_trans HK.out.1 (Nat.le_trans hW4 hk), fun he => by have := Kd.R_lt HO.out _ he.symm; omega⟩⟩
      have HSW6 : Aside0 (w.heap.size ≤ (w5.setCell ⟨ge, 4, none⟩ (.slice Av nv cv)).heap.size) := ⟨HK6.out.1⟩
      clear hent hby5 hV5 hR5 hB5 hE5 hE hM6 hKr6 hW4 hK5 h5 hge4 HO0
      go_upto_region 8 with (fail)
      obtain ⟨w6, hw6⟩ : ∃ w6, w6 = w5.setCell ⟨ge, 4, none⟩ (.slice Av nv cv) := ⟨_, rfl⟩
      rw [← hw6] at HM6 HE6 HR6 HB6 HO6 HK6 HSW6 ⊢
      clear hw6 f5 m5
      have hn8' := HAL.out
      go_wp2_with (first
        | refine wpList_load_row rfl 46 _ rfl ge rfl 46 #[.int .i64 x0, .int .i64 x1, .int .i64 x2, .string s, .slice Av nv cv] (0, 0) _ HE6.out Try.underlying46 rfl size_entry ?_
        | (at_builtin; refine Kd.R_append k46 (w0 := w0) w0.heap.size rfl (.tmp 30) (.tmp 32) 22 46 (.agg #[.int .i64 0, .int .i64 0, .int .i64 0, .string ⟨#[]⟩, .slice none 0 0]) 64 rfl Try.underlying22 info_entry rfl (by decide) (by decide) u2 acc E [.int .i64 x0, .int .i64 x1, .int .i64 x2, .string s, .slice Av nv cv] (fun k => w.heap.size ≤ k) (fun k => w4.heap.size ≤ k) rfl rfl HM6.out HOK6.out (fun k hk => Nat.le_trans HSW6.out hk) HO6.out HB6.out HB6.out.size (by omega) ?_))
      intro v7 w7 hO7 hB7 hg7 hat7
      have hK7 : Kept w w7 (fun k => k = g) := Kept.of_grown hg7 HK6.out (fun k hk => .inr (HO6.out.1 k hk))
      have hR7 : Rd w0 w7 g l5 b5 := HR6.out.kept (S := fun k => w.heap.size ≤ k) ⟨hg7.size, fun k hlt hn => hg7.block k hlt (fun he => hn (HO6.out.1 k he.symm))⟩ (by have := HGW.out; simp; omega)
      have HQ7 : Aside0 (q = entL (k - 1) (acc ++ [E]) l5 b5) := ⟨by
        rw [HQ.out]
        obtain ⟨k, rfl⟩ : ∃ k', k = k' + 1 := ⟨k - 1, by omega⟩
        rw [entL, if_neg (by decide), HENT.out, HEE.out]
        rfl⟩
      have HK7 := Aside0.mk hK7
      have HR7 := Aside0.mk hR7
      have HO7 := Aside0.mk hO7
      have HB7 := Aside0.mk hB7
      clear hK7 hR7 hO7 hB7 hg7 hat7 HO6 HR6 HK6 HB6 HM6 HE6 HO HK
      go_wp2
      go_roundg (k - 1)
      case measure => have := HGK.out; omega
      case rel => exact ⟨k - 1, acc ++ [E], l5, b5, by first | go_num | (rw [show wrap64 ((k : Int) - 1) = ((k - 1 : Nat) : Int) by unfold wrap64; omega]), ⟨by omega⟩, ⟨Nat.le_refl _⟩, ⟨by rw [List.length_append, List.length_singleton]; omega⟩, HQ7, HBY6, HO7, HR7, HK7, HB7⟩
    · have fin : EntQ w0 w g q (.returned u2) wr := by
        have hq2 : q = (acc, lr, br) := by
          rw [HQ.out]
          cases k with
          | zero => rfl
          | succ k => rw [entL, if_pos (by cases br <;> simp_all)]
        rw [hq2]
        exact ⟨_, rfl, HO.out, HR.out, HK.out, HB.out⟩
      have FIN := Aside0.mk fin
      by_cases hk : k = 0
      · subst hk
        clear fin hlt
        go_wp2
        go_ret
        exact FIN.out
      · obtain rfl : br = true := by cases br <;> simp_all <;> omega
        have l1' : decide ((0 : Int) < (k : Int)) = true := decide_eq_true (by omega)
        clear fin hlt
        go_wp2
        go_ret
        exact FIN.out
end Go.Proofs.Ytbemfgpdfacdpaa.Ms
