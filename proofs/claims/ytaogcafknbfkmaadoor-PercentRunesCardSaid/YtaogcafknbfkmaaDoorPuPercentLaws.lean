/- The pure statements of the percent laws about sets, codes, pieces, going back and sameness. -/
import Derived.Test.YtaogcafknbfkmaaDoorPuPercent
namespace Go.Proofs.YtaogcafknbfkmaaDoor.Pu
open Go.RowKit Go.Proofs.YtaogcafknbfkmaaDoor.Pr Go.Proofs.YtaogcafknbfkmaaDoorW.PrintWords
set_option linter.unusedVariables false
set_option linter.unusedSimpArgs false

theorem awake_end : Ev (fun k => (parapetlaw9_awake.f k).bind fun t => some t) true := Ev.bind awake_ev (Ev.now _)

theorem PercentSets : parapetlaw9_PercentSets.Pure := by
  intro c s hc hs
  have hr := u8_range hc
  obtain ⟨h1, h2⟩ := in_both c s hr.1 hr.2
  apply Ev.rounds
  show Ev (fun k => parapetlaw9_PercentSets.f k c s) true
  unfold parapetlaw9_PercentSets.f
  rw [h1]
  simp only [Option.bind_some]
  refine Ev.bind h2 ?_
  simp only [beq_self_eq_true, if_true]
  exact awake_end

theorem PercentCodes : parapetlaw9_PercentCodes.Pure := by
  intro a s ha hs
  apply Ev.rounds
  show Ev (fun k => parapetlaw9_PercentCodes.f k a s) true
  unfold parapetlaw9_PercentCodes.f
  by_cases h : (a.size : Int) > 3000
  · simp only [h, if_true]; exact awake_end
  · simp only [h, if_false]
    refine Ev.bind (enc_ev a s (by omega)) (Ev.bind (renc_ev a s (by omega)) ?_)
    simp only [if_true]
    refine Ev.bind (dec_ev a (by omega)).1 (Ev.bind (dec_ev a (by omega)).2 ?_)
    simp only [if_true]
    exact awake_end

theorem PercentSame : parapetlaw9_PercentSame.Pure := by
  intro a b ha hb
  apply Ev.rounds
  show Ev (fun k => parapetlaw9_PercentSame.f k a b) true
  unfold parapetlaw9_PercentSame.f
  have hw : wrap64 ((a.size : Int) + (b.size : Int)) = (a.size : Int) + b.size := w64 (by omega) (by omega)
  rw [hw]
  by_cases h : (a.size : Int) + (b.size : Int) > 3000
  · simp only [h, if_true]; exact awake_end
  · simp only [h, if_false]
    have da := (dec_ev a (by omega)).1
    have db := (dec_ev b (by omega)).1
    refine Ev.bind (a := (strOfNums (decL (bytesOf a))).toList == (strOfNums (decL (bytesOf b))).toList) ?_ (Ev.bind da (Ev.bind db ?_))
    · unfold percent_Same.f
      exact Ev.bind da (Ev.bind db (Ev.now _))
    · simp only [beq_self_eq_true, if_true]
      refine Ev.bind (a := true) ?_ ?_
      · unfold percent_Same.f
        refine Ev.bind da (Ev.bind da ?_)
        simp only [beq_self_eq_true]
        exact Ev.now _
      · simp only [if_true]; exact awake_end

/-! ### Encoded and decoded again -/
theorem in_facts : ∀ c : Fin 256, ∀ s : Fin 4, (inS (c.val : Int) ((s.val : Int) + 1) = true → hv (c.val : Int) < 0 ∧ (c.val : Int) ≠ 37) ∧ (hv (hexd ((c.val : Int) / 16)) = (c.val : Int) / 16) ∧ hv (hexd ((c.val : Int) % 16)) = (c.val : Int) % 16 ∧ inS (hexd ((c.val : Int) / 16)) ((s.val : Int) + 1) = false ∧ inS (hexd ((c.val : Int) % 16)) ((s.val : Int) + 1) = false ∧ inS 37 ((s.val : Int) + 1) = false ∧ 0 ≤ hexd ((c.val : Int) / 16) ∧ hexd ((c.val : Int) / 16) ≤ 255 ∧ 0 ≤ hexd ((c.val : Int) % 16) ∧ hexd ((c.val : Int) % 16) ≤ 255 ∧ hv 37 < 0 := by decide +kernel
theorem inS_none {c s : Int} (h0 : 0 ≤ c) (h1 : c ≤ 255) (hs : ¬ (1 ≤ s ∧ s ≤ 4)) : inS c s = false := by
  have n1 : ¬ s = 1 := by omega
  have n2 : ¬ s = 2 := by omega
  have n3 : ¬ s = 3 := by omega
  have n4 : ¬ s = 4 := by omega
  unfold inS percent_In.f percent_extra.f
  rw [if_neg n1, if_neg n2, if_neg n3, if_neg n4]
  rfl
structure Facts (c s : Int) : Prop where
  hexno : inS c s = true → hv c < 0
  no37 : inS c s = true → c ≠ 37
  hi : inS c s = true → hv (hexd (c / 16)) = c / 16 ∧ hv (hexd (c % 16)) = c % 16 ∧ inS (hexd (c / 16)) s = false ∧ inS (hexd (c % 16)) s = false ∧ inS 37 s = false
  r : 0 ≤ hexd (c / 16) ∧ hexd (c / 16) ≤ 255 ∧ 0 ≤ hexd (c % 16) ∧ hexd (c % 16) ≤ 255
  h37 : hv 37 < 0
theorem facts {c s : Int} (h0 : 0 ≤ c) (h1 : c ≤ 255) : Facts c s := by
  by_cases hs : 1 ≤ s ∧ s ≤ 4
  · obtain ⟨q, rfl⟩ := fin_of h0 h1
    obtain ⟨s', rfl⟩ : ∃ s' : Fin 4, ((s'.val : Int) + 1) = s := ⟨⟨(s - 1).toNat, by omega⟩, by simp; omega⟩
    obtain ⟨a1, a2, a3, a4, a5, a6, a7, a8, a9, a10, a11⟩ := in_facts q s'
    exact ⟨fun h => (a1 h).1, fun h => (a1 h).2, fun _ => ⟨a2, a3, a4, a5, a6⟩, ⟨a7, a8, a9, a10⟩, a11⟩
  · have e := inS_none h0 h1 hs
    obtain ⟨q, rfl⟩ := fin_of h0 h1
    obtain ⟨a1, a2, a3, a4, a5, a6, a7, a8, a9, a10, a11⟩ := in_facts q ⟨0, by omega⟩
    exact ⟨(fun h => by rw [e] at h; cases h), (fun h => by rw [e] at h; cases h), (fun h => by rw [e] at h; cases h), ⟨a7, a8, a9, a10⟩, a11⟩

theorem encB_yes {c s : Int} (h0 : 0 ≤ c) (h1 : c ≤ 255) (h : inS c s = true) : encB s c = [37, hexd (c / 16), hexd (c % 16)] := by
  unfold encB; rw [if_pos h, (and15 h0 h1).2.2]
theorem encB_no {c s : Int} (h : inS c s = false) : encB s c = [c] := by
  unfold encB; rw [if_neg (by rw [h]; simp)]
theorem encL_cons (s c : Int) (r : List Int) : encL s (c :: r) = encB s c ++ encL s r := rfl
def Byt (l : List Int) : Prop := ∀ x ∈ l, 0 ≤ x ∧ x ≤ 255
theorem Byt.cons {c : Int} {r : List Int} (h : Byt (c :: r)) : (0 ≤ c ∧ c ≤ 255) ∧ Byt r := ⟨h c (by simp), fun x hx => h x (by simp [hx])⟩
theorem encL_byt {s : Int} : ∀ {l : List Int}, Byt l → Byt (encL s l)
  | [], _ => by simp [encL, Byt]
  | c :: r, h => by
    obtain ⟨h1, h2⟩ := h.cons
    have f := facts (s := s) h1.1 h1.2
    intro x hx
    rw [encL_cons, List.mem_append] at hx
    rcases hx with hx | hx
    · cases hb : inS c s with
      | true =>
        rw [encB_yes h1.1 h1.2 hb] at hx
        simp at hx
        obtain ⟨r1, r2, r3, r4⟩ := f.r
        rcases hx with rfl | rfl | rfl
        · omega
        · exact ⟨r1, r2⟩
        · exact ⟨r3, r4⟩
      | false => rw [encB_no hb] at hx; simp at hx; subst hx; exact h1
    · exact encL_byt h2 x hx
/-- The head of what is encoded has no value as a digit, if the byte has none. -/
theorem enc_head {s c : Int} (r : List Int) (h : 0 ≤ c ∧ c ≤ 255) (hc : hv c < 0) : ∃ x t, encL s (c :: r) = x :: t ∧ hv x < 0 := by
  rw [encL_cons]
  cases hb : inS c s with
  | true => rw [encB_yes h.1 h.2 hb]; exact ⟨_, _, rfl, (facts (s := s) h.1 h.2).h37⟩
  | false => rw [encB_no hb]; exact ⟨_, _, rfl, hc⟩
theorem two_false_left {a : Int} {l : List Int} (h : hv a < 0) : two (a :: l) = false := by
  cases l with
  | nil => rfl
  | cons b r => rw [two_cons, decide_eq_false (by omega)]; rfl
theorem two_false_right {a b : Int} {l : List Int} (h : hv b < 0) : two (a :: b :: l) = false := by
  rw [two_cons, decide_eq_false (p := 0 ≤ hv b) (by omega)]; simp
theorem back_all (s : Int) : ∀ (n : Nat) (l : List Int), l.length ≤ n → Byt l → decL (encL s l) = decL l := by
  intro n
  induction n with
  | zero => intro l h _; have : l = [] := List.length_eq_zero_iff.1 (by omega); subst this; rfl
  | succ n ih =>
    intro l h hB
    cases l with
    | nil => rfl
    | cons c r =>
      obtain ⟨hc, hr⟩ := hB.cons
      have f := facts (s := s) hc.1 hc.2
      have I := ih r (by simp at h; omega) hr
      rw [encL_cons]
      cases hb : inS c s with
      | true =>
        obtain ⟨v1, v2, _, _, _⟩ := f.hi hb
        rw [encB_yes hc.1 hc.2 hb, decL_skip c r (fun e => f.no37 hb e.1)]
        show decL (37 :: hexd (c / 16) :: hexd (c % 16) :: encL s r) = _
        rw [decL_two _ _ _ (by rw [two_cons, v1, v2, decide_eq_true (by omega), decide_eq_true (by omega)]; rfl), v1, v2, I]
        congr 1
        omega
      | false =>
        rw [encB_no hb]
        show decL (c :: encL s r) = _
        by_cases h37 : c = 37
        · subst h37
          match r, hr, h, I with
          | [], _, _, _ => rfl
          | [a], hr, _, I =>
            have ha := (hr.cons).1
            have I' : decL (encL s [a]) = [a] := I
            rw [decL_skip _ _ ?_, I']; · rfl
            rintro ⟨_, e⟩
            rw [encL_cons] at e
            cases hb2 : inS a s with
            | true => rw [encB_yes ha.1 ha.2 hb2] at e; rw [show ([37, hexd (a / 16), hexd (a % 16)] ++ encL s [] : List Int) = 37 :: [hexd (a / 16), hexd (a % 16)] from rfl, two_false_left f.h37] at e; cases e
            | false => rw [encB_no hb2] at e; exact absurd e (by simp [encL, two])
          | a :: b :: r', hr, h, I =>
            obtain ⟨ha, hr2⟩ := hr.cons
            obtain ⟨hb', hr3⟩ := hr2.cons
            have fa := facts (s := s) ha.1 ha.2
            have fb := facts (s := s) hb'.1 hb'.2
            by_cases va : hv a < 0
            · obtain ⟨x, t, e, hx⟩ := enc_head (s := s) (b :: r') ha va
              rw [decL_skip 37 (a :: b :: r') (by rintro ⟨_, e2⟩; rw [two_false_left va] at e2; cases e2), decL_skip 37 _ (by rintro ⟨_, e2⟩; rw [e, two_false_left hx] at e2; cases e2), I]
            · have na : inS a s = false := by
                cases hq : inS a s with
                | false => rfl
                | true => exact absurd (fa.hexno hq) va
              by_cases vb : hv b < 0
              · obtain ⟨x, t, e, hx⟩ := enc_head (s := s) r' hb' vb
                rw [decL_skip 37 (a :: b :: r') (by rintro ⟨_, e2⟩; rw [two_false_right vb] at e2; cases e2), decL_skip 37 _ (by
                  rintro ⟨_, e2⟩; rw [encL_cons, encB_no na, e, show ([a] ++ x :: t : List Int) = a :: x :: t from rfl, two_false_right hx] at e2; cases e2), I]
              · have nb : inS b s = false := by
                  cases hq : inS b s with
                  | false => rfl
                  | true => exact absurd (fb.hexno hq) vb
                have I2 := ih r' (by simp at h; omega) hr3
                have ht : two (a :: b :: r') = true := by rw [two_cons, decide_eq_true (by omega), decide_eq_true (by omega)]; rfl
                have ht2 : two (a :: b :: encL s r') = true := by rw [two_cons, decide_eq_true (by omega), decide_eq_true (by omega)]; rfl
                rw [encL_cons, encL_cons, encB_no na, encB_no nb]
                show decL (37 :: a :: b :: encL s r') = _
                rw [decL_two _ _ _ ht, decL_two _ _ _ ht2, I2]
        · rw [decL_skip c r (fun e => h37 e.1), decL_skip c _ (fun e => h37 e.1), I]

theorem enc_again (s : Int) : ∀ {l : List Int}, Byt l → encL s (encL s l) = encL s l
  | [], _ => rfl
  | c :: r, h => by
    obtain ⟨hc, hr⟩ := h.cons
    have f := facts (s := s) hc.1 hc.2
    have I := enc_again s hr
    rw [encL_cons]
    cases hb : inS c s with
    | true =>
      obtain ⟨_, _, n1, n2, n3⟩ := f.hi hb
      rw [encB_yes hc.1 hc.2 hb]
      show encL s (37 :: hexd (c / 16) :: hexd (c % 16) :: encL s r) = _
      rw [encL_cons, encL_cons, encL_cons, encB_no n3, encB_no n1, encB_no n2, I]; rfl
    | false =>
      rw [encB_no hb]
      show encL s (c :: encL s r) = _
      rw [encL_cons, encB_no hb, I]

theorem PercentBack : parapetlaw9_PercentBack.Pure := by
  intro a s ha hs
  apply Ev.rounds
  show Ev (fun k => parapetlaw9_PercentBack.f k a s) true
  unfold parapetlaw9_PercentBack.f
  by_cases h : (a.size : Int) > 3000
  · simp only [h, if_true]; exact awake_end
  · simp only [h, if_false]
    have hB : Byt (bytesOf a) := bytesOf_range a
    have hE := encL_byt (s := s) hB
    have hb := bytesOf_str _ hE
    have hl := encL_len s (bytesOf a)
    rw [bytesOf_length] at hl
    have hz : (strOfNums (encL s (bytesOf a))).size ≤ 1000000 := by rw [strOfNums_size]; omega
    have d1 := (dec_ev (strOfNums (encL s (bytesOf a))) hz).1
    rw [hb, back_all s _ (bytesOf a) (Nat.le_refl _) hB] at d1
    have d2 := (dec_ev a (by omega)).1
    have e2 := enc_ev (strOfNums (encL s (bytesOf a))) s hz
    rw [hb, enc_again s hB] at e2
    refine Ev.bind (enc_ev a s (by omega)) (Ev.bind d1 (Ev.bind d2 ?_))
    simp only [if_true]
    refine Ev.bind e2 ?_
    simp only [if_true]
    refine Ev.bind (a := true) ?_ ?_
    · unfold percent_Same.f
      refine Ev.bind d1 (Ev.bind d2 ?_)
      simp only [beq_self_eq_true]
      exact Ev.now _
    · simp only [if_true]; exact awake_end

/-! ### Piece by piece -/
def cnt (s : Int) (l : List Int) : Nat := (l.filter fun c => inS c s).length
theorem cnt_cons (s c : Int) (l : List Int) : cnt s (c :: l) = (if inS c s = true then 1 else 0) + cnt s l := by
  unfold cnt; rw [List.filter_cons]; split <;> simp; omega
theorem cnt_le (s : Int) (l : List Int) : cnt s l ≤ l.length := List.length_filter_le _ _
theorem encL_cnt (s : Int) (l : List Int) : (encL s l).length = l.length + 2 * cnt s l := by
  induction l with
  | nil => rfl
  | cons c l ih =>
    rw [encL_cons, List.length_append, ih, cnt_cons, List.length_cons]
    unfold encB
    split <;> simp <;> omega
theorem encL_append (s : Int) (a b : List Int) : encL s (a ++ b) = encL s a ++ encL s b := by simp [encL]
theorem bytesOf_extract (x : ByteArray) (i j : Nat) : bytesOf (x.extract i j) = ((bytesOf x).take j).drop i := by
  unfold bytesOf
  rw [← List.map_take, ← List.map_drop]
  congr 1
  rw [ByteArray.data_extract, Array.toList_extract, List.extract_eq_take_drop, List.drop_take]
theorem str_append (a b : List Int) : strOfNums a ++ strOfNums b = strOfNums (a ++ b) := by
  have : (strOfNums a ++ strOfNums b).data = (strOfNums (a ++ b)).data := by
    rw [ByteArray.data_append]
    simp [strOfNums]
  cases h : strOfNums a ++ strOfNums b with | mk x => cases h2 : strOfNums (a ++ b) with | mk y => rw [h, h2] at this; exact congrArg ByteArray.mk this
theorem round_f {k n : Int} (hn : 0 < n) (hn2 : n ≤ 1000000) (hk : -9223372036854775808 ≤ k) (hk2 : k ≤ 9223372036854775807) : ∃ r, parapetalike_Round.f k n = some r ∧ 0 ≤ r ∧ r < n := by
  unfold parapetalike_Round.f
  rw [if_neg (by omega)]
  have h1 := Int.tmod_lt_of_pos k hn
  have h2 : -n < Int.tmod k n := by
    have := Int.lt_tmod_of_pos k hn
    omega
  by_cases h : Int.tmod k n < 0
  · rw [if_pos h, w64 (by omega) (by omega)]; exact ⟨_, rfl, by omega, by omega⟩
  · rw [if_neg h]; exact ⟨_, rfl, by omega, by omega⟩
theorem bytes_loop (x0 : ByteArray) (s k2 : Int) (E : ByteArray) (hx : x0.size ≤ 3000) (hE : E = strOfNums (encL s (bytesOf x0))) (d : Nat) : ∀ (i c : Nat), i + d = x0.size → c + cnt s ((bytesOf x0).drop i) = cnt s (bytesOf x0) →
    Ev (fun k => parapetlaw9_PercentBytes.l0 k x0 s E (2 * (c : Int)) (i : Int)) true := by
  have hc0 := cnt_le s (bytesOf x0)
  rw [bytesOf_length] at hc0
  induction d with
  | zero =>
    intro i c hi hc
    have e : (bytesOf x0).drop i = [] := List.drop_eq_nil_of_le (by rw [bytesOf_length]; omega)
    rw [e] at hc
    have hc2 : c = cnt s (bytesOf x0) := by simpa [cnt] using hc
    refine Ev.step (fun k => ?_) (Ev.bind (enc_ev x0 s (by omega)) (f := fun k t209 => if t209.toList = E.toList then (if (E.size : Int) = (wrap64 ((x0.size : Int) + 2 * (c : Int))) then ((parapetlaw9_awake.f k).bind fun t210 => (some t210)) else (some false)) else (some false)) ?_)
    · simp only [parapetlaw9_PercentBytes.l0]
      rw [if_neg (by omega)]
    · have hsz : (E.size : Int) = wrap64 ((x0.size : Int) + 2 * (c : Int)) := by
        rw [hE, strOfNums_size, encL_cnt, bytesOf_length, w64 (by omega) (by omega), hc2]; omega
      simp only [hE, if_true]
      rw [← hE]
      simp only [← hsz, if_true]
      exact awake_end
  | succ d ih =>
    intro i c hi hc
    have hr := bt_range x0 (i : Int)
    have hin := (in_both (bt x0 (i : Int)) s hr.1 hr.2).1
    have hw : wrap64 ((i : Int) + 1) = ((i + 1 : Nat) : Int) := by rw [w64 (by omega) (by omega)]; omega
    rw [bt_drop x0 i (by omega), cnt_cons] at hc
    cases hb : inS (bt x0 (i : Int)) s with
    | true =>
      rw [hb, if_pos rfl] at hc
      refine Ev.step (fun k => ?_) (ih (i + 1) (c + 1) (by omega) (by omega))
      simp only [parapetlaw9_PercentBytes.l0]
      rw [if_pos (by omega), if_pos (by omega), hin, hb]
      simp only [Option.bind_some, if_true]
      rw [hw, w64 (by omega) (by omega), show (2 * (c : Int) + 2) = 2 * ((c + 1 : Nat) : Int) by omega]
    | false =>
      rw [hb, if_neg (by simp)] at hc
      refine Ev.step (fun k => ?_) (ih (i + 1) c (by omega) (by omega))
      simp only [parapetlaw9_PercentBytes.l0]
      rw [if_pos (by omega), if_pos (by omega), hin, hb]
      simp only [Option.bind_some, Bool.false_eq_true, if_false]
      rw [hw]

theorem PercentBytes : parapetlaw9_PercentBytes.Pure := by
  intro a s k ha hs hk
  have hkr := i64_range hk
  apply Ev.rounds
  show Ev (fun n => parapetlaw9_PercentBytes.f n a s k) true
  have yes : Ev (fun n => parapetlaw9_PercentBytes.j0 n a s k true) true := by
    refine Ev.step (fun n => ?_) awake_end
    simp only [parapetlaw9_PercentBytes.j0, if_true]
  unfold parapetlaw9_PercentBytes.f
  by_cases h : (a.size : Int) > 3000
  · simp only [h, if_true]; exact yes
  · simp only [h, if_false]
    by_cases h1 : s < 1
    · simp only [h1, if_true]; exact yes
    · simp only [h1, if_false]
      by_cases h4 : s > 4
      · simp only [h4, decide_true]; exact yes
      · simp only [h4, decide_false]
        have hw : wrap64 ((a.size : Int) + 1) = (a.size : Int) + 1 := w64 (by omega) (by omega)
        obtain ⟨r, hr, r0, r1⟩ := round_f (k := k) (n := (a.size : Int) + 1) (by omega) (by omega) hkr.1 hkr.2
        obtain ⟨r, rfl⟩ := Int.eq_ofNat_of_zero_le r0
        have t1 : bytesOf (a.extract 0 r) = (bytesOf a).take r := by rw [bytesOf_extract]; simp
        have t2 : bytesOf (a.extract r a.size) = (bytesOf a).drop r := by rw [bytesOf_extract, ← bytesOf_length a, List.take_length]
        have s1 : (a.extract 0 r).size ≤ 1000000 := by rw [← bytesOf_length, t1, List.length_take]; omega
        have s2 : (a.extract r a.size).size ≤ 1000000 := by rw [← bytesOf_length, t2, List.length_drop, bytesOf_length]; omega
        have e1 := enc_ev (a.extract 0 r) s s1
        have e2 := enc_ev (a.extract r a.size) s s2
        rw [t1] at e1
        rw [t2] at e2
        have hcat : strOfNums (encL s ((bytesOf a).take r)) ++ strOfNums (encL s ((bytesOf a).drop r)) = strOfNums (encL s (bytesOf a)) := by
          rw [str_append, ← encL_append, List.take_append_drop]
        have hl := encL_len s (bytesOf a)
        rw [bytesOf_length] at hl
        have hsz : (strOfNums (encL s ((bytesOf a).take r))).size + (strOfNums (encL s ((bytesOf a).drop r))).size ≤ 9223372036854775807 := by
          rw [strOfNums_size, strOfNums_size]
          have : (encL s ((bytesOf a).take r)).length + (encL s ((bytesOf a).drop r)).length = (encL s (bytesOf a)).length := by rw [← List.length_append, ← encL_append, List.take_append_drop]
          omega
        refine Ev.step (fun n => ?_) (Ev.bind e1 (f := fun n x => (percent_Encode.f n (a.extract r a.size) s).bind fun y => if x.size + y.size ≤ 9223372036854775807 then parapetlaw9_PercentBytes.l0 n a s (x ++ y) 0 0 else none) (Ev.bind e2 ?_))
        · simp only [parapetlaw9_PercentBytes.j0]
          rw [if_neg (by simp), hw, hr]
          simp only [Option.bind_some]
          rw [if_pos (by omega), if_pos (by omega), Int.toNat_natCast]
        · simp only [hsz, if_true]
          exact bytes_loop a s k _ (by omega) hcat a.size 0 0 (by omega) (by simp)

end Go.Proofs.YtaogcafknbfkmaaDoor.Pu
