/- The plain law of reading: what was read without a fault was written so. -/
import Derived.Test.YtbemfgpdfacdpaaMsg8a
import Derived.Test.YtbemfgpdfacdpaaMsg8
namespace Go.Proofs.Ytbemfgpdfacdpaa.Ms
open Go.RowKit Go.Proofs.Ytbemfgpdfacdpaa.Pr Go.Proofs.YtbemfgpdfacdpaaW.PrintWords Go.Proofs.YtbemfgpdfacdpaaW.PrintLast Go.Proofs.YtbemfgpdfacdpaaW.PrintMore
set_option linter.unusedVariables false
set_option linter.unusedSimpArgs false
abbrev Byt (l : List Int) : Prop := ∀ x ∈ l, 0 ≤ x ∧ x ≤ 255
theorem foldl_beV : ∀ (s : List Int) (a : Nat), s.foldl (fun v x => v * 256 + x.toNat) a = a * 256 ^ s.length + beV s
  | [], a => by simp [beV]
  | x :: s, a => by
    have e : beV (x :: s) = x.toNat * 256 ^ s.length + beV s := by
      show List.foldl (fun v x => v * 256 + x.toNat) (0 * 256 + x.toNat) s = _
      rw [foldl_beV s, Nat.zero_mul, Nat.zero_add]
    rw [List.foldl_cons, foldl_beV s, e, List.length_cons, Nat.pow_succ, Nat.add_mul, Nat.mul_assoc, Nat.mul_comm 256, Nat.add_assoc]
theorem beV_cons (x : Int) (s : List Int) : beV (x :: s) = x.toNat * 256 ^ s.length + beV s := by
  show List.foldl (fun v x => v * 256 + x.toNat) (0 * 256 + x.toNat) s = _
  rw [foldl_beV s, Nat.zero_mul, Nat.zero_add]
theorem wnum_of : ∀ (s : List Int) (q : Nat), Byt s → q * 256 ^ s.length + beV s < 18446744073709551616 → wnum ((q * 256 ^ s.length + beV s : Nat) : Int) s.length = s
  | [], q, _, _ => rfl
  | x :: s, q, hb, hv => by
    have hx := hb x List.mem_cons_self
    have hs : Byt s := fun y hy => hb y (List.mem_cons_of_mem _ hy)
    have e : q * 256 ^ (x :: s).length + beV (x :: s) = (q * 256 + x.toNat) * 256 ^ s.length + beV s := by
      rw [beV_cons, List.length_cons, Nat.pow_succ, Nat.add_mul, Nat.mul_assoc, Nat.mul_comm 256, Nat.add_assoc]
    rw [e] at hv ⊢
    have hlt := beV_lt s hs
    rw [List.length_cons, wnum, wnum_of s _ hs hv]
    congr 1
    have h1 : (((q * 256 + x.toNat) * 256 ^ s.length + beV s : Nat) : Int) % 18446744073709551616 = (((q * 256 + x.toNat) * 256 ^ s.length + beV s : Nat) : Int) := Int.emod_eq_of_lt (by omega) (by omega)
    rw [h1]
    have h2 : ((256 : Int) ^ s.length) = ((256 ^ s.length : Nat) : Int) := by simp
    rw [h2, ← Int.natCast_ediv, show ((q * 256 + x.toNat) * 256 ^ s.length + beV s) / 256 ^ s.length = q * 256 + x.toNat by
      rw [Nat.add_comm, Nat.add_mul_div_right _ _ (Nat.pow_pos (by decide)), Nat.div_eq_of_lt hlt, Nat.zero_add]]
    omega
theorem wnum_beV (t : List Int) (h : Byt t) (hl : t.length ≤ 8) : wnum (beV t : Int) t.length = t := by
  have h1 := beV_lt t h
  have h2 : (256 : Nat) ^ t.length ≤ 256 ^ 8 := Nat.pow_le_pow_right (by decide) hl
  have h3 : (256 : Nat) ^ 8 = 18446744073709551616 := by decide
  have := wnum_of t 0 h (by omega)
  simpa using this
/-- Soundness of a number: it was written so. -/
theorem num_sound {l r : List Int} {b : Bool} {s most v : Nat} (hb : Byt l) (hs : s ≤ 8) (h : numP l b s most = (v, r, false)) : b = false ∧ l = wnum v s ++ r ∧ v ≤ most := by
  unfold numP at h
  split at h
  · cases h
  · rename_i hm
    unfold takeP at h hm
    split at h
    · rename_i hc; rw [if_pos hc] at hm; cases h
    · rename_i hc
      rw [if_neg hc] at hm
      have hbf : b = false := by cases b <;> simp_all
      have hlen : s ≤ l.length := by subst hbf; simp at hc; exact hc
      simp only [Prod.mk.injEq] at h
      obtain ⟨rfl, rfl, _⟩ := h
      have e : (l.take s).length = s := by rw [List.length_take]; omega
      refine ⟨hbf, ?_, by simpa using hm⟩
      have := wnum_beV (l.take s) (fun x hx => hb x (List.mem_of_mem_take hx)) (by omega)
      rw [e] at this
      rw [this, List.take_append_drop]
theorem byt_right {a b l : List Int} (h : Byt l) (e : l = a ++ b) : Byt b := fun x hx => h x (by rw [e]; exact List.mem_append_right _ hx)
theorem wints_snoc (vs : List Int) (v : Int) : wints (vs ++ [v]) = wints vs ++ wnum v 8 := by simp [wints]
theorem ints_sound {l : List Int} {b : Bool} (hb : Byt l) : ∀ (m : Nat) {vs r : List Int}, intsP l b m = (vs, r, false) → b = false ∧ l = wints vs ++ r ∧ ∀ v ∈ vs, 0 ≤ v ∧ v ≤ 9223372036854775807
  | 0, vs, r, h => by
    rw [intsP] at h
    cases h
    exact ⟨rfl, rfl, fun v hv => by cases hv⟩
  | m + 1, vs, r, h => by
    rw [intsP] at h
    obtain ⟨vs', r', b', h1⟩ : ∃ a c d, intsP l b m = (a, c, d) := ⟨_, _, _, rfl⟩
    rw [h1] at h
    rcases h2 : numP r' b' 8 maxI with ⟨v, r2, b2⟩
    simp only [h2, Prod.mk.injEq] at h
    obtain ⟨rfl, rfl, rfl⟩ := h
    have hb' : Byt r' := by have := intsP_left (bad := b) hb m; rw [h1] at this; exact this
    obtain ⟨rfl, e2, h3⟩ := num_sound hb' (by decide) h2
    obtain ⟨hbf, e1, h4⟩ := ints_sound hb m h1
    refine ⟨hbf, by rw [e1, e2, wints_snoc, List.append_assoc], fun x hx => ?_⟩
    rcases List.mem_append.1 hx with hx | hx
    · exact h4 x hx
    · rw [List.mem_singleton] at hx; subst hx
      exact ⟨by omega, by have : v ≤ 9223372036854775807 := h3; omega⟩
theorem mem_sound {l vs r : List Int} {b : Bool} (hb : Byt l) (h : memP l b = (vs, r, false)) : b = false ∧ l = wmem vs ++ r ∧ vs.length ≤ 9 ∧ ∀ v ∈ vs, 0 ≤ v ∧ v ≤ 9223372036854775807 := by
  rw [memP] at h
  obtain ⟨n, r', b', h1⟩ : ∃ a c d, numP l b 1 9 = (a, c, d) := ⟨_, _, _, rfl⟩
  rw [h1] at h
  have hb' : Byt r' := by have := numP_left (bad := b) (n := 1) (m := 9) hb; rw [h1] at this; exact this
  obtain ⟨rfl, e2, h3⟩ := ints_sound hb' n h
  obtain ⟨hbf, e1, h4⟩ := num_sound hb (by decide) h1
  have hn : vs.length = n := by have := intsP_length r' false n; rw [h] at this; exact this
  exact ⟨hbf, by rw [e1, e2, wmem, hn, List.append_assoc], by omega, h3⟩
theorem str_size (xs : List Int) : (strOfNums xs).size = xs.length := by
  simp [strOfNums, ByteArray.size]
theorem bytesOf_str (xs : List Int) (h : ∀ x ∈ xs, 0 ≤ x ∧ x ≤ 255) : bytesOf (strOfNums xs) = xs := by
  unfold bytesOf
  rw [strOfNums_data, List.map_map]
  conv => rhs; rw [← List.map_id xs]
  apply List.map_congr_left
  intro x hx
  have := h x hx
  simp [Function.comp]
  omega
theorem take_sound {l t r : List Int} {b : Bool} {n : Nat} (h : takeP l b n = (t, r, false)) : b = false ∧ l = t ++ r ∧ t.length = n := by
  unfold takeP at h
  split at h
  · cases h
  · rename_i hc
    have hbf : b = false := by cases b <;> simp_all
    subst hbf
    simp at hc
    simp only [Prod.mk.injEq] at h
    obtain ⟨rfl, rfl, _⟩ := h
    exact ⟨rfl, (List.take_append_drop _ _).symm, by rw [List.length_take]; omega⟩
theorem text_sound {l r : List Int} {s : ByteArray} {b : Bool} {most : Nat} (hb : Byt l) (h : textP l b most = (s, r, false)) : b = false ∧ l = wtext s ++ r ∧ s.size ≤ most := by
  rw [textP] at h
  obtain ⟨n, r', b', h1⟩ : ∃ a c d, numP l b 4 most = (a, c, d) := ⟨_, _, _, rfl⟩
  rw [h1] at h
  rcases h2 : takeP r' b' n with ⟨t, r2, b2⟩
  simp only [h2, Prod.mk.injEq] at h
  obtain ⟨rfl, rfl, rfl⟩ := h
  have hb' : Byt r' := by have := numP_left (bad := b) (n := 4) (m := most) hb; rw [h1] at this; exact this
  obtain ⟨rfl, e2, h3⟩ := take_sound h2
  obtain ⟨hbf, e1, h4⟩ := num_sound hb (by decide) h1
  have ht : Byt t := fun x hx => hb' x (by rw [e2]; exact List.mem_append_left _ hx)
  exact ⟨hbf, by rw [e1, e2, wtext, bytesOf_str t ht, str_size, h3, List.append_assoc], by rw [str_size, h3]; exact h4⟩
theorem any_neg {vs : List Int} (h : ∀ v ∈ vs, 0 ≤ v ∧ v ≤ 9223372036854775807) : vs.any (fun x => decide (x < 0)) = false := by
  rw [List.any_eq_false]
  intro x hx
  have := h x hx
  simp; omega
/-- An entry whose numbers can be. -/
def goodE (e : S46) : Prop := (0 ≤ e.f0 ∧ e.f0 ≤ 9223372036854775807) ∧ (0 ≤ e.f1 ∧ e.f1 ≤ 9223372036854775807) ∧ (0 ≤ e.f2 ∧ e.f2 ≤ 9223372036854775807) ∧ e.f3.size ≤ 4000 ∧ e.f4.length ≤ 9 ∧ ∀ v ∈ e.f4, 0 ≤ v ∧ v ≤ 9223372036854775807
theorem goodE.odd {e : S46} (h : goodE e) : oddE e = false := by
  obtain ⟨h0, h1, h2, h3, h4, h5⟩ := h
  rw [oddE, any_neg h5, decide_eq_false (by omega), decide_eq_false (by omega), any_neg (fun v hv => by
    simp at hv
    rcases hv with rfl | rfl | rfl
    · exact h0
    · exact h1
    · exact h2)]
  rfl
theorem entry_sound {l r : List Int} {e : S46} {b : Bool} (hb : Byt l) (h : entryP l b = (e, r, false)) : b = false ∧ l = wentry e ++ r ∧ goodE e := by
  rw [entryP] at h
  rcases h1 : intsP l b 3 with ⟨vs, r1, b1⟩
  simp only [h1] at h
  rcases h2 : textP r1 b1 4000 with ⟨s, r2, b2⟩
  simp only [h2] at h
  rcases h3 : memP r2 b2 with ⟨ms, r3, b3⟩
  simp only [h3, Prod.mk.injEq] at h
  obtain ⟨rfl, rfl, rfl⟩ := h
  have hb1 : Byt r1 := by have := intsP_left (bad := b) hb 3; rw [h1] at this; exact this
  have hb2 : Byt r2 := by have := textP_left (bad := b1) (m := 4000) hb1; rw [h2] at this; exact this
  obtain ⟨rfl, e3, g1, g2⟩ := mem_sound hb2 h3
  obtain ⟨rfl, e2, g3⟩ := text_sound hb1 h2
  obtain ⟨hbf, e1, g4⟩ := ints_sound hb 3 h1
  have hl : vs.length = 3 := by have := intsP_length l b 3; rw [h1] at this; exact this
  match vs, hl with
  | [x0, x1, x2], _ =>
    refine ⟨hbf, by rw [e1, e2, e3, wentry, List.append_assoc, List.append_assoc]; rfl, g4 x0 (by simp), g4 x1 (by simp), g4 x2 (by simp), g3, g1, g2⟩
theorem entL_sound : ∀ (k : Nat) {acc : List S46} {l r : List Int} {es : List S46} {b : Bool}, Byt l → entL k acc l b = (es, r, false) → b = false ∧ ∃ es', es = acc ++ es' ∧ es'.length = k ∧ l = es'.flatMap wentry ++ r ∧ ∀ e ∈ es', goodE e
  | 0, acc, l, r, es, b, hb, h => by
    rw [entL] at h
    cases h
    exact ⟨rfl, [], by simp, rfl, by simp, fun e he => by cases he⟩
  | k + 1, acc, l, r, es, b, hb, h => by
    rw [entL] at h
    split at h
    · rename_i hc; cases h; cases hc
    · rename_i hc
      rcases h1 : entryP l b with ⟨e, r1, b1⟩
      rw [h1] at h
      have hb1 : Byt r1 := by have q : ∀ x ∈ (entryP l b).2.1, 0 ≤ x ∧ x ≤ 255 := entryP_left (P := fun x => 0 ≤ x ∧ x ≤ 255) hb; rw [h1] at q; exact q
      obtain ⟨rfl, es', e1, e2, e3, g⟩ := entL_sound k hb1 h
      obtain ⟨hbf, e4, ge⟩ := entry_sound hb h1
      exact ⟨hbf, e :: es', by rw [e1]; simp, by rw [List.length_cons, e2], by rw [e4, e3, List.flatMap_cons, List.append_assoc], fun x hx => by
        rcases List.mem_cons.1 hx with rfl | hx
        · exact ge
        · exact g x hx⟩
theorem ents_sound {l r : List Int} {es : List S46} {b : Bool} (hb : Byt l) (h : entP l b = (es, r, false)) : b = false ∧ l = wents es ++ r ∧ es.length ≤ 8 ∧ ∀ e ∈ es, goodE e := by
  rw [entP] at h
  obtain ⟨n, r', b', h1⟩ : ∃ a c d, numP l b 1 8 = (a, c, d) := ⟨_, _, _, rfl⟩
  rw [h1] at h
  have hb' : Byt r' := by have := numP_left (bad := b) (n := 1) (m := 8) hb; rw [h1] at this; exact this
  obtain ⟨rfl, es', e1, e2, e3, g⟩ := entL_sound n hb' h
  obtain ⟨hbf, e4, h4⟩ := num_sound hb (by decide) h1
  rw [List.nil_append] at e1
  subst e1
  exact ⟨hbf, by rw [e4, e3, wents, e2, List.append_assoc], by omega, g⟩
/-- A message of which the fields that its kind names can be, and the others are zero. -/
def goodM (m : M13) : Prop := (0 ≤ m.fr ∧ m.fr ≤ 9223372036854775807) ∧ (0 ≤ m.tt ∧ m.tt ≤ 9223372036854775807) ∧ (0 ≤ m.tm ∧ m.tm ≤ 9223372036854775807) ∧
  ((m.kd = 1 ∧ ∃ x y, (0 ≤ x ∧ x ≤ 9223372036854775807) ∧ (0 ≤ y ∧ y ≤ 9223372036854775807) ∧ m = ⟨1, m.fr, m.tt, m.tm, x, y, 0, false, [], 0, 0, [], ⟨#[]⟩⟩) ∨
   (m.kd = 2 ∧ ∃ y, m = ⟨2, m.fr, m.tt, m.tm, 0, 0, 0, y, [], 0, 0, [], ⟨#[]⟩⟩) ∨
   (m.kd = 3 ∧ ∃ x y z es, (0 ≤ x ∧ x ≤ 9223372036854775807) ∧ (0 ≤ y ∧ y ≤ 9223372036854775807) ∧ (0 ≤ z ∧ z ≤ 9223372036854775807) ∧ es.length ≤ 8 ∧ (∀ e ∈ es, goodE e) ∧ m = ⟨3, m.fr, m.tt, m.tm, x, y, z, false, es, 0, 0, [], ⟨#[]⟩⟩) ∨
   (m.kd = 4 ∧ ∃ x y, (0 ≤ x ∧ x ≤ 9223372036854775807) ∧ m = ⟨4, m.fr, m.tt, m.tm, x, 0, 0, y, [], 0, 0, [], ⟨#[]⟩⟩) ∨
   (m.kd = 5 ∧ ∃ x y ms s, (0 ≤ x ∧ x ≤ 9223372036854775807) ∧ (0 ≤ y ∧ y ≤ 9223372036854775807) ∧ ms.length ≤ 9 ∧ (∀ v ∈ ms, 0 ≤ v ∧ v ≤ 9223372036854775807) ∧ s.size ≤ 65536 ∧ m = ⟨5, m.fr, m.tt, m.tm, 0, 0, 0, false, [], x, y, ms, s⟩))
theorem goodM.bad {m : M13} (h : goodM m) : badW m = false := by
  obtain ⟨h1, h2, h3, h4⟩ := h
  have hn : [m.fr, m.tt, m.tm].any (fun x => decide (x < 0)) = false := any_neg (fun v hv => by
    simp at hv
    rcases hv with rfl | rfl | rfl
    · exact h1
    · exact h2
    · exact h3)
  rcases h4 with ⟨_, x, y, hx, hy, hm⟩ | ⟨_, y, hm⟩ | ⟨_, x, y, z, es, hx, hy, hz, he, hg, hm⟩ | ⟨_, x, y, hx, hm⟩ | ⟨_, x, y, ms, s, hx, hy, h9, hg, hs, hm⟩
  · rw [hm, badW_1, hn, any_neg (fun v hv => by
      simp at hv
      rcases hv with rfl | rfl
      · exact hx
      · exact hy)]
    rfl
  · rw [hm, badW_2, hn]; rfl
  · rw [hm, badW_3, hn, any_neg (fun v hv => by
      simp at hv
      rcases hv with rfl | rfl | rfl
      · exact hx
      · exact hy
      · exact hz), decide_eq_false (by omega)]
    simp only [Bool.false_or]
    rw [List.any_eq_false]
    intro e he2
    rw [(hg e he2).odd]; simp
  · rw [hm, badW_4, hn, any_neg (fun v hv => by simp at hv; subst hv; exact hx)]; rfl
  · rw [hm, badW_5, hn, any_neg (fun v hv => by
      simp at hv
      rcases hv with rfl | rfl
      · exact hx
      · exact hy), any_neg hg, decide_eq_false (by omega), decide_eq_false (by omega)]
    rfl
theorem yes_num {v : Nat} (h : v ≤ 1) : [if ((v : Int) == 1) = true then (1 : Int) else 0] = wnum v 1 := by
  have : v = 0 ∨ v = 1 := by omega
  rcases this with rfl | rfl <;> rfl
theorem raw_sound {l r : List Int} {m : M13} (hb : Byt l) (h : rawP l = (m, r, false)) : l = rawW m ++ r ∧ goodM m := by
  rcases h0 : numP l false 1 5 with ⟨k, r0, b0⟩
  rcases h1 : intsP r0 b0 3 with ⟨vs, r1, b1⟩
  have hH : headP l = (k, vs, r1, b1) := by rw [headP, h0, h1]
  rw [rawP, hH] at h
  have hb0 : Byt r0 := by have q : ∀ x ∈ (numP l false 1 5).2.1, 0 ≤ x ∧ x ≤ 255 := numP_left (P := fun x => 0 ≤ x ∧ x ≤ 255) hb; rw [h0] at q; exact q
  have hb1 : Byt r1 := by have q : ∀ x ∈ (intsP r0 b0 3).2.1, 0 ≤ x ∧ x ≤ 255 := intsP_left (P := fun x => 0 ≤ x ∧ x ≤ 255) hb0 3; rw [h1] at q; exact q
  have hl : vs.length = 3 := by have := intsP_length r0 b0 3; rw [h1] at this; exact this
  have key : b1 = false → l = wnum k 1 ++ wints vs ++ r1 ∧ ∀ v ∈ vs, 0 ≤ v ∧ v ≤ 9223372036854775807 := fun hbf => by
    subst hbf
    obtain ⟨rfl, e1, g⟩ := ints_sound hb0 3 h1
    obtain ⟨_, e0, _⟩ := num_sound hb (by decide) h0
    exact ⟨by rw [e0, e1, List.append_assoc], g⟩
  match vs, hl with
  | [x0, x1, x2], _ =>
    have hk5 : k ≤ 5 := by have := numP_le l false 1 5; rw [h0] at this; exact this
    obtain hk | hk | hk | hk | hk | hk : k = 0 ∨ k = 1 ∨ k = 2 ∨ k = 3 ∨ k = 4 ∨ k = 5 := by omega
    · subst hk
      exact absurd (congrArg (fun p => p.2.2) h) (by show ¬ (true = false); decide)
    · subst hk
      simp only [bodyP_1] at h
      rcases h2 : intsP r1 b1 2 with ⟨ws, r2, b2⟩
      simp only [h2, Prod.mk.injEq] at h
      obtain ⟨rfl, rfl, rfl⟩ := h
      have hw : ws.length = 2 := by have := intsP_length r1 b1 2; rw [h2] at this; exact this
      obtain ⟨rfl, e2, g2⟩ := ints_sound hb1 2 h2
      obtain ⟨e, g⟩ := key rfl
      match ws, hw with
      | [y0, y1], _ => exact ⟨by rw [rawW_1, e, e2]; simp only [List.append_assoc]; rfl, g x0 (by simp), g x1 (by simp), g x2 (by simp), .inl ⟨rfl, y0, y1, g2 y0 (by simp), g2 y1 (by simp), rfl⟩⟩
    · subst hk
      simp only [bodyP_2] at h
      rcases h2 : numP r1 b1 1 1 with ⟨v, r2, b2⟩
      simp only [h2, Prod.mk.injEq] at h
      obtain ⟨rfl, rfl, rfl⟩ := h
      obtain ⟨rfl, e2, g2⟩ := num_sound hb1 (by decide) h2
      obtain ⟨e, g⟩ := key rfl
      refine ⟨?_, g x0 (by simp), g x1 (by simp), g x2 (by simp), .inr (.inl ⟨rfl, _, rfl⟩)⟩
      rw [rawW_2, e, e2, yes_num g2]; simp only [List.append_assoc]; rfl
    · subst hk
      simp only [bodyP_3] at h
      rcases h2 : intsP r1 b1 3 with ⟨ws, r2, b2⟩
      simp only [h2] at h
      rcases h3 : entP r2 b2 with ⟨es, r3, b3⟩
      simp only [h3, Prod.mk.injEq] at h
      obtain ⟨rfl, rfl, rfl⟩ := h
      have hw : ws.length = 3 := by have := intsP_length r1 b1 3; rw [h2] at this; exact this
      have hb2 : Byt r2 := by have q : ∀ x ∈ (intsP r1 b1 3).2.1, 0 ≤ x ∧ x ≤ 255 := intsP_left (P := fun x => 0 ≤ x ∧ x ≤ 255) hb1 3; rw [h2] at q; exact q
      obtain ⟨rfl, e3, g3, g4⟩ := ents_sound hb2 h3
      obtain ⟨rfl, e2, g2⟩ := ints_sound hb1 3 h2
      obtain ⟨e, g⟩ := key rfl
      match ws, hw with
      | [y0, y1, y2], _ => exact ⟨by rw [rawW_3, e, e2, e3]; simp only [List.append_assoc]; rfl, g x0 (by simp), g x1 (by simp), g x2 (by simp), .inr (.inr (.inl ⟨rfl, y0, y1, y2, es, g2 y0 (by simp), g2 y1 (by simp), g2 y2 (by simp), g3, g4, rfl⟩))⟩
    · subst hk
      simp only [bodyP_4] at h
      rcases h2 : numP r1 b1 1 1 with ⟨v, r2, b2⟩
      simp only [h2] at h
      rcases h3 : intsP r2 b2 1 with ⟨ws, r3, b3⟩
      simp only [h3, Prod.mk.injEq] at h
      obtain ⟨rfl, rfl, rfl⟩ := h
      have hw : ws.length = 1 := by have := intsP_length r2 b2 1; rw [h3] at this; exact this
      have hb2 : Byt r2 := by have q : ∀ x ∈ (numP r1 b1 1 1).2.1, 0 ≤ x ∧ x ≤ 255 := numP_left (P := fun x => 0 ≤ x ∧ x ≤ 255) hb1; rw [h2] at q; exact q
      obtain ⟨rfl, e3, g3⟩ := ints_sound hb2 1 h3
      obtain ⟨rfl, e2, g2⟩ := num_sound hb1 (by decide) h2
      obtain ⟨e, g⟩ := key rfl
      match ws, hw with
      | [y0], _ =>
        refine ⟨?_, g x0 (by simp), g x1 (by simp), g x2 (by simp), .inr (.inr (.inr (.inl ⟨rfl, y0, _, g3 y0 (by simp), rfl⟩)))⟩
        show l = rawW ⟨4, _, _, _, _, _, _, _, _, _, _, _, _⟩ ++ _
        rw [rawW_4, e, e2, e3, yes_num g2]; simp only [List.append_assoc]; rfl
    · subst hk
      simp only [bodyP_5] at h
      rcases h2 : intsP r1 b1 2 with ⟨ws, r2, b2⟩
      simp only [h2] at h
      rcases h3 : memP r2 b2 with ⟨ms, r3, b3⟩
      simp only [h3] at h
      rcases h4 : textP r3 b3 65536 with ⟨s, r4, b4⟩
      simp only [h4, Prod.mk.injEq] at h
      obtain ⟨rfl, rfl, rfl⟩ := h
      have hw : ws.length = 2 := by have := intsP_length r1 b1 2; rw [h2] at this; exact this
      have hb2 : Byt r2 := by have q : ∀ x ∈ (intsP r1 b1 2).2.1, 0 ≤ x ∧ x ≤ 255 := intsP_left (P := fun x => 0 ≤ x ∧ x ≤ 255) hb1 2; rw [h2] at q; exact q
      have hb3 : Byt r3 := by have q : ∀ x ∈ (memP r2 b2).2.1, 0 ≤ x ∧ x ≤ 255 := memP_left (P := fun x => 0 ≤ x ∧ x ≤ 255) hb2; rw [h3] at q; exact q
      obtain ⟨rfl, e4, g4⟩ := text_sound hb3 h4
      obtain ⟨rfl, e3, g3, g3'⟩ := mem_sound hb2 h3
      obtain ⟨rfl, e2, g2⟩ := ints_sound hb1 2 h2
      obtain ⟨e, g⟩ := key rfl
      match ws, hw with
      | [y0, y1], _ => exact ⟨by rw [rawW_5, e, e2, e3, e4]; simp only [List.append_assoc]; rfl, g x0 (by simp), g x1 (by simp), g x2 (by simp), .inr (.inr (.inr (.inr ⟨rfl, y0, y1, ms, s, g2 y0 (by simp), g2 y1 (by simp), g3, g3', g4, rfl⟩)))⟩
end Go.Proofs.Ytbemfgpdfacdpaa.Ms
