/- The plain law of reading: what was written is read as it was. -/
import Derived.Test.YtbemfgpdfacdpaaMsg10
namespace Go.Proofs.Ytbemfgpdfacdpaa.Ms
open Go.RowKit Go.Proofs.Ytbemfgpdfacdpaa.Pr Go.Proofs.YtbemfgpdfacdpaaW.PrintWords Go.Proofs.YtbemfgpdfacdpaaW.PrintLast Go.Proofs.YtbemfgpdfacdpaaW.PrintMore
set_option linter.unusedVariables false
set_option linter.unusedSimpArgs false
theorem beV_wnum (v : Nat) (hv : v < 18446744073709551616) : ∀ s, beV (wnum (v : Int) s) = v % 256 ^ s
  | 0 => by simp [wnum, beV, Nat.mod_one]
  | s + 1 => by
    rw [wnum, beV_cons, wnum_length, beV_wnum v hv s, Nat.mod_pow_succ]
    have h1 : ((v : Int) % 18446744073709551616) = (v : Int) := Int.emod_eq_of_lt (by omega) (by omega)
    have h2 : ((256 : Int) ^ s) = ((256 ^ s : Nat) : Int) := by simp
    rw [h1, h2, ← Int.natCast_ediv, show (((v / 256 ^ s : Nat) : Int) % 256).toNat = v / 256 ^ s % 256 by omega, Nat.mul_comm, Nat.add_comm]
theorem num_comp (v : Int) (r : List Int) (s most : Nat) (h0 : 0 ≤ v) (hm : v ≤ most) (hs : v.toNat < 256 ^ s) (h8 : s ≤ 8) : numP (wnum v s ++ r) false s most = (v.toNat, r, false) := by
  have h3 : (256 : Nat) ^ s ≤ 256 ^ 8 := Nat.pow_le_pow_right (by decide) h8
  have h4 : (256 : Nat) ^ 8 = 18446744073709551616 := by decide
  have ht : takeP (wnum v s ++ r) false s = (wnum v s, r, false) := by
    unfold takeP
    rw [if_neg (by rw [List.length_append, wnum_length]; simp)]
    rw [List.take_left' (wnum_length _ _), List.drop_left' (wnum_length _ _)]
  have hb : beV (wnum v s) = v.toNat := by
    have := beV_wnum v.toNat (by omega) s
    rw [Int.toNat_of_nonneg h0] at this
    rw [this, Nat.mod_eq_of_lt hs]
  unfold numP
  rw [ht, hb, if_neg (by omega)]
theorem take_comp (t r : List Int) : takeP (t ++ r) false t.length = (t, r, false) := by
  unfold takeP
  rw [if_neg (by rw [List.length_append]; simp), List.take_left' rfl, List.drop_left' rfl]
abbrev In63 (v : Int) : Prop := 0 ≤ v ∧ v ≤ 9223372036854775807
theorem pow8 : (256 : Nat) ^ 8 = 18446744073709551616 := by decide
theorem num8_comp (v : Int) (r : List Int) (h : In63 v) : numP (wnum v 8 ++ r) false 8 maxI = (v.toNat, r, false) :=
  num_comp v r 8 maxI h.1 h.2 (by rw [pow8]; have := h.2; omega) (by decide)
theorem ints_comp (vs r : List Int) (h : ∀ v ∈ vs, In63 v) : ∀ m, m ≤ vs.length → intsP (wints vs ++ r) false m = (vs.take m, wints (vs.drop m) ++ r, false)
  | 0, _ => by simp [intsP]
  | m + 1, hm => by
    have hi : m < vs.length := by omega
    have hd : wints (vs.drop m) ++ r = wnum vs[m] 8 ++ (wints (vs.drop (m + 1)) ++ r) := by
      rw [List.drop_eq_getElem_cons hi, wints, List.flatMap_cons, List.append_assoc]; rfl
    have hv := h vs[m] (List.getElem_mem hi)
    rw [intsP, ints_comp vs r h m (by omega)]
    simp only [hd]
    rw [num8_comp _ _ hv, List.take_succ_eq_append_getElem hi]
    simp only [Int.toNat_of_nonneg hv.1]
theorem ints_all (vs r : List Int) (h : ∀ v ∈ vs, In63 v) : intsP (wints vs ++ r) false vs.length = (vs, r, false) := by
  rw [ints_comp vs r h vs.length (Nat.le_refl _), List.take_length, List.drop_length]
  rfl
theorem mem_comp (vs r : List Int) (h9 : vs.length ≤ 9) (h : ∀ v ∈ vs, In63 v) : memP (wmem vs ++ r) false = (vs, r, false) := by
  rw [memP, wmem, List.append_assoc, num_comp (vs.length : Int) _ 1 9 (by omega) (by omega) (by simp; omega) (by decide)]
  simp only [Int.toNat_natCast]
  exact ints_all vs r h
theorem str_bytesOf (s : ByteArray) : strOfNums (bytesOf s) = s := by
  apply ByteArray.ext
  apply Array.ext'
  rw [strOfNums_data, bytesOf, List.map_map]
  simp [Function.comp_def]
theorem pow4 : (256 : Nat) ^ 4 = 4294967296 := by decide
theorem text_comp (s : ByteArray) (r : List Int) (most : Nat) (h : s.size ≤ most) (h4 : most ≤ 4294967295) : textP (wtext s ++ r) false most = (s, r, false) := by
  rw [textP, wtext, List.append_assoc, num_comp (s.size : Int) _ 4 most (by omega) (by omega) (by rw [pow4]; omega) (by decide)]
  simp only [Int.toNat_natCast]
  rw [← bytesOf_length s, take_comp, str_bytesOf]
theorem entry_comp (e : S46) (r : List Int) (h : goodE e) : entryP (wentry e ++ r) false = (e, r, false) := by
  obtain ⟨h0, h1, h2, h3, h4, h5⟩ := h
  have hi : intsP (wentry e ++ r) false 3 = ([e.f0, e.f1, e.f2], wtext e.f3 ++ (wmem e.f4 ++ r), false) := by
    rw [wentry, List.append_assoc, List.append_assoc]
    exact ints_all [e.f0, e.f1, e.f2] _ (fun v hv => by
      simp at hv
      rcases hv with rfl | rfl | rfl
      · exact h0
      · exact h1
      · exact h2)
  rw [entryP, hi]
  simp only []
  rw [text_comp _ _ _ h3 (by decide)]
  simp only []
  rw [mem_comp _ _ h4 h5]
  rfl
theorem entL_comp (r : List Int) : ∀ (es acc : List S46), (∀ e ∈ es, goodE e) → entL es.length acc (es.flatMap wentry ++ r) false = (acc ++ es, r, false)
  | [], acc, _ => by simp [entL]
  | e :: es, acc, h => by
    rw [List.length_cons, entL, if_neg (by decide), List.flatMap_cons, List.append_assoc, entry_comp e _ (h e List.mem_cons_self)]
    simp only []
    rw [entL_comp r es _ (fun x hx => h x (List.mem_cons_of_mem _ hx)), List.append_assoc]
    rfl
theorem ents_comp (es : List S46) (r : List Int) (h8 : es.length ≤ 8) (h : ∀ e ∈ es, goodE e) : entP (wents es ++ r) false = (es, r, false) := by
  rw [entP, wents, List.append_assoc, num_comp (es.length : Int) _ 1 8 (by omega) (by omega) (by simp; omega) (by decide)]
  simp only [Int.toNat_natCast]
  rw [entL_comp r es [] h, List.nil_append]
theorem head_comp (k : Nat) (hk : k ≤ 5) (fr tt tm : Int) (h1 : In63 fr) (h2 : In63 tt) (h3 : In63 tm) (body : List Int) : headP (wnum (k : Int) 1 ++ wints [fr, tt, tm] ++ body) = (k, [fr, tt, tm], body, false) := by
  rw [headP, List.append_assoc, num_comp (k : Int) _ 1 5 (by omega) (by omega) (by simp; omega) (by decide)]
  simp only [Int.toNat_natCast]
  rw [show (3 : Nat) = [fr, tt, tm].length from rfl, ints_all [fr, tt, tm] body (fun v hv => by
    simp at hv
    rcases hv with rfl | rfl | rfl
    · exact h1
    · exact h2
    · exact h3)]
theorem rawP_of (k : Nat) (hk : k ≤ 5) (fr tt tm : Int) (h1 : In63 fr) (h2 : In63 tt) (h3 : In63 tm) (body : List Int) : rawP (wnum (k : Int) 1 ++ wints [fr, tt, tm] ++ body) = bodyP (k : Int) fr tt tm body false := by
  rw [rawP, head_comp k hk fr tt tm h1 h2 h3 body]
  rfl
theorem ints2 (x y : Int) (r : List Int) (hx : In63 x) (hy : In63 y) : intsP (wints [x, y] ++ r) false 2 = ([x, y], r, false) := ints_all [x, y] r (fun v hv => by
  simp at hv
  rcases hv with rfl | rfl
  · exact hx
  · exact hy)
theorem ints3 (x y z : Int) (r : List Int) (hx : In63 x) (hy : In63 y) (hz : In63 z) : intsP (wints [x, y, z] ++ r) false 3 = ([x, y, z], r, false) := ints_all [x, y, z] r (fun v hv => by
  simp at hv
  rcases hv with rfl | rfl | rfl
  · exact hx
  · exact hy
  · exact hz)
theorem ints1 (x : Int) (r : List Int) (hx : In63 x) : intsP (wints [x] ++ r) false 1 = ([x], r, false) := ints_all [x] r (fun v hv => by
  simp at hv
  subst hv
  exact hx)
theorem yes_comp (y : Bool) (r : List Int) : numP ([if y then (1 : Int) else 0] ++ r) false 1 1 = ((if y then 1 else 0), r, false) := by
  cases y
  · exact num_comp 0 r 1 1 (by decide) (by decide) (by decide) (by decide)
  · exact num_comp 1 r 1 1 (by decide) (by decide) (by decide) (by decide)
theorem yes_back (y : Bool) : (((if y then 1 else 0 : Nat) : Int) == 1) = y := by cases y <;> rfl
theorem raw_comp {m : M13} (h : goodM m) (r : List Int) : rawP (rawW m ++ r) = (m, r, false) := by
  obtain ⟨h1, h2, h3, h4⟩ := h
  rcases h4 with ⟨hk, x, y, hx, hy, hm⟩ | ⟨hk, y, hm⟩ | ⟨hk, x, y, z, es', hx, hy, hz, he, hg, hm⟩ | ⟨hk, x, y, hx, hm⟩ | ⟨hk, x, y, ms, s, hx, hy, h9, hg, hs, hm⟩
  · rw [hm, rawW_1, List.append_assoc]
    refine (rawP_of 1 (by decide) _ _ _ h1 h2 h3 _).trans ?_
    rw [bodyP_1, ints2 x y r hx hy]
    rfl
  · rw [hm, rawW_2, List.append_assoc]
    refine (rawP_of 2 (by decide) _ _ _ h1 h2 h3 _).trans ?_
    rw [bodyP_2, yes_comp]
    simp only [yes_back]
  · rw [hm, rawW_3, List.append_assoc, List.append_assoc]
    refine (rawP_of 3 (by decide) _ _ _ h1 h2 h3 _).trans ?_
    rw [bodyP_3]
    simp only [List.append_assoc]
    rw [ints3 x y z _ hx hy hz]
    simp only []
    rw [ents_comp es' r he hg]
    rfl
  · rw [hm, rawW_4, List.append_assoc, List.append_assoc]
    refine (rawP_of 4 (by decide) _ _ _ h1 h2 h3 _).trans ?_
    rw [bodyP_4]
    simp only [List.append_assoc]
    rw [yes_comp]
    simp only []
    rw [ints1 x r hx, yes_back]
    rfl
  · rw [hm, rawW_5, List.append_assoc, List.append_assoc, List.append_assoc]
    refine (rawP_of 5 (by decide) _ _ _ h1 h2 h3 _).trans ?_
    rw [bodyP_5]
    simp only [List.append_assoc]
    rw [ints2 x y _ hx hy]
    simp only []
    rw [mem_comp ms _ h9 hg]
    simp only []
    rw [text_comp s r 65536 hs (by decide)]
    rfl
/-- What is written, with a rest behind it, is no message but where there is none. -/
theorem dec_comp {m : M13} (h : goodM m) (hf : isNode m.fr = true) (ht : isNode m.tt = true) : decP (rawW m) = some m := by
  have := raw_comp h []
  rw [List.append_nil] at this
  rw [decP, this]
  simp [hf, ht]
theorem dec_rest {m : M13} (h : goodM m) (r : List Int) (hr : r ≠ []) : decP (rawW m ++ r) = none := by
  rw [decP, raw_comp h r, if_pos (.inr (.inl hr))]
theorem dec_cut {l : List Int} {m : M13} (hb : Byt l) (h : decP l = some m) (k : Nat) (hk : k < l.length) : decP (l.take k) = none := by
  cases hd : decP (l.take k) with
  | none => rfl
  | some y =>
    obtain ⟨e, g⟩ := dec_sound (fun x hx => hb x (List.mem_of_mem_take hx)) hd
    have := dec_rest g (l.drop k) (by intro he; have := congrArg List.length he; rw [List.length_drop] at this; simp at this; omega)
    rw [← e, List.take_append_drop, h] at this
    cases this
/-- A message's numbers and texts as a machine can hold them. -/
def fitE (e : S46) : Prop := e.f0 ≤ 9223372036854775807 ∧ e.f1 ≤ 9223372036854775807 ∧ e.f2 ≤ 9223372036854775807 ∧ ∀ v ∈ e.f4, v ≤ 9223372036854775807
theorem goodE_of {e : S46} (h : fitE e) (ho : oddE e = false) : goodE e := by
  obtain ⟨f0, f1, f2, f4⟩ := h
  rw [oddE] at ho
  simp only [Bool.or_eq_false_iff, List.any_eq_false, decide_eq_true_eq, decide_eq_false_iff_not] at ho
  obtain ⟨h1, h2, h3, h4⟩ := ho
  have q0 := h1 e.f0 (by simp)
  have q1 := h1 e.f1 (by simp)
  have q2 := h1 e.f2 (by simp)
  exact ⟨⟨by omega, f0⟩, ⟨by omega, f1⟩, ⟨by omega, f2⟩, by omega, by omega, fun v hv => ⟨by have := h4 v hv; omega, f4 v hv⟩⟩
/-- What is written was a message that may be, and is read as it was. -/
theorem enc_some {m : M13} {b : List Int} (hf : ∀ e ∈ m.es, fitE e) (h : encP m = some b) : b = rawW m ∧ goodM m ∧ decP b = some m := by
  rw [encP] at h
  split at h
  · cases h
  · rename_i hbad
    cases hd : decP (rawW m) with
    | none => rw [hd] at h; cases h
    | some x =>
      rw [hd] at h
      simp only at h
      split at h
      · rename_i hs
        cases h
        obtain ⟨e, g⟩ := dec_sound (rawW_bytes m) hd
        have hs' := of_decide_eq_true hs
        obtain ⟨s1, s2, s3, s4, s5, s6, s7, s8, s9, s10, s11, s12, s13⟩ := hs'
        have hmx : m = { x with es := m.es } := by
          obtain ⟨kd, fr, tt, tm, ix, lt, cm, ys, es, si, st, sm, sd⟩ := m
          simp only at s1 s2 s3 s4 s5 s6 s7 s8 s9 s10 s11 s12
          subst s1 s2 s3 s4 s5 s6 s7 s8 s9 s10 s11 s12
          rfl
        have hes : m.es = x.es := by
          obtain ⟨g1, g2, g3, g4⟩ := g
          have hnil : x.es = [] → m.es = x.es := fun h => by rw [h] at s13 ⊢; exact List.eq_nil_of_length_eq_zero s13
          rcases g4 with ⟨hk, a, c, ha, hc, hm⟩ | ⟨hk, a, hm⟩ | ⟨hk, a, c, d, es', ha, hc, hd', he, hg, hm⟩ | ⟨hk, a, c, ha, hm⟩ | ⟨hk, a, c, ms, s, ha, hc, h9, hg, hs, hm⟩
          · exact hnil (by rw [hm])
          · exact hnil (by rw [hm])
          · have hxe : x.es = es' := by rw [hm]
            have hmm : m = ⟨3, x.fr, x.tt, x.tm, a, c, d, false, m.es, 0, 0, [], ⟨#[]⟩⟩ := by
              rw [hm] at hmx
              exact hmx
            have hg' : ∀ e ∈ m.es, goodE e := fun e he' => goodE_of (hf e he') (by
              have hb : badW m = false := by simpa using hbad
              rw [hmm, badW_3] at hb
              simp only [Bool.or_eq_false_iff, List.any_eq_false] at hb
              simpa using hb.2.2.2 e he')
            have gm : goodM m := by
              rw [hmm]
              exact ⟨g1, g2, g3, .inr (.inr (.inl ⟨rfl, a, c, d, m.es, ha, hc, hd', by rw [s13, hxe]; exact he, hg', rfl⟩))⟩
            have r1 := raw_comp gm []
            have r2 := raw_comp (m := x) ⟨g1, g2, g3, .inr (.inr (.inl ⟨hk, a, c, d, es', ha, hc, hd', he, hg, hm⟩))⟩ []
            rw [e, r2] at r1
            have := congrArg (fun p => p.1.es) r1
            exact this.symm
          · exact hnil (by rw [hm])
          · exact hnil (by rw [hm])
        have hmx' : m = x := by rw [hmx, hes]
        exact ⟨rfl, by rw [hmx']; exact g, by rw [hd, hmx']⟩
      · cases h
end Go.Proofs.Ytbemfgpdfacdpaa.Ms
