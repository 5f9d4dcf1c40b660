/- 16 texts of the proof, put together, less what is not used; what a tool printed stands among them. -/
import Derived.ChangeSlices
import Derived.Test.YtbemfgpdfacdpaaMDec10
namespace Go.Proofs.Ytbemfgpdfacdpaa.Ms
open Go.RowKit Go.Proofs.Ytbemfgpdfacdpaa.Pr Go.Proofs.YtbemfgpdfacdpaaW.PrintWords Go.Proofs.YtbemfgpdfacdpaaW.PrintLast Go.Proofs.YtbemfgpdfacdpaaW.PrintMore
set_option linter.unusedVariables false
set_option linter.unusedSimpArgs false
theorem beV_wnum (v : Nat) (hv : v < 18446744073709551616) : ∀ s, beV (wnum (v : Int) s) = v % 256 ^ s
  | 0 => by simp [wnum, beV, Nat.mod_one]
  | s + 1 => by
    rw [wnum, beV_cons, wnum_length, beV_wnum v hv s, Nat.mod_pow_succ]
    have h1 : ((v : Int) % 18446744073709551616) = (v : Int) := Int.emod_eq_of_lt (by omega) (by omega)
    have h2 : ((256 : Int) ^ s) = ((256 ^ s : Nat) : Int) := by simp
    rw [h1, h2, ← Int.natCast_ediv, show (((v / 256 ^ s : Nat) : Int) % 256).toNat = v / 256 ^ s % 256 by omega, Nat.mul_comm, Nat.add_comm]
theorem num_comp (v : Int) (r : List Int) (s most : Nat) (h0 : 0 ≤ v) (hm : v ≤ most) (hs : v.toNat < 256 ^ s) (h8 : s ≤ 8) : numP (wnum v s ++ r) false s most = (v.toNat, r, false) := by
  have h3 : (256 : Nat) ^ s ≤ 256 ^ 8 := Nat.pow_le_pow_right (by decide) h8
  have h4 : (256 : Nat) ^ 8 = 18446744073709551616 := by decide
  have ht : takeP (wnum v s ++ r) false s = (wnum v s, r, false) := by
    unfold takeP
    rw [if_neg (by rw [List.length_append, wnum_length]; simp)]
    rw [List.take_left' (wnum_length _ _), List.drop_left' (wnum_length _ _)]
  have hb : beV (wnum v s) = v.toNat := by
    have := beV_wnum v.toNat (by omega) s
    rw [Int.toNat_of_nonneg h0] at this
    rw [this, Nat.mod_eq_of_lt hs]
  unfold numP
  rw [ht, hb, if_neg (by omega)]
theorem take_comp (t r : List Int) : takeP (t ++ r) false t.length = (t, r, false) := by
  unfold takeP
  rw [if_neg (by rw [List.length_append]; simp), List.take_left' rfl, List.drop_left' rfl]
abbrev In63 (v : Int) : Prop := 0 ≤ v ∧ v ≤ 9223372036854775807
theorem pow8 : (256 : Nat) ^ 8 = 18446744073709551616 := by decide
theorem num8_comp (v : Int) (r : List Int) (h : In63 v) : numP (wnum v 8 ++ r) false 8 maxI = (v.toNat, r, false) :=
  num_comp v r 8 maxI h.1 h.2 (by rw [pow8]; have := h.2; omega) (by decide)
theorem ints_comp (vs r : List Int) (h : ∀ v ∈ vs, In63 v) : ∀ m, m ≤ vs.length → intsP (wints vs ++ r) false m = (vs.take m, wints (vs.drop m) ++ r, false)
  | 0, _ => by simp [intsP]
  | m + 1, hm => by
    have hi : m < vs.length := by omega
    have hd : wints (vs.drop m) ++ r = wnum vs[m] 8 ++ (wints (vs.drop (m + 1)) ++ r) := by
      rw [List.drop_eq_getElem_cons hi, wints, List.flatMap_cons, List.append_assoc]; rfl
    have hv := h vs[m] (List.getElem_mem hi)
    rw [intsP, ints_comp vs r h m (by omega)]
    simp only [hd]
    rw [num8_comp _ _ hv, List.take_succ_eq_append_getElem hi]
    simp only [Int.toNat_of_nonneg hv.1]
theorem ints_all (vs r : List Int) (h : ∀ v ∈ vs, In63 v) : intsP (wints vs ++ r) false vs.length = (vs, r, false) := by
  rw [ints_comp vs r h vs.length (Nat.le_refl _), List.take_length, List.drop_length]
  rfl
theorem mem_comp (vs r : List Int) (h9 : vs.length ≤ 9) (h : ∀ v ∈ vs, In63 v) : memP (wmem vs ++ r) false = (vs, r, false) := by
  rw [memP, wmem, List.append_assoc, num_comp (vs.length : Int) _ 1 9 (by omega) (by omega) (by simp; omega) (by decide)]
  simp only [Int.toNat_natCast]
  exact ints_all vs r h
theorem str_bytesOf (s : ByteArray) : strOfNums (bytesOf s) = s := by
  apply ByteArray.ext
  apply Array.ext'
  rw [strOfNums_data, bytesOf, List.map_map]
  simp [Function.comp_def]
theorem pow4 : (256 : Nat) ^ 4 = 4294967296 := by decide
theorem text_comp (s : ByteArray) (r : List Int) (most : Nat) (h : s.size ≤ most) (h4 : most ≤ 4294967295) : textP (wtext s ++ r) false most = (s, r, false) := by
  rw [textP, wtext, List.append_assoc, num_comp (s.size : Int) _ 4 most (by omega) (by omega) (by rw [pow4]; omega) (by decide)]
  simp only [Int.toNat_natCast]
  rw [← bytesOf_length s, take_comp, str_bytesOf]
theorem entry_comp (e : S46) (r : List Int) (h : goodE e) : entryP (wentry e ++ r) false = (e, r, false) := by
  obtain ⟨h0, h1, h2, h3, h4, h5⟩ := h
  have hi : intsP (wentry e ++ r) false 3 = ([e.f0, e.f1, e.f2], wtext e.f3 ++ (wmem e.f4 ++ r), false) := by
    rw [wentry, List.append_assoc, List.append_assoc]
    exact ints_all [e.f0, e.f1, e.f2] _ (fun v hv => by
      simp at hv
      rcases hv with rfl | rfl | rfl
      · exact h0
      · exact h1
      · exact h2)
  rw [entryP, hi]
  simp only []
  rw [text_comp _ _ _ h3 (by decide)]
  simp only []
  rw [mem_comp _ _ h4 h5]
  rfl
theorem entL_comp (r : List Int) : ∀ (es acc : List S46), (∀ e ∈ es, goodE e) → entL es.length acc (es.flatMap wentry ++ r) false = (acc ++ es, r, false)
  | [], acc, _ => by simp [entL]
  | e :: es, acc, h => by
    rw [List.length_cons, entL, if_neg (by decide), List.flatMap_cons, List.append_assoc, entry_comp e _ (h e List.mem_cons_self)]
    simp only []
    rw [entL_comp r es _ (fun x hx => h x (List.mem_cons_of_mem _ hx)), List.append_assoc]
    rfl
theorem ents_comp (es : List S46) (r : List Int) (h8 : es.length ≤ 8) (h : ∀ e ∈ es, goodE e) : entP (wents es ++ r) false = (es, r, false) := by
  rw [entP, wents, List.append_assoc, num_comp (es.length : Int) _ 1 8 (by omega) (by omega) (by simp; omega) (by decide)]
  simp only [Int.toNat_natCast]
  rw [entL_comp r es [] h, List.nil_append]
theorem head_comp (k : Nat) (hk : k ≤ 5) (fr tt tm : Int) (h1 : In63 fr) (h2 : In63 tt) (h3 : In63 tm) (body : List Int) : headP (wnum (k : Int) 1 ++ wints [fr, tt, tm] ++ body) = (k, [fr, tt, tm], body, false) := by
  rw [headP, List.append_assoc, num_comp (k : Int) _ 1 5 (by omega) (by omega) (by simp; omega) (by decide)]
  simp only [Int.toNat_natCast]
  rw [show (3 : Nat) = [fr, tt, tm].length from rfl, ints_all [fr, tt, tm] body (fun v hv => by
    simp at hv
    rcases hv with rfl | rfl | rfl
    · exact h1
    · exact h2
    · exact h3)]
theorem rawP_of (k : Nat) (hk : k ≤ 5) (fr tt tm : Int) (h1 : In63 fr) (h2 : In63 tt) (h3 : In63 tm) (body : List Int) : rawP (wnum (k : Int) 1 ++ wints [fr, tt, tm] ++ body) = bodyP (k : Int) fr tt tm body false := by
  rw [rawP, head_comp k hk fr tt tm h1 h2 h3 body]
  rfl
theorem ints2 (x y : Int) (r : List Int) (hx : In63 x) (hy : In63 y) : intsP (wints [x, y] ++ r) false 2 = ([x, y], r, false) := ints_all [x, y] r (fun v hv => by
  simp at hv
  rcases hv with rfl | rfl
  · exact hx
  · exact hy)
theorem ints3 (x y z : Int) (r : List Int) (hx : In63 x) (hy : In63 y) (hz : In63 z) : intsP (wints [x, y, z] ++ r) false 3 = ([x, y, z], r, false) := ints_all [x, y, z] r (fun v hv => by
  simp at hv
  rcases hv with rfl | rfl | rfl
  · exact hx
  · exact hy
  · exact hz)
theorem ints1 (x : Int) (r : List Int) (hx : In63 x) : intsP (wints [x] ++ r) false 1 = ([x], r, false) := ints_all [x] r (fun v hv => by
  simp at hv
  subst hv
  exact hx)
theorem yes_comp (y : Bool) (r : List Int) : numP ([if y then (1 : Int) else 0] ++ r) false 1 1 = ((if y then 1 else 0), r, false) := by
  cases y
  · exact num_comp 0 r 1 1 (by decide) (by decide) (by decide) (by decide)
  · exact num_comp 1 r 1 1 (by decide) (by decide) (by decide) (by decide)
theorem yes_back (y : Bool) : (((if y then 1 else 0 : Nat) : Int) == 1) = y := by cases y <;> rfl
theorem raw_comp {m : M13} (h : goodM m) (r : List Int) : rawP (rawW m ++ r) = (m, r, false) := by
  obtain ⟨h1, h2, h3, h4⟩ := h
  rcases h4 with ⟨hk, x, y, hx, hy, hm⟩ | ⟨hk, y, hm⟩ | ⟨hk, x, y, z, es', hx, hy, hz, he, hg, hm⟩ | ⟨hk, x, y, hx, hm⟩ | ⟨hk, x, y, ms, s, hx, hy, h9, hg, hs, hm⟩
  · rw [hm, rawW_1, List.append_assoc]
    refine (rawP_of 1 (by decide) _ _ _ h1 h2 h3 _).trans ?_
    rw [bodyP_1, ints2 x y r hx hy]
    rfl
  · rw [hm, rawW_2, List.append_assoc]
    refine (rawP_of 2 (by decide) _ _ _ h1 h2 h3 _).trans ?_
    rw [bodyP_2, yes_comp]
    simp only [yes_back]
  · rw [hm, rawW_3, List.append_assoc, List.append_assoc]
    refine (rawP_of 3 (by decide) _ _ _ h1 h2 h3 _).trans ?_
    rw [bodyP_3]
    simp only [List.append_assoc]
    rw [ints3 x y z _ hx hy hz]
    simp only []
    rw [ents_comp es' r he hg]
    rfl
  · rw [hm, rawW_4, List.append_assoc, List.append_assoc]
    refine (rawP_of 4 (by decide) _ _ _ h1 h2 h3 _).trans ?_
    rw [bodyP_4]
    simp only [List.append_assoc]
    rw [yes_comp]
    simp only []
    rw [ints1 x r hx, yes_back]
    rfl
  · rw [hm, rawW_5, List.append_assoc, List.append_assoc, List.append_assoc]
    refine (rawP_of 5 (by decide) _ _ _ h1 h2 h3 _).trans ?_
    rw [bodyP_5]
    simp only [List.append_assoc]
    rw [ints2 x y _ hx hy]
    simp only []
    rw [mem_comp ms _ h9 hg]
    simp only []
    rw [text_comp s r 65536 hs (by decide)]
    rfl
/-- What is written, with a rest behind it, is no message but where there is none. -/
theorem dec_comp {m : M13} (h : goodM m) (hf : isNode m.fr = true) (ht : isNode m.tt = true) : decP (rawW m) = some m := by
  have := raw_comp h []
  rw [List.append_nil] at this
  rw [decP, this]
  simp [hf, ht]
/-- A message's numbers and texts as a machine can hold them. -/
def fitE (e : S46) : Prop := e.f0 ≤ 9223372036854775807 ∧ e.f1 ≤ 9223372036854775807 ∧ e.f2 ≤ 9223372036854775807 ∧ ∀ v ∈ e.f4, v ≤ 9223372036854775807
theorem goodE_of {e : S46} (h : fitE e) (ho : oddE e = false) : goodE e := by
  obtain ⟨f0, f1, f2, f4⟩ := h
  rw [oddE] at ho
  simp only [Bool.or_eq_false_iff, List.any_eq_false, decide_eq_true_eq, decide_eq_false_iff_not] at ho
  obtain ⟨h1, h2, h3, h4⟩ := ho
  have q0 := h1 e.f0 (by simp)
  have q1 := h1 e.f1 (by simp)
  have q2 := h1 e.f2 (by simp)
  exact ⟨⟨by omega, f0⟩, ⟨by omega, f1⟩, ⟨by omega, f2⟩, by omega, by omega, fun v hv => ⟨by have := h4 v hv; omega, f4 v hv⟩⟩
end Go.Proofs.Ytbemfgpdfacdpaa.Ms
namespace Go.Proofs.Ytbemfgpdfacdpaa.Ms
open Go.RowKit Go.Proofs.Ytbemfgpdfacdpaa.Pr Go.Proofs.YtbemfgpdfacdpaaW.PrintWords Go.Proofs.YtbemfgpdfacdpaaW.PrintLast Go.Proofs.YtbemfgpdfacdpaaW.PrintMore
open Go.ChangeShapes Go.WideShapes
set_option linter.unusedVariables false
set_option linter.unusedSimpArgs false
abbrev R64 (v : Int) : Prop := -9223372036854775808 ≤ v ∧ v ≤ 9223372036854775807
abbrev reach : Nat := 140737488351232
section
variable {H : Type} {enc : TypeId × Value → H} {W : World}
def FitS (e : S46) : Prop := R64 e.f0 ∧ R64 e.f1 ∧ R64 e.f2 ∧ e.f3.size ≤ reach ∧ e.f4.length * 8 ≤ reach ∧ ∀ v ∈ e.f4, R64 v
def FitM (m : M13) : Prop := R64 m.kd ∧ R64 m.fr ∧ R64 m.tt ∧ R64 m.tm ∧ R64 m.ix ∧ R64 m.lt ∧ R64 m.cm ∧ R64 m.si ∧ R64 m.st ∧ (∀ e ∈ m.es, FitS e) ∧ m.es.length * 64 ≤ reach ∧ (∀ v ∈ m.sm, R64 v) ∧ m.sm.length * 8 ≤ reach ∧ m.sd.size ≤ reach
end
end Go.Proofs.Ytbemfgpdfacdpaa.Ms
namespace Go.Proofs.Ytbemfgpdfacdpaa.Ms
open Go.RowKit Go.Proofs.Ytbemfgpdfacdpaa.Pr Go.Proofs.YtbemfgpdfacdpaaW.PrintWords Go.Proofs.YtbemfgpdfacdpaaW.PrintLast Go.Proofs.YtbemfgpdfacdpaaW.PrintMore
set_option linter.unusedVariables false
set_option linter.unusedSimpArgs false
theorem ints_same_l (l : List Int) (hl : l.length ≤ 4611686018427387904) : ∀ (m i k : Nat), i + m = l.length → m < k → parapetref6_SameInts.l0 k l l i = some true
  | 0, i, k + 1, h, _ => by rw [parapetref6_SameInts.l0, if_neg (by omega)]
  | m + 1, i, k + 1, h, hk => by
    rw [parapetref6_SameInts.l0, if_pos (by omega), if_pos (by omega), if_pos (by omega), if_pos rfl, show wrap64 ((i : Int) + 1) = ((i + 1 : Nat) : Int) by unfold wrap64; omega]
    exact ints_same_l l hl m (i + 1) k (by omega) (by omega)
theorem ints_same_f (l : List Int) (k : Nat) (h : l.length ≤ 20) (hk : 20 < k) : parapetref6_SameInts.f k l l = some true := by
  rw [parapetref6_SameInts.f, if_pos rfl]
  exact ints_same_l l (by omega) l.length 0 k (by omega) (by omega)
theorem ents_same_l (l : List S46) (hl : l.length ≤ 20) (h9 : ∀ e ∈ l, e.f4.length ≤ 20) : ∀ (m i k : Nat), i + m = l.length → 21 + m < k → parapetref6_SameEntries.l0 k l l i = some true
  | 0, i, k + 1, h, _ => by rw [parapetref6_SameEntries.l0, if_neg (by omega)]
  | m + 1, i, k + 1, h, hk => by
    have hm : rd_T46 l (i : Int) ∈ l := by
      have : rd_T46 l (i : Int) = l[i]'(by omega) := by
        have hi : i < l.length := by omega
        simp [rd_T46, hi]
      rw [this]
      exact List.getElem_mem _
    rw [parapetref6_SameEntries.l0, if_pos (by omega), if_pos (by omega), if_pos (by omega), if_pos rfl, if_pos rfl, if_pos rfl, if_pos rfl, ints_same_f _ k (h9 _ hm) (by omega), Option.bind_some, if_pos rfl, show wrap64 ((i : Int) + 1) = ((i + 1 : Nat) : Int) by unfold wrap64; omega]
    exact ents_same_l l hl h9 m (i + 1) k (by omega) (by omega)
theorem msg_same_self (m : M13) (h8 : m.es.length ≤ 20) (h9 : ∀ e ∈ m.es, e.f4.length ≤ 20) (hs : m.sm.length ≤ 20) : parapetref6_SameMsg.f 50 m.kd m.fr m.tt m.tm m.ix m.lt m.cm m.ys m.es m.si m.st m.sm m.sd m.kd m.fr m.tt m.tm m.ix m.lt m.cm m.ys m.es m.si m.st m.sm m.sd = some true := by
  have he : parapetref6_SameEntries.f 50 m.es m.es = some true := by
    rw [parapetref6_SameEntries.f, if_pos rfl]
    exact ents_same_l m.es h8 h9 m.es.length 0 50 (by omega) (by omega)
  rw [parapetref6_SameMsg.f, if_pos rfl, if_pos rfl, if_pos rfl, if_pos rfl, if_pos rfl, if_pos rfl, if_pos rfl, if_pos (beq_self_eq_true _), he, Option.bind_some, if_pos rfl, parapetref6_SameSnap.f, if_pos rfl, if_pos rfl, if_pos rfl, ints_same_f _ 50 hs (by decide)]
  rfl
theorem goodM.small {m : M13} (h : goodM m) : m.es.length ≤ 20 ∧ (∀ e ∈ m.es, e.f4.length ≤ 20) ∧ m.sm.length ≤ 20 := by
  obtain ⟨_, _, _, h4⟩ := h
  rcases h4 with ⟨_, x, y, hx, hy, hm⟩ | ⟨_, y, hm⟩ | ⟨_, x, y, z, es, hx, hy, hz, he, hg, hm⟩ | ⟨_, x, y, hx, hm⟩ | ⟨_, x, y, ms, s, hx, hy, h9, hg, hs, hm⟩
  · rw [hm]; exact ⟨by simp, (fun e he => by cases he), by simp⟩
  · rw [hm]; exact ⟨by simp, (fun e he => by cases he), by simp⟩
  · rw [hm]; exact ⟨by show es.length ≤ 20; omega, fun e he' => by have := (hg e he').2.2.2.2.1; omega, by simp⟩
  · rw [hm]; exact ⟨by simp, (fun e he => by cases he), by simp⟩
  · rw [hm]; exact ⟨by simp, (fun e he => by cases he), by show ms.length ≤ 20; omega⟩
def ew (e : S46) : Nat := e.f3.size + 8 * e.f4.length
theorem FitS.fit {e : S46} (h : FitS e) : fitE e := ⟨h.1.2, h.2.1.2, h.2.2.1.2, fun v hv => (h.2.2.2.2.2 v hv).2⟩
end Go.Proofs.Ytbemfgpdfacdpaa.Ms
namespace Go.Proofs.Ytbemfgpdfacdpaa.Ms
open Go.RowKit Go.Proofs.Ytbemfgpdfacdpaa.Pr Go.Proofs.YtbemfgpdfacdpaaW.PrintWords Go.Proofs.YtbemfgpdfacdpaaW.PrintLast Go.Proofs.YtbemfgpdfacdpaaW.PrintMore
set_option linter.unusedVariables false
set_option linter.unusedSimpArgs false
def onlyM (m : M13) : M13 :=
  if m.kd = 1 then ⟨m.kd, m.fr, m.tt, m.tm, m.ix, m.lt, 0, false, [], 0, 0, [], ⟨#[]⟩⟩
  else if m.kd = 2 then ⟨m.kd, m.fr, m.tt, m.tm, 0, 0, 0, m.ys, [], 0, 0, [], ⟨#[]⟩⟩
  else if m.kd = 3 then ⟨m.kd, m.fr, m.tt, m.tm, m.ix, m.lt, m.cm, false, m.es, 0, 0, [], ⟨#[]⟩⟩
  else if m.kd = 4 then ⟨m.kd, m.fr, m.tt, m.tm, m.ix, 0, 0, m.ys, [], 0, 0, [], ⟨#[]⟩⟩
  else if m.kd = 5 then ⟨m.kd, m.fr, m.tt, m.tm, 0, 0, 0, false, [], m.si, m.st, m.sm, m.sd⟩
  else ⟨m.kd, m.fr, m.tt, m.tm, 0, 0, 0, false, [], 0, 0, [], ⟨#[]⟩⟩
set_option maxHeartbeats 4000000 in
set_option maxRecDepth 100000 in
theorem only_calls (m : M13) (A8 : Option Addr) (n8 c8 : Nat) (A11 : Option Addr) (n11 c11 : Nat) (w : World) :
    Calls Try.prog 24 #[.agg (mcells m (.slice A8 n8 c8) (.slice A11 n11 c11))] w fun e w' => e = .returned (.agg (mcells (onlyM m) (if m.kd = 3 then .slice A8 n8 c8 else .slice none 0 0) (if m.kd = 5 then .slice A11 n11 c11 else .slice none 0 0))) ∧ Below w.heap.size w w' := by
  obtain ⟨kd, fr, tt, tm, ix, lt, cm, ys, es, si, st, sm, sd⟩ := m
  by_cases h1 : kd = 1
  · subst h1
    show Calls _ _ _ w fun e w' => e = .returned (.agg (mcells ⟨1, fr, tt, tm, ix, lt, 0, false, [], 0, 0, [], ⟨#[]⟩⟩ (.slice none 0 0) (.slice none 0 0))) ∧ Below w.heap.size w w'
    unfold mcells
    go_enter Try.func24, Try.ntmps24
    go_wp2
    exact bodyPost_ret (results_cell_row rfl _ _ (w.heap.size + 1) 27 _ (0, 0) _ rfl (blk_alloc (blk_here _ _ (by simp)) _) Try.underlying27 rfl size_msg) rfl ⟨rfl, below_alloc (below_alloc (below_alloc (Below.refl _ _) _) _) _⟩
  by_cases h2 : kd = 2
  · subst h2
    show Calls _ _ _ w fun e w' => e = .returned (.agg (mcells ⟨2, fr, tt, tm, 0, 0, 0, ys, [], 0, 0, [], ⟨#[]⟩⟩ (.slice none 0 0) (.slice none 0 0))) ∧ Below w.heap.size w w'
    unfold mcells
    go_enter Try.func24, Try.ntmps24
    go_wp2
    exact bodyPost_ret (results_cell_row rfl _ _ (w.heap.size + 1) 27 _ (0, 0) _ rfl (blk_alloc (blk_here _ _ (by simp)) _) Try.underlying27 rfl size_msg) rfl ⟨rfl, below_alloc (below_alloc (below_alloc (Below.refl _ _) _) _) _⟩
  by_cases h3 : kd = 3
  · subst h3
    show Calls _ _ _ w fun e w' => e = .returned (.agg (mcells ⟨3, fr, tt, tm, ix, lt, cm, false, es, 0, 0, [], ⟨#[]⟩⟩ (.slice A8 n8 c8) (.slice none 0 0))) ∧ Below w.heap.size w w'
    unfold mcells
    go_enter Try.func24, Try.ntmps24
    go_wp2
    exact bodyPost_ret (results_cell_row rfl _ _ (w.heap.size + 1) 27 _ (0, 0) _ rfl (blk_alloc (blk_here _ _ (by simp)) _) Try.underlying27 rfl size_msg) rfl ⟨rfl, below_alloc (below_alloc (below_alloc (Below.refl _ _) _) _) _⟩
  by_cases h4 : kd = 4
  · subst h4
    show Calls _ _ _ w fun e w' => e = .returned (.agg (mcells ⟨4, fr, tt, tm, ix, 0, 0, ys, [], 0, 0, [], ⟨#[]⟩⟩ (.slice none 0 0) (.slice none 0 0))) ∧ Below w.heap.size w w'
    unfold mcells
    go_enter Try.func24, Try.ntmps24
    go_wp2
    exact bodyPost_ret (results_cell_row rfl _ _ (w.heap.size + 1) 27 _ (0, 0) _ rfl (blk_alloc (blk_here _ _ (by simp)) _) Try.underlying27 rfl size_msg) rfl ⟨rfl, below_alloc (below_alloc (below_alloc (Below.refl _ _) _) _) _⟩
  by_cases h5 : kd = 5
  · subst h5
    show Calls _ _ _ w fun e w' => e = .returned (.agg (mcells ⟨5, fr, tt, tm, 0, 0, 0, false, [], si, st, sm, sd⟩ (.slice none 0 0) (.slice A11 n11 c11))) ∧ Below w.heap.size w w'
    unfold mcells
    go_enter Try.func24, Try.ntmps24
    go_wp2
    exact bodyPost_ret (results_cell_row rfl _ _ (w.heap.size + 1) 27 _ (0, 0) _ rfl (blk_alloc (blk_here _ _ (by simp)) _) Try.underlying27 rfl size_msg) rfl ⟨rfl, below_alloc (below_alloc (below_alloc (Below.refl _ _) _) _) _⟩
  have h1' : (kd == 1) = false := by simpa using h1
  have h2' : (kd == 2) = false := by simpa using h2
  have h3' : (kd == 3) = false := by simpa using h3
  have h4' : (kd == 4) = false := by simpa using h4
  have h5' : (kd == 5) = false := by simpa using h5
  have ho : onlyM ⟨kd, fr, tt, tm, ix, lt, cm, ys, es, si, st, sm, sd⟩ = ⟨kd, fr, tt, tm, 0, 0, 0, false, [], 0, 0, [], ⟨#[]⟩⟩ := by simp only [onlyM, if_neg h1, if_neg h2, if_neg h3, if_neg h4, if_neg h5]
  rw [ho]; simp only [if_neg h3, if_neg h5]
  show Calls _ _ _ w fun e w' => e = .returned (.agg (mcells ⟨kd, fr, tt, tm, 0, 0, 0, false, [], 0, 0, [], ⟨#[]⟩⟩ (.slice none 0 0) (.slice none 0 0))) ∧ Below w.heap.size w w'
  unfold mcells
  go_enter Try.func24, Try.ntmps24
  go_wp2
  exact bodyPost_ret (results_cell_row rfl _ _ (w.heap.size + 1) 27 _ (0, 0) _ rfl (blk_alloc (blk_here _ _ (by simp)) _) Try.underlying27 rfl size_msg) rfl ⟨rfl, below_alloc (below_alloc (below_alloc (Below.refl _ _) _) _) _⟩
end Go.Proofs.Ytbemfgpdfacdpaa.Ms
namespace Go.Proofs.Ytbemfgpdfacdpaa.Ms
open Go.RowKit Go.Proofs.Ytbemfgpdfacdpaa.Pr Go.Proofs.YtbemfgpdfacdpaaW.PrintWords Go.Proofs.YtbemfgpdfacdpaaW.PrintLast Go.Proofs.YtbemfgpdfacdpaaW.PrintMore
set_option linter.unusedVariables false
set_option linter.unusedSimpArgs false
theorem ints_self (l : List Int) (k : Nat) (h : l.length ≤ 20000) (hk : 20001 < k) : parapetref6_SameInts.f k l l = some true := by
  rw [parapetref6_SameInts.f, if_pos rfl]
  exact ints_same_l l (by omega) l.length 0 k (by omega) (by omega)
theorem ents_self_l (l : List S46) (hl : l.length ≤ 20) (h9 : ∀ e ∈ l, e.f4.length ≤ 20000) : ∀ (m i k : Nat), i + m = l.length → 20002 + m < k → parapetref6_SameEntries.l0 k l l i = some true
  | 0, i, k + 1, h, _ => by rw [parapetref6_SameEntries.l0, if_neg (by omega)]
  | m + 1, i, k + 1, h, hk => by
    have hm : rd_T46 l (i : Int) ∈ l := by
      have : rd_T46 l (i : Int) = l[i]'(by omega) := by
        have hi : i < l.length := by omega
        simp [rd_T46, hi]
      rw [this]
      exact List.getElem_mem _
    rw [parapetref6_SameEntries.l0, if_pos (by omega), if_pos (by omega), if_pos (by omega), if_pos rfl, if_pos rfl, if_pos rfl, if_pos rfl, ints_self _ k (h9 _ hm) (by omega), Option.bind_some, if_pos rfl, show wrap64 ((i : Int) + 1) = ((i + 1 : Nat) : Int) by unfold wrap64; omega]
    exact ents_self_l l hl h9 m (i + 1) k (by omega) (by omega)
theorem ents_self (l : List S46) (hl : l.length ≤ 20) (h9 : ∀ e ∈ l, e.f4.length ≤ 20000) : parapetref6_SameEntries.f 30000 l l = some true := by
  rw [parapetref6_SameEntries.f, if_pos rfl]
  exact ents_self_l l hl h9 l.length 0 30000 (by omega) (by omega)
theorem same_gen (a b : M13) (he : a.es = b.es ∨ a.es = []) (hs : a.sm = b.sm ∨ a.sm = []) (hl : b.es.length ≤ 20) (h9 : ∀ e ∈ b.es, e.f4.length ≤ 20000) (hm : b.sm.length ≤ 20) :
    ∃ r, parapetref6_SameMsg.f 30000 a.kd a.fr a.tt a.tm a.ix a.lt a.cm a.ys a.es a.si a.st a.sm a.sd b.kd b.fr b.tt b.tm b.ix b.lt b.cm b.ys b.es b.si b.st b.sm b.sd = some r ∧ (r = true ↔ a = b) := by
  have hE : ∃ r, parapetref6_SameEntries.f 30000 a.es b.es = some r ∧ (r = true ↔ a.es = b.es) := by
    rcases he with he | he
    · rw [he]; exact ⟨true, ents_self _ hl h9, by simp⟩
    · rw [he]
      cases hb : b.es with
      | nil => exact ⟨true, ents_self [] (by simp) (fun e h => by cases h), by simp⟩
      | cons e es => exact ⟨false, by rw [parapetref6_SameEntries.f, if_neg (by simp; omega)], by simp⟩
  have hS : ∃ r, parapetref6_SameInts.f 30000 a.sm b.sm = some r ∧ (r = true ↔ a.sm = b.sm) := by
    rcases hs with hs | hs
    · rw [hs]; exact ⟨true, ints_self _ 30000 (by omega) (by decide), by simp⟩
    · rw [hs]
      cases hb : b.sm with
      | nil => exact ⟨true, ints_self [] 30000 (by simp) (by decide), by simp⟩
      | cons e es => exact ⟨false, by rw [parapetref6_SameInts.f, if_neg (by simp; omega)], by simp⟩
  obtain ⟨r1, e1, q1⟩ := hE
  obtain ⟨r2, e2, q2⟩ := hS
  have hext : a = b ↔ (a.kd = b.kd ∧ a.fr = b.fr ∧ a.tt = b.tt ∧ a.tm = b.tm ∧ a.ix = b.ix ∧ a.lt = b.lt ∧ a.cm = b.cm ∧ a.ys = b.ys ∧ a.es = b.es ∧ a.si = b.si ∧ a.st = b.st ∧ a.sm = b.sm ∧ a.sd = b.sd) := by
    constructor
    · rintro rfl; exact ⟨rfl, rfl, rfl, rfl, rfl, rfl, rfl, rfl, rfl, rfl, rfl, rfl, rfl⟩
    · clear q1 q2 e1 e2 he hs hl h9 hm
      rintro ⟨k0, k1, k2, k3, k4, k5, k6, k7, k8, k9, k10, k11, k12⟩
      cases a; cases b
      simp only at k0 k1 k2 k3 k4 k5 k6 k7 k8 k9 k10 k11 k12
      subst k0 k1 k2 k3 k4 k5 k6 k7 k8 k9 k10 k11 k12
      rfl
  rw [parapetref6_SameMsg.f, hext]
  by_cases h0 : a.kd = b.kd
  · rw [if_pos h0]
    by_cases h1 : a.fr = b.fr
    · rw [if_pos h1]
      by_cases h2 : a.tt = b.tt
      · rw [if_pos h2]
        by_cases h3 : a.tm = b.tm
        · rw [if_pos h3]
          by_cases h4 : a.ix = b.ix
          · rw [if_pos h4]
            by_cases h5 : a.lt = b.lt
            · rw [if_pos h5]
              by_cases h6 : a.cm = b.cm
              · rw [if_pos h6]
                by_cases h7 : a.ys = b.ys
                · rw [if_pos (by simp [h7]), e1, Option.bind_some]
                  cases r1
                  · rw [if_neg (by decide)]
                    exact ⟨false, rfl, by constructor; · simp
                                          · rintro ⟨_, _, _, _, _, _, _, _, h, _⟩; exact absurd (q1.2 h) (by decide)⟩
                  · rw [if_pos rfl, parapetref6_SameSnap.f]
                    have q1' := q1.1 rfl
                    by_cases h8 : a.si = b.si
                    · rw [if_pos h8]
                      by_cases h9 : a.st = b.st
                      · rw [if_pos h9]
                        by_cases h10 : a.sd.toList = b.sd.toList
                        · rw [if_pos h10, e2]
                          have h10' := bytes_toList.1 h10
                          exact ⟨r2, rfl, by rw [q2]; constructor
                                             · intro h; exact ⟨h0, h1, h2, h3, h4, h5, h6, h7, q1', h8, h9, h, h10'⟩
                                             · rintro ⟨_, _, _, _, _, _, _, _, _, _, _, h, _⟩; exact h⟩
                        · rw [if_neg h10]
                          exact ⟨false, rfl, by constructor; · simp
                                                · rintro ⟨_, _, _, _, _, _, _, _, _, _, _, _, h⟩; exact absurd (bytes_toList.2 h) h10⟩
                      · rw [if_neg h9]
                        exact ⟨false, rfl, by constructor; · simp
                                              · rintro ⟨_, _, _, _, _, _, _, _, _, _, h, _⟩; exact absurd h h9⟩
                    · rw [if_neg h8]
                      exact ⟨false, rfl, by constructor; · simp
                                            · rintro ⟨_, _, _, _, _, _, _, _, _, h, _⟩; exact absurd h h8⟩
                · rw [if_neg (by simpa using h7)]
                  exact ⟨false, rfl, by constructor; · simp
                                        · rintro ⟨_, _, _, _, _, _, _, h, _⟩; exact absurd h h7⟩
              · rw [if_neg h6]; exact ⟨false, rfl, by simp [h6]⟩
            · rw [if_neg h5]; exact ⟨false, rfl, by simp [h5]⟩
          · rw [if_neg h4]; exact ⟨false, rfl, by simp [h4]⟩
        · rw [if_neg h3]; exact ⟨false, rfl, by simp [h3]⟩
      · rw [if_neg h2]; exact ⟨false, rfl, by simp [h2]⟩
    · rw [if_neg h1]; exact ⟨false, rfl, by simp [h1]⟩
  · rw [if_neg h0]; exact ⟨false, rfl, by simp [h0]⟩
end Go.Proofs.Ytbemfgpdfacdpaa.Ms
namespace Go.Proofs.Ytbemfgpdfacdpaa.Ms
open Go.RowKit Go.Proofs.Ytbemfgpdfacdpaa.Pr Go.Proofs.YtbemfgpdfacdpaaW.PrintWords Go.Proofs.YtbemfgpdfacdpaaW.PrintLast Go.Proofs.YtbemfgpdfacdpaaW.PrintMore
set_option linter.unusedVariables false
set_option linter.unusedSimpArgs false
theorem shr_byte (v : Int) (j : Nat) (hj : j ≤ 7) : (shr .u64 (IntKind.u64.wrap v) (8 * (j : Int))) % 256 = (v % 18446744073709551616 / 256 ^ j) % 256 := by
  have e2 : IntKind.u64.wrap v = v % 18446744073709551616 := by simp [IntKind.wrap, IntKind.signed, IntKind.bits]
  rw [e2, shr, show min (8 * (j : Int)).toNat IntKind.u64.bits = 8 * j by rw [show (8 * (j : Int)).toNat = 8 * j by omega, show IntKind.u64.bits = 64 from rfl]; omega, Int.pow_mul]
  rfl
theorem lay_l (v : Int) : ∀ (j k : Nat) (l : List Int), j ≤ 8 → j < k → l.length + j ≤ 140737488355328 → parapetref1_Lay.l0 k l (IntKind.u64.wrap v) ((j : Int) - 1) = some (l ++ wnum v j)
  | 0, k + 1, l, _, _, _ => by rw [parapetref1_Lay.l0, if_neg (by omega), wnum, List.append_nil]
  | j + 1, k + 1, l, hj, hk, hl => by
    have e1 : wrap64 (8 * (((j + 1 : Nat) : Int) - 1)) = 8 * (j : Int) := by unfold wrap64; omega
    have e2 : wrap64 ((((j + 1 : Nat) : Int) - 1) - 1) = (j : Int) - 1 := by unfold wrap64; omega
    rw [parapetref1_Lay.l0, if_pos (by omega), e1, if_pos (by omega), if_pos (by omega), e2, shr_byte v j (by omega), lay_l v j k _ (by omega) (by omega) (by rw [List.length_append, List.length_singleton]; omega), wnum, List.append_assoc]
    rfl
theorem lay_f (v : Int) (n k : Nat) (l : List Int) (hn : n ≤ 8) (hk : 8 < k) (hl : l.length + 8 ≤ 140737488355328) : parapetref1_Lay.f k l n (IntKind.u64.wrap v) = some (l ++ wnum v n) := by
  rw [parapetref1_Lay.f, show wrap64 ((n : Int) - 1) = (n : Int) - 1 by unfold wrap64; omega]
  exact lay_l v n k l hn (by omega) (by omega)
theorem rints_l (vs : List Int) (hv : vs.length ≤ 1000000) : ∀ (m i k : Nat) (l : List Int), i + m = vs.length → 9 + m < k → l.length + 8 * m + 8 ≤ 140737488355328 → parapetref6_ints.l0 k l vs i = some (l ++ wints (vs.drop i))
  | 0, i, k + 1, l, h, _, _ => by rw [parapetref6_ints.l0, if_neg (by omega), List.drop_eq_nil_of_le (by omega)]; simp [wints]
  | m + 1, i, k + 1, l, h, hk, hl => by
    have hi : i < vs.length := by omega
    have e : rd vs (i : Int) = vs[i] := by simp [rd, hi]
    rw [parapetref6_ints.l0, if_pos (by omega), if_pos (by omega), show (8 : Int) = ((8 : Nat) : Int) from rfl, lay_f _ 8 k l (by decide) (by omega) (by omega), Option.bind_some, show wrap64 ((i : Int) + 1) = ((i + 1 : Nat) : Int) by unfold wrap64; omega,
      rints_l vs hv m (i + 1) k _ (by omega) (by omega) (by rw [List.length_append, wnum_length]; omega), e, List.drop_eq_getElem_cons hi, wints, wints, List.flatMap_cons, List.append_assoc]
theorem rints_f (vs l : List Int) (k : Nat) (hv : vs.length ≤ 1000000) (hk : 9 + vs.length < k) (hl : l.length ≤ 1000000) : parapetref6_ints.f k l vs = some (l ++ wmem vs) := by
  rw [parapetref6_ints.f, if_pos (by omega)]
  have := rints_l vs hv vs.length 0 k (l ++ [((vs.length : Int)) % 256]) (by omega) hk (by rw [List.length_append, List.length_singleton]; omega)
  rw [List.drop_zero] at this
  refine this.trans ?_
  rw [wmem, ← List.append_assoc]
  have e : wnum (vs.length : Int) 1 = [(vs.length : Int) % 256] := by
    simp only [wnum, Int.pow_zero, Int.ediv_one]
    rw [Int.emod_eq_of_lt (b := 18446744073709551616) (by omega) (by omega)]
  rw [e]
/-- A row of bytes of the call's own, at or above B. -/
abbrev RB (w0 w : World) (B : Nat) (v : Value) (l : List Int) : Prop := (Kd.int .u8).R 5 w w0.heap.size (fun k => B ≤ k) v l
/-- What stays: what is elder than B, and what is no row of bytes. -/
structure LK (w w' : World) (B : Nat) : Prop where
  size : w.heap.size ≤ w'.heap.size
  block : ∀ k, k < w.heap.size → (k < B ∨ ∃ cs t fr, w.heap[k]? = some (.cells cs t fr) ∧ t ≠ 5) → w'.heap[k]? = w.heap[k]?
theorem LK.refl (w : World) (B : Nat) : LK w w B := ⟨Nat.le_refl _, fun _ _ _ => rfl⟩
theorem LK.trans {w w1 w2 : World} {B : Nat} (h : LK w w1 B) (k : LK w1 w2 B) : LK w w2 B :=
  ⟨Nat.le_trans h.size k.size, fun i hi hc => by
    have h1 := h.block i hi hc
    refine (k.block i (Nat.lt_of_lt_of_le hi h.size) ?_).trans h1
    rcases hc with hc | ⟨cs, t, fr, h2, h3⟩
    · exact .inl hc
    · exact .inr ⟨cs, t, fr, h1.trans h2, h3⟩⟩
theorem LK.of_below {w w' : World} {B : Nat} (h : Below w.heap.size w w') : LK w w' B := ⟨h.size, fun i hi _ => h.block i hi⟩
theorem LK.blk {w w' : World} {B k : Nat} {cs : Array Value} {t : TypeId} {fr : Nat × Nat} (h : LK w w' B) (hk : w.heap[k]? = some (.cells cs t fr)) (ht : t ≠ 5) : w'.heap[k]? = some (.cells cs t fr) :=
  (h.block k (blk_lt hk) (.inr ⟨cs, t, fr, hk, ht⟩)).trans hk
theorem LK.of_row {w w' : World} {B base n size : Nat} {v : Value} {xs : List Value} (ho : w.ownsRow base 5 size v n xs) (hB : ∀ k, v.ownBlock = some k → B ≤ k) (hs : w.heap.size ≤ w'.heap.size) (hk : ∀ i, i < w.heap.size → ¬ (some i = v.ownBlock) → w'.heap[i]? = w.heap[i]?) : LK w w' B :=
  ⟨hs, fun i hi hc => hk i hi (fun he => by
    have h1 := hB i he.symm
    obtain ⟨cells, h2⟩ := own_typed ho i he.symm
    rcases hc with hc | ⟨cs, t, fr, h3, h4⟩
    · omega
    · rw [h2] at h3; cases h3; exact h4 rfl)⟩
def LayQ (w0 w : World) (B : Nat) (l : List Int) (e : Ending) (w' : World) : Prop :=
  ∃ v', e = .returned v' ∧ RB w0 w' B v' l ∧ Below w0.heap.size w0 w' ∧ LK w w' B
theorem lay_calls (w0 w : World) (B : Nat) (v : Value) (l : List Int) (x : Int) (n : Nat) (hR : RB w0 w B v l) (hB : Below w0.heap.size w0 w) (hBw : B ≤ w.heap.size) (hn : n ≤ 8) (hl : l.length ≤ 1000000) :
    Calls Try.prog 26 #[v, .int .i64 n, .int .u64 (IntKind.u64.wrap x)] w (LayQ w0 w B (l ++ wnum x n)) := by
  refine (parapetref1_Lay.calls 9 (fun k => some k = v.ownBlock) v l n (IntKind.u64.wrap x) (l ++ wnum x n) w0 w hB (Kd.R_tight rfl hR) (lay_f x n 9 l hn (by decide) (by omega))).mono ?_
  rintro e w' ⟨v', rfl, h1, h2, h3⟩
  obtain ⟨_, ho⟩ := Kd.R_own hR
  exact ⟨v', rfl, Kd.R_mono h1 (fun k hk => hk.elim (fun h => hR.1 k h.symm) (fun h => Nat.le_trans hBw h)), h2, LK.of_row ho hR.1 h3.1 h3.2⟩
theorem rints_calls' (w0 w : World) (B : Nat) (v : Value) (l vs : List Int) (A : Option Addr) (n c : Nat) (hR : RB w0 w B v l) (hB : Below w0.heap.size w0 w) (hBw : B ≤ w.heap.size) (h0 : w0.heap.size ≤ B) (hC : (Kd.int .i64).C w0 A vs.length vs) (hn : n = vs.length) (hc : n ≤ c) (hv : vs.length ≤ 1000000) (hl : l.length ≤ 1000000) :
    Calls Try.prog 27 #[v, .slice A n c] w (LayQ w0 w B (l ++ wmem vs)) := by
  subst hn
  refine (parapetref6_ints.calls (10 + vs.length) (fun k => some k = v.ownBlock) v l A c vs (l ++ wmem vs) w0 w hB (Kd.R_tight rfl hR) (fun W hk => ?_) hc (rints_f vs l _ hv (by omega) hl)).mono ?_
  · exact Kd.C_kept_came (Kd.heap_int _) hC hB (fun k hk => Nat.le_trans h0 (hR.1 k hk.symm)) W hk
  · rintro e w' ⟨v', rfl, h1, h2, h3⟩
    obtain ⟨_, ho⟩ := Kd.R_own hR
    exact ⟨v', rfl, Kd.R_mono h1 (fun k hk => hk.elim (fun h => hR.1 k h.symm) (fun h => Nat.le_trans hBw h)), h2, LK.of_row ho hR.1 h3.1 h3.2⟩
set_option maxHeartbeats 1000000 in
set_option maxRecDepth 100000 in
theorem reftext_calls (w0 w : World) (B : Nat) (v : Value) (l : List Int) (s : ByteArray) (hR : RB w0 w B v l) (hB : Below w0.heap.size w0 w) (hBw : B ≤ w.heap.size) (h0 : w0.heap.size ≤ B) (hs : s.size ≤ 1000000) (hl : l.length ≤ 1000000) :
    Calls Try.prog 28 #[v, .string s] w (LayQ w0 w B (l ++ wtext s)) := by
  obtain ⟨A, c, ev⟩ := Kd.R_slice hR
  obtain ⟨n, hn⟩ : ∃ n, n = l.length := ⟨_, rfl⟩
  rw [← hn] at ev
  subst ev
  have HR := Aside0.mk hR
  have HB := Aside0.mk hB
  have HBW := Aside0.mk hBw
  have H0 := Aside0.mk h0
  have HL := Aside0.mk hl
  have HS := Aside0.mk hs
  clear hR hB hBw h0 hl hs hn
  go_enter Try.func28, Try.ntmps28
  go_wp2_with fail
  refine (lay_calls w0 w B _ l s.size 4 HR.out HB.out HBW.out (by decide) HL.out).mono ?_
  rintro e w1 ⟨v1, rfl, hR1, hB1, hK1⟩
  have HR1 := Aside0.mk hR1
  have HB1 := Aside0.mk hB1
  have HK1 := Aside0.mk hK1
  have ho : w1.ownsRow w0.heap.size 5 1 v1 (l ++ wnum s.size 4).length (nums .u8 (l ++ wnum s.size 4)) := Kd.own_of_R hR1
  have HO := Aside0.mk (Kd.own_raise ho hR1.1)
  have HSZ : Aside0 (B ≤ w1.heap.size) := ⟨Nat.le_trans HBW.out hK1.size⟩
  clear hR1 hB1 hK1 ho
  go_wp2_with (at_builtin; refine print_append_str (w0 := w1) B rfl (.tmp 9) (.tmp 10) 30 9 5 rfl Try.underlying30 Try.underlying9 infoB v1 (l ++ wnum s.size 4) s rfl rfl HO.out (Below.refl _ _) HSZ.out (by rw [List.length_append, wnum_length]; have := HL.out; have := HS.out; omega) ?_)
  intro v2 w2 ho2 hb2 hg2
  have fin : LayQ w0 w B (l ++ wtext s) (.returned v2) w2 := by
    refine ⟨v2, rfl, ?_, HB1.out.trans (hb2.mono H0.out), HK1.out.trans (LK.of_row HO.out (fun k hk => own_base HO.out k hk) hg2.size (fun i hi hn => hg2.block i hi hn))⟩
    have ho3 : w2.ownsRow B 5 1 v2 (l ++ (wnum s.size 4 ++ bytesOf s)).length (nums .u8 (l ++ (wnum s.size 4 ++ bytesOf s))) := by simpa using ho2
    exact Kd.R_of_own (own_weaken ho3 H0.out) (fun k hk => own_base ho3 k hk)
  have FIN := Aside0.mk fin
  clear fin ho2 hb2 hg2
  go_wp2
  go_ret
  exact FIN.out
end Go.Proofs.Ytbemfgpdfacdpaa.Ms
namespace Go.Proofs.Ytbemfgpdfacdpaa.Ms
open Go.RowKit Go.Proofs.Ytbemfgpdfacdpaa.Pr Go.Proofs.YtbemfgpdfacdpaaW.PrintWords Go.Proofs.YtbemfgpdfacdpaaW.PrintLast Go.Proofs.YtbemfgpdfacdpaaW.PrintMore
open Go.Proofs.Ytbemfgpdfacdpaa.QT (OwnAt)
set_option linter.unusedVariables false
set_option linter.unusedSimpArgs false
set_option maxHeartbeats 16000000 in
set_option maxRecDepth 100000 in
theorem refenc_bad0 (kd fr tt tm ix lt cm : Int) (ys : Bool) (es : List S46) (si st : Int) (sm : List Int) (sd : ByteArray) (A8 : Option Addr) (n8 c8 : Nat) (A11 : Option Addr) (n11 c11 : Nat) (w : World) (l0 : decide (kd < 1) = true) :
    Calls Try.prog 11 #[.agg (mcells ⟨kd, fr, tt, tm, ix, lt, cm, ys, es, si, st, sm, sd⟩ (.slice A8 n8 c8) (.slice A11 n11 c11))] w (EncQ w none) := by
  unfold mcells
  go_enter Try.func11, Try.ntmps11
  go_upto_region 2 with (fail)
  go_quiet (fail)
  go_wp2
  exact bodyPost_ret (v := .tuple #[.slice none 0 0, .int .i64 1]) (by simp [results, Try.results11, go_sem]) rfl (encQ_none (by repeat (first | exact Below.refl _ _ | apply pw_below_drewN | apply below_alloc)))
set_option maxHeartbeats 16000000 in
set_option maxRecDepth 100000 in
theorem refenc_bad1 (kd fr tt tm ix lt cm : Int) (ys : Bool) (es : List S46) (si st : Int) (sm : List Int) (sd : ByteArray) (A8 : Option Addr) (n8 c8 : Nat) (A11 : Option Addr) (n11 c11 : Nat) (w : World) (l0 : decide (kd < 1) = false) (l1 : decide (5 < kd) = true) :
    Calls Try.prog 11 #[.agg (mcells ⟨kd, fr, tt, tm, ix, lt, cm, ys, es, si, st, sm, sd⟩ (.slice A8 n8 c8) (.slice A11 n11 c11))] w (EncQ w none) := by
  unfold mcells
  go_enter Try.func11, Try.ntmps11
  go_upto_region 2 with (fail)
  go_quiet (fail)
  go_wp2
  exact bodyPost_ret (v := .tuple #[.slice none 0 0, .int .i64 1]) (by simp [results, Try.results11, go_sem]) rfl (encQ_none (by repeat (first | exact Below.refl _ _ | apply pw_below_drewN | apply below_alloc)))
set_option maxHeartbeats 16000000 in
set_option maxRecDepth 100000 in
theorem refenc_bad2 (kd fr tt tm ix lt cm : Int) (ys : Bool) (es : List S46) (si st : Int) (sm : List Int) (sd : ByteArray) (A8 : Option Addr) (n8 c8 : Nat) (A11 : Option Addr) (n11 c11 : Nat) (w : World) (l0 : decide (kd < 1) = false) (l1 : decide (5 < kd) = false) (l2 : decide (fr < 1) = true) :
    Calls Try.prog 11 #[.agg (mcells ⟨kd, fr, tt, tm, ix, lt, cm, ys, es, si, st, sm, sd⟩ (.slice A8 n8 c8) (.slice A11 n11 c11))] w (EncQ w none) := by
  unfold mcells
  go_enter Try.func11, Try.ntmps11
  go_upto_region 2 with (fail)
  go_quiet (fail)
  go_wp2
  exact bodyPost_ret (v := .tuple #[.slice none 0 0, .int .i64 1]) (by simp [results, Try.results11, go_sem]) rfl (encQ_none (by repeat (first | exact Below.refl _ _ | apply pw_below_drewN | apply below_alloc)))
set_option maxHeartbeats 16000000 in
set_option maxRecDepth 100000 in
theorem refenc_bad3 (kd fr tt tm ix lt cm : Int) (ys : Bool) (es : List S46) (si st : Int) (sm : List Int) (sd : ByteArray) (A8 : Option Addr) (n8 c8 : Nat) (A11 : Option Addr) (n11 c11 : Nat) (w : World) (l0 : decide (kd < 1) = false) (l1 : decide (5 < kd) = false) (l2 : decide (fr < 1) = false) (l3 : decide (9 < fr) = true) :
    Calls Try.prog 11 #[.agg (mcells ⟨kd, fr, tt, tm, ix, lt, cm, ys, es, si, st, sm, sd⟩ (.slice A8 n8 c8) (.slice A11 n11 c11))] w (EncQ w none) := by
  unfold mcells
  go_enter Try.func11, Try.ntmps11
  go_upto_region 2 with (fail)
  go_quiet (fail)
  go_wp2
  exact bodyPost_ret (v := .tuple #[.slice none 0 0, .int .i64 1]) (by simp [results, Try.results11, go_sem]) rfl (encQ_none (by repeat (first | exact Below.refl _ _ | apply pw_below_drewN | apply below_alloc)))
end Go.Proofs.Ytbemfgpdfacdpaa.Ms
namespace Go.Proofs.Ytbemfgpdfacdpaa.Ms
open Go.RowKit Go.Proofs.Ytbemfgpdfacdpaa.Pr Go.Proofs.YtbemfgpdfacdpaaW.PrintWords Go.Proofs.YtbemfgpdfacdpaaW.PrintLast Go.Proofs.YtbemfgpdfacdpaaW.PrintMore
open Go.Proofs.Ytbemfgpdfacdpaa.QT (OwnAt)
set_option linter.unusedVariables false
set_option linter.unusedSimpArgs false
set_option maxHeartbeats 16000000 in
set_option maxRecDepth 100000 in
theorem refenc_bad4 (kd fr tt tm ix lt cm : Int) (ys : Bool) (es : List S46) (si st : Int) (sm : List Int) (sd : ByteArray) (A8 : Option Addr) (n8 c8 : Nat) (A11 : Option Addr) (n11 c11 : Nat) (w : World) (l0 : decide (kd < 1) = false) (l1 : decide (5 < kd) = false) (l2 : decide (fr < 1) = false) (l3 : decide (9 < fr) = false) (l4 : decide (tt < 1) = true) :
    Calls Try.prog 11 #[.agg (mcells ⟨kd, fr, tt, tm, ix, lt, cm, ys, es, si, st, sm, sd⟩ (.slice A8 n8 c8) (.slice A11 n11 c11))] w (EncQ w none) := by
  unfold mcells
  go_enter Try.func11, Try.ntmps11
  go_upto_region 2 with (fail)
  go_quiet (fail)
  go_wp2
  exact bodyPost_ret (v := .tuple #[.slice none 0 0, .int .i64 1]) (by simp [results, Try.results11, go_sem]) rfl (encQ_none (by repeat (first | exact Below.refl _ _ | apply pw_below_drewN | apply below_alloc)))
set_option maxHeartbeats 16000000 in
set_option maxRecDepth 100000 in
theorem refenc_bad5 (kd fr tt tm ix lt cm : Int) (ys : Bool) (es : List S46) (si st : Int) (sm : List Int) (sd : ByteArray) (A8 : Option Addr) (n8 c8 : Nat) (A11 : Option Addr) (n11 c11 : Nat) (w : World) (l0 : decide (kd < 1) = false) (l1 : decide (5 < kd) = false) (l2 : decide (fr < 1) = false) (l3 : decide (9 < fr) = false) (l4 : decide (tt < 1) = false) (l5 : decide (9 < tt) = true) :
    Calls Try.prog 11 #[.agg (mcells ⟨kd, fr, tt, tm, ix, lt, cm, ys, es, si, st, sm, sd⟩ (.slice A8 n8 c8) (.slice A11 n11 c11))] w (EncQ w none) := by
  unfold mcells
  go_enter Try.func11, Try.ntmps11
  go_upto_region 2 with (fail)
  go_quiet (fail)
  go_wp2
  exact bodyPost_ret (v := .tuple #[.slice none 0 0, .int .i64 1]) (by simp [results, Try.results11, go_sem]) rfl (encQ_none (by repeat (first | exact Below.refl _ _ | apply pw_below_drewN | apply below_alloc)))
set_option maxHeartbeats 16000000 in
set_option maxRecDepth 100000 in
theorem refenc_bad6 (kd fr tt tm ix lt cm : Int) (ys : Bool) (es : List S46) (si st : Int) (sm : List Int) (sd : ByteArray) (A8 : Option Addr) (n8 c8 : Nat) (A11 : Option Addr) (n11 c11 : Nat) (w : World) (l0 : decide (kd < 1) = false) (l1 : decide (5 < kd) = false) (l2 : decide (fr < 1) = false) (l3 : decide (9 < fr) = false) (l4 : decide (tt < 1) = false) (l5 : decide (9 < tt) = false) (l6 : decide (tm < 0) = true) :
    Calls Try.prog 11 #[.agg (mcells ⟨kd, fr, tt, tm, ix, lt, cm, ys, es, si, st, sm, sd⟩ (.slice A8 n8 c8) (.slice A11 n11 c11))] w (EncQ w none) := by
  unfold mcells
  go_enter Try.func11, Try.ntmps11
  go_upto_region 2 with (fail)
  go_quiet (fail)
  go_wp2
  exact bodyPost_ret (v := .tuple #[.slice none 0 0, .int .i64 1]) (by simp [results, Try.results11, go_sem]) rfl (encQ_none (by repeat (first | exact Below.refl _ _ | apply pw_below_drewN | apply below_alloc)))
set_option maxHeartbeats 16000000 in
set_option maxRecDepth 100000 in
theorem refenc_bad7 (kd fr tt tm ix lt cm : Int) (ys : Bool) (es : List S46) (si st : Int) (sm : List Int) (sd : ByteArray) (A8 : Option Addr) (n8 c8 : Nat) (A11 : Option Addr) (n11 c11 : Nat) (w : World) (l0 : decide (kd < 1) = false) (l1 : decide (5 < kd) = false) (l2 : decide (fr < 1) = false) (l3 : decide (9 < fr) = false) (l4 : decide (tt < 1) = false) (l5 : decide (9 < tt) = false) (l6 : decide (tm < 0) = false) (l7 : decide (ix < 0) = true) :
    Calls Try.prog 11 #[.agg (mcells ⟨kd, fr, tt, tm, ix, lt, cm, ys, es, si, st, sm, sd⟩ (.slice A8 n8 c8) (.slice A11 n11 c11))] w (EncQ w none) := by
  unfold mcells
  go_enter Try.func11, Try.ntmps11
  go_upto_region 2 with (fail)
  go_quiet (fail)
  go_wp2
  exact bodyPost_ret (v := .tuple #[.slice none 0 0, .int .i64 1]) (by simp [results, Try.results11, go_sem]) rfl (encQ_none (by repeat (first | exact Below.refl _ _ | apply pw_below_drewN | apply below_alloc)))
end Go.Proofs.Ytbemfgpdfacdpaa.Ms
namespace Go.Proofs.Ytbemfgpdfacdpaa.Ms
open Go.RowKit Go.Proofs.Ytbemfgpdfacdpaa.Pr Go.Proofs.YtbemfgpdfacdpaaW.PrintWords Go.Proofs.YtbemfgpdfacdpaaW.PrintLast Go.Proofs.YtbemfgpdfacdpaaW.PrintMore
open Go.Proofs.Ytbemfgpdfacdpaa.QT (OwnAt)
set_option linter.unusedVariables false
set_option linter.unusedSimpArgs false
set_option maxHeartbeats 16000000 in
set_option maxRecDepth 100000 in
theorem refenc_bad8 (kd fr tt tm ix lt cm : Int) (ys : Bool) (es : List S46) (si st : Int) (sm : List Int) (sd : ByteArray) (A8 : Option Addr) (n8 c8 : Nat) (A11 : Option Addr) (n11 c11 : Nat) (w : World) (l0 : decide (kd < 1) = false) (l1 : decide (5 < kd) = false) (l2 : decide (fr < 1) = false) (l3 : decide (9 < fr) = false) (l4 : decide (tt < 1) = false) (l5 : decide (9 < tt) = false) (l6 : decide (tm < 0) = false) (l7 : decide (ix < 0) = false) (l8 : decide (lt < 0) = true) :
    Calls Try.prog 11 #[.agg (mcells ⟨kd, fr, tt, tm, ix, lt, cm, ys, es, si, st, sm, sd⟩ (.slice A8 n8 c8) (.slice A11 n11 c11))] w (EncQ w none) := by
  unfold mcells
  go_enter Try.func11, Try.ntmps11
  go_upto_region 2 with (fail)
  go_quiet (fail)
  go_wp2
  exact bodyPost_ret (v := .tuple #[.slice none 0 0, .int .i64 1]) (by simp [results, Try.results11, go_sem]) rfl (encQ_none (by repeat (first | exact Below.refl _ _ | apply pw_below_drewN | apply below_alloc)))
set_option maxHeartbeats 16000000 in
set_option maxRecDepth 100000 in
theorem refenc_bad9 (kd fr tt tm ix lt cm : Int) (ys : Bool) (es : List S46) (si st : Int) (sm : List Int) (sd : ByteArray) (A8 : Option Addr) (n8 c8 : Nat) (A11 : Option Addr) (n11 c11 : Nat) (w : World) (l0 : decide (kd < 1) = false) (l1 : decide (5 < kd) = false) (l2 : decide (fr < 1) = false) (l3 : decide (9 < fr) = false) (l4 : decide (tt < 1) = false) (l5 : decide (9 < tt) = false) (l6 : decide (tm < 0) = false) (l7 : decide (ix < 0) = false) (l8 : decide (lt < 0) = false) (l9 : decide (cm < 0) = true) :
    Calls Try.prog 11 #[.agg (mcells ⟨kd, fr, tt, tm, ix, lt, cm, ys, es, si, st, sm, sd⟩ (.slice A8 n8 c8) (.slice A11 n11 c11))] w (EncQ w none) := by
  unfold mcells
  go_enter Try.func11, Try.ntmps11
  go_upto_region 2 with (fail)
  go_quiet (fail)
  go_wp2
  exact bodyPost_ret (v := .tuple #[.slice none 0 0, .int .i64 1]) (by simp [results, Try.results11, go_sem]) rfl (encQ_none (by repeat (first | exact Below.refl _ _ | apply pw_below_drewN | apply below_alloc)))
set_option maxHeartbeats 16000000 in
set_option maxRecDepth 100000 in
theorem refenc_bad10 (kd fr tt tm ix lt cm : Int) (ys : Bool) (es : List S46) (si st : Int) (sm : List Int) (sd : ByteArray) (A8 : Option Addr) (n8 c8 : Nat) (A11 : Option Addr) (n11 c11 : Nat) (w : World) (l0 : decide (kd < 1) = false) (l1 : decide (5 < kd) = false) (l2 : decide (fr < 1) = false) (l3 : decide (9 < fr) = false) (l4 : decide (tt < 1) = false) (l5 : decide (9 < tt) = false) (l6 : decide (tm < 0) = false) (l7 : decide (ix < 0) = false) (l8 : decide (lt < 0) = false) (l9 : decide (cm < 0) = false) (l10 : decide ((8 : Int) < (n8 : Int)) = true) :
    Calls Try.prog 11 #[.agg (mcells ⟨kd, fr, tt, tm, ix, lt, cm, ys, es, si, st, sm, sd⟩ (.slice A8 n8 c8) (.slice A11 n11 c11))] w (EncQ w none) := by
  unfold mcells
  go_enter Try.func11, Try.ntmps11
  go_upto_region 2 with (fail)
  go_quiet (fail)
  go_wp2
  exact bodyPost_ret (v := .tuple #[.slice none 0 0, .int .i64 1]) (by simp [results, Try.results11, go_sem]) rfl (encQ_none (by repeat (first | exact Below.refl _ _ | apply pw_below_drewN | apply below_alloc)))
set_option maxHeartbeats 16000000 in
set_option maxRecDepth 100000 in
theorem refenc_bad11 (kd fr tt tm ix lt cm : Int) (ys : Bool) (es : List S46) (si st : Int) (sm : List Int) (sd : ByteArray) (A8 : Option Addr) (n8 c8 : Nat) (A11 : Option Addr) (n11 c11 : Nat) (w : World) (l0 : decide (kd < 1) = false) (l1 : decide (5 < kd) = false) (l2 : decide (fr < 1) = false) (l3 : decide (9 < fr) = false) (l4 : decide (tt < 1) = false) (l5 : decide (9 < tt) = false) (l6 : decide (tm < 0) = false) (l7 : decide (ix < 0) = false) (l8 : decide (lt < 0) = false) (l9 : decide (cm < 0) = false) (l10 : decide ((8 : Int) < (n8 : Int)) = false) (l11 : decide ((9 : Int) < (n11 : Int)) = true) :
    Calls Try.prog 11 #[.agg (mcells ⟨kd, fr, tt, tm, ix, lt, cm, ys, es, si, st, sm, sd⟩ (.slice A8 n8 c8) (.slice A11 n11 c11))] w (EncQ w none) := by
  unfold mcells
  go_enter Try.func11, Try.ntmps11
  go_upto_region 2 with (fail)
  go_quiet (fail)
  go_wp2
  exact bodyPost_ret (v := .tuple #[.slice none 0 0, .int .i64 1]) (by simp [results, Try.results11, go_sem]) rfl (encQ_none (by repeat (first | exact Below.refl _ _ | apply pw_below_drewN | apply below_alloc)))
end Go.Proofs.Ytbemfgpdfacdpaa.Ms
namespace Go.Proofs.Ytbemfgpdfacdpaa.Ms
open Go.RowKit Go.Proofs.Ytbemfgpdfacdpaa.Pr Go.Proofs.YtbemfgpdfacdpaaW.PrintWords Go.Proofs.YtbemfgpdfacdpaaW.PrintLast Go.Proofs.YtbemfgpdfacdpaaW.PrintMore
open Go.Proofs.Ytbemfgpdfacdpaa.QT (OwnAt)
set_option linter.unusedVariables false
set_option linter.unusedSimpArgs false
set_option maxHeartbeats 16000000 in
set_option maxRecDepth 100000 in
theorem refenc_bad12 (kd fr tt tm ix lt cm : Int) (ys : Bool) (es : List S46) (si st : Int) (sm : List Int) (sd : ByteArray) (A8 : Option Addr) (n8 c8 : Nat) (A11 : Option Addr) (n11 c11 : Nat) (w : World) (l0 : decide (kd < 1) = false) (l1 : decide (5 < kd) = false) (l2 : decide (fr < 1) = false) (l3 : decide (9 < fr) = false) (l4 : decide (tt < 1) = false) (l5 : decide (9 < tt) = false) (l6 : decide (tm < 0) = false) (l7 : decide (ix < 0) = false) (l8 : decide (lt < 0) = false) (l9 : decide (cm < 0) = false) (l10 : decide ((8 : Int) < (n8 : Int)) = false) (l11 : decide ((9 : Int) < (n11 : Int)) = false) (l12 : decide ((65536 : Int) < (sd.size : Int)) = true) :
    Calls Try.prog 11 #[.agg (mcells ⟨kd, fr, tt, tm, ix, lt, cm, ys, es, si, st, sm, sd⟩ (.slice A8 n8 c8) (.slice A11 n11 c11))] w (EncQ w none) := by
  unfold mcells
  go_enter Try.func11, Try.ntmps11
  go_upto_region 2 with (fail)
  go_quiet (fail)
  go_wp2
  exact bodyPost_ret (v := .tuple #[.slice none 0 0, .int .i64 1]) (by simp [results, Try.results11, go_sem]) rfl (encQ_none (by repeat (first | exact Below.refl _ _ | apply pw_below_drewN | apply below_alloc)))
set_option maxHeartbeats 16000000 in
set_option maxRecDepth 100000 in
theorem refenc_bad13 (kd fr tt tm ix lt cm : Int) (ys : Bool) (es : List S46) (si st : Int) (sm : List Int) (sd : ByteArray) (A8 : Option Addr) (n8 c8 : Nat) (A11 : Option Addr) (n11 c11 : Nat) (w : World) (l0 : decide (kd < 1) = false) (l1 : decide (5 < kd) = false) (l2 : decide (fr < 1) = false) (l3 : decide (9 < fr) = false) (l4 : decide (tt < 1) = false) (l5 : decide (9 < tt) = false) (l6 : decide (tm < 0) = false) (l7 : decide (ix < 0) = false) (l8 : decide (lt < 0) = false) (l9 : decide (cm < 0) = false) (l10 : decide ((8 : Int) < (n8 : Int)) = false) (l11 : decide ((9 : Int) < (n11 : Int)) = false) (l12 : decide ((65536 : Int) < (sd.size : Int)) = false) (l13 : decide (si < 0) = true) :
    Calls Try.prog 11 #[.agg (mcells ⟨kd, fr, tt, tm, ix, lt, cm, ys, es, si, st, sm, sd⟩ (.slice A8 n8 c8) (.slice A11 n11 c11))] w (EncQ w none) := by
  unfold mcells
  go_enter Try.func11, Try.ntmps11
  go_upto_region 2 with (fail)
  go_quiet (fail)
  go_wp2
  exact bodyPost_ret (v := .tuple #[.slice none 0 0, .int .i64 1]) (by simp [results, Try.results11, go_sem]) rfl (encQ_none (by repeat (first | exact Below.refl _ _ | apply pw_below_drewN | apply below_alloc)))
set_option maxHeartbeats 16000000 in
set_option maxRecDepth 100000 in
theorem refenc_bad14 (kd fr tt tm ix lt cm : Int) (ys : Bool) (es : List S46) (si st : Int) (sm : List Int) (sd : ByteArray) (A8 : Option Addr) (n8 c8 : Nat) (A11 : Option Addr) (n11 c11 : Nat) (w : World) (l0 : decide (kd < 1) = false) (l1 : decide (5 < kd) = false) (l2 : decide (fr < 1) = false) (l3 : decide (9 < fr) = false) (l4 : decide (tt < 1) = false) (l5 : decide (9 < tt) = false) (l6 : decide (tm < 0) = false) (l7 : decide (ix < 0) = false) (l8 : decide (lt < 0) = false) (l9 : decide (cm < 0) = false) (l10 : decide ((8 : Int) < (n8 : Int)) = false) (l11 : decide ((9 : Int) < (n11 : Int)) = false) (l12 : decide ((65536 : Int) < (sd.size : Int)) = false) (l13 : decide (si < 0) = false) (l14 : decide (st < 0) = true) :
    Calls Try.prog 11 #[.agg (mcells ⟨kd, fr, tt, tm, ix, lt, cm, ys, es, si, st, sm, sd⟩ (.slice A8 n8 c8) (.slice A11 n11 c11))] w (EncQ w none) := by
  unfold mcells
  go_enter Try.func11, Try.ntmps11
  go_upto_region 2 with (fail)
  go_quiet (fail)
  go_wp2
  exact bodyPost_ret (v := .tuple #[.slice none 0 0, .int .i64 1]) (by simp [results, Try.results11, go_sem]) rfl (encQ_none (by repeat (first | exact Below.refl _ _ | apply pw_below_drewN | apply below_alloc)))
end Go.Proofs.Ytbemfgpdfacdpaa.Ms
namespace Go.Proofs.Ytbemfgpdfacdpaa.Ms
open Go.RowKit Go.Proofs.Ytbemfgpdfacdpaa.Pr Go.Proofs.YtbemfgpdfacdpaaW.PrintWords Go.Proofs.YtbemfgpdfacdpaaW.PrintLast Go.Proofs.YtbemfgpdfacdpaaW.PrintMore
open Go.Proofs.Ytbemfgpdfacdpaa.QT (OwnAt)
set_option linter.unusedVariables false
set_option linter.unusedSimpArgs false
def bad1 (m : M13) : Prop := m.kd < 1 ∨ 5 < m.kd ∨ m.fr < 1 ∨ 9 < m.fr ∨ m.tt < 1 ∨ 9 < m.tt ∨ m.tm < 0 ∨ m.ix < 0 ∨ m.lt < 0 ∨ m.cm < 0 ∨ 8 < m.es.length ∨ 9 < m.sm.length ∨ 65536 < m.sd.size ∨ m.si < 0 ∨ m.st < 0
open Classical in
/-- What the reference writes. -/
noncomputable def refE (m : M13) : Option (List Int) := if bad1 m ∨ onlyM m ≠ m ∨ (∃ e ∈ m.es, oddE e = true) ∨ (∃ v ∈ m.sm, v < 0) then none else some (rawW m)
theorem refE_bad {m : M13} (h : bad1 m) : refE m = none := by rw [refE, if_pos (.inl h)]
theorem refenc_bad (m : M13) (A8 : Option Addr) (n8 c8 : Nat) (A11 : Option Addr) (n11 c11 : Nat) (w : World) (hE1 : n8 = m.es.length) (hS1 : n11 = m.sm.length) (hbad : bad1 m) :
    Calls Try.prog 11 #[.agg (mcells m (.slice A8 n8 c8) (.slice A11 n11 c11))] w (EncQ w none) := by
  obtain ⟨kd, fr, tt, tm, ix, lt, cm, ys, es, si, st, sm, sd⟩ := m
  by_cases h0 : kd < 1
  · exact refenc_bad0 kd fr tt tm ix lt cm ys es si st sm sd A8 n8 c8 A11 n11 c11 w  (decide_eq_true h0)
  by_cases h1 : 5 < kd
  · exact refenc_bad1 kd fr tt tm ix lt cm ys es si st sm sd A8 n8 c8 A11 n11 c11 w (decide_eq_false h0) (decide_eq_true h1)
  by_cases h2 : fr < 1
  · exact refenc_bad2 kd fr tt tm ix lt cm ys es si st sm sd A8 n8 c8 A11 n11 c11 w (decide_eq_false h0) (decide_eq_false h1) (decide_eq_true h2)
  by_cases h3 : 9 < fr
  · exact refenc_bad3 kd fr tt tm ix lt cm ys es si st sm sd A8 n8 c8 A11 n11 c11 w (decide_eq_false h0) (decide_eq_false h1) (decide_eq_false h2) (decide_eq_true h3)
  by_cases h4 : tt < 1
  · exact refenc_bad4 kd fr tt tm ix lt cm ys es si st sm sd A8 n8 c8 A11 n11 c11 w (decide_eq_false h0) (decide_eq_false h1) (decide_eq_false h2) (decide_eq_false h3) (decide_eq_true h4)
  by_cases h5 : 9 < tt
  · exact refenc_bad5 kd fr tt tm ix lt cm ys es si st sm sd A8 n8 c8 A11 n11 c11 w (decide_eq_false h0) (decide_eq_false h1) (decide_eq_false h2) (decide_eq_false h3) (decide_eq_false h4) (decide_eq_true h5)
  by_cases h6 : tm < 0
  · exact refenc_bad6 kd fr tt tm ix lt cm ys es si st sm sd A8 n8 c8 A11 n11 c11 w (decide_eq_false h0) (decide_eq_false h1) (decide_eq_false h2) (decide_eq_false h3) (decide_eq_false h4) (decide_eq_false h5) (decide_eq_true h6)
  by_cases h7 : ix < 0
  · exact refenc_bad7 kd fr tt tm ix lt cm ys es si st sm sd A8 n8 c8 A11 n11 c11 w (decide_eq_false h0) (decide_eq_false h1) (decide_eq_false h2) (decide_eq_false h3) (decide_eq_false h4) (decide_eq_false h5) (decide_eq_false h6) (decide_eq_true h7)
  by_cases h8 : lt < 0
  · exact refenc_bad8 kd fr tt tm ix lt cm ys es si st sm sd A8 n8 c8 A11 n11 c11 w (decide_eq_false h0) (decide_eq_false h1) (decide_eq_false h2) (decide_eq_false h3) (decide_eq_false h4) (decide_eq_false h5) (decide_eq_false h6) (decide_eq_false h7) (decide_eq_true h8)
  by_cases h9 : cm < 0
  · exact refenc_bad9 kd fr tt tm ix lt cm ys es si st sm sd A8 n8 c8 A11 n11 c11 w (decide_eq_false h0) (decide_eq_false h1) (decide_eq_false h2) (decide_eq_false h3) (decide_eq_false h4) (decide_eq_false h5) (decide_eq_false h6) (decide_eq_false h7) (decide_eq_false h8) (decide_eq_true h9)
  by_cases h10 : (8 : Int) < (n8 : Int)
  · exact refenc_bad10 kd fr tt tm ix lt cm ys es si st sm sd A8 n8 c8 A11 n11 c11 w (decide_eq_false h0) (decide_eq_false h1) (decide_eq_false h2) (decide_eq_false h3) (decide_eq_false h4) (decide_eq_false h5) (decide_eq_false h6) (decide_eq_false h7) (decide_eq_false h8) (decide_eq_false h9) (decide_eq_true h10)
  by_cases h11 : (9 : Int) < (n11 : Int)
  · exact refenc_bad11 kd fr tt tm ix lt cm ys es si st sm sd A8 n8 c8 A11 n11 c11 w (decide_eq_false h0) (decide_eq_false h1) (decide_eq_false h2) (decide_eq_false h3) (decide_eq_false h4) (decide_eq_false h5) (decide_eq_false h6) (decide_eq_false h7) (decide_eq_false h8) (decide_eq_false h9) (decide_eq_false h10) (decide_eq_true h11)
  by_cases h12 : (65536 : Int) < (sd.size : Int)
  · exact refenc_bad12 kd fr tt tm ix lt cm ys es si st sm sd A8 n8 c8 A11 n11 c11 w (decide_eq_false h0) (decide_eq_false h1) (decide_eq_false h2) (decide_eq_false h3) (decide_eq_false h4) (decide_eq_false h5) (decide_eq_false h6) (decide_eq_false h7) (decide_eq_false h8) (decide_eq_false h9) (decide_eq_false h10) (decide_eq_false h11) (decide_eq_true h12)
  by_cases h13 : si < 0
  · exact refenc_bad13 kd fr tt tm ix lt cm ys es si st sm sd A8 n8 c8 A11 n11 c11 w (decide_eq_false h0) (decide_eq_false h1) (decide_eq_false h2) (decide_eq_false h3) (decide_eq_false h4) (decide_eq_false h5) (decide_eq_false h6) (decide_eq_false h7) (decide_eq_false h8) (decide_eq_false h9) (decide_eq_false h10) (decide_eq_false h11) (decide_eq_false h12) (decide_eq_true h13)
  by_cases h14 : st < 0
  · exact refenc_bad14 kd fr tt tm ix lt cm ys es si st sm sd A8 n8 c8 A11 n11 c11 w (decide_eq_false h0) (decide_eq_false h1) (decide_eq_false h2) (decide_eq_false h3) (decide_eq_false h4) (decide_eq_false h5) (decide_eq_false h6) (decide_eq_false h7) (decide_eq_false h8) (decide_eq_false h9) (decide_eq_false h10) (decide_eq_false h11) (decide_eq_false h12) (decide_eq_false h13) (decide_eq_true h14)
  exfalso
  have q8 : n8 = es.length := hE1
  have q11 : n11 = sm.length := hS1
  rcases hbad with h | h | h | h | h | h | h | h | h | h | h | h | h | h | h
  all_goals simp only at h
  all_goals omega
end Go.Proofs.Ytbemfgpdfacdpaa.Ms
namespace Go.Proofs.Ytbemfgpdfacdpaa.Ms
open Go.RowKit Go.Proofs.Ytbemfgpdfacdpaa.Pr Go.Proofs.YtbemfgpdfacdpaaW.PrintWords Go.Proofs.YtbemfgpdfacdpaaW.PrintLast Go.Proofs.YtbemfgpdfacdpaaW.PrintMore
set_option linter.unusedVariables false
set_option linter.unusedSimpArgs false
def Right (m : M13) : Prop := goodM m ∧ isNode m.fr = true ∧ isNode m.tt = true
theorem node_iff {i : Int} : isNode i = true ↔ 1 ≤ i ∧ i ≤ 9 := by simp [isNode]
theorem ref_right {m : M13} (h : Right m) : refE m = some (rawW m) := by
  obtain ⟨⟨h1, h2, h3, h4⟩, n1, n2⟩ := h
  rw [node_iff] at n1 n2
  rw [refE, if_neg]
  rintro (hb | hb | hb | hb)
  · unfold bad1 at hb
    rcases h4 with ⟨hk, x, y, hx, hy, hm⟩ | ⟨hk, y, hm⟩ | ⟨hk, x, y, z, es, hx, hy, hz, he, hg, hm⟩ | ⟨hk, x, y, hx, hm⟩ | ⟨hk, x, y, ms, s, hx, hy, h9, hg, hs, hm⟩
    all_goals
      have e1 : m.ix = _ := congrArg M13.ix hm
      have e2 : m.lt = _ := congrArg M13.lt hm
      have e3 : m.cm = _ := congrArg M13.cm hm
      have e4 : m.es = _ := congrArg M13.es hm
      have e5 : m.sm = _ := congrArg M13.sm hm
      have e6 : m.sd = _ := congrArg M13.sd hm
      have e7 : m.si = _ := congrArg M13.si hm
      have e8 : m.st = _ := congrArg M13.st hm
      simp only at e1 e2 e3 e4 e5 e6 e7 e8
      rw [e1, e2, e3, e4, e5, e6, e7, e8, hk] at hb
      clear hm e1 e2 e3 e4 e5 e6 e7 e8
      have z : (⟨#[]⟩ : ByteArray).size = 0 := rfl
      simp only [List.length_nil, z] at hb
      omega
  · refine hb ?_
    rcases h4 with ⟨hk, x, y, hx, hy, hm⟩ | ⟨hk, y, hm⟩ | ⟨hk, x, y, z, es, hx, hy, hz, he, hg, hm⟩ | ⟨hk, x, y, hx, hm⟩ | ⟨hk, x, y, ms, s, hx, hy, h9, hg, hs, hm⟩
    all_goals
      rw [hm]
      rfl
  · obtain ⟨e, he, ho⟩ := hb
    rcases h4 with ⟨hk, x, y, hx, hy, hm⟩ | ⟨hk, y, hm⟩ | ⟨hk, x, y, z, es, hx, hy, hz, he', hg, hm⟩ | ⟨hk, x, y, hx, hm⟩ | ⟨hk, x, y, ms, s, hx, hy, h9, hg, hs, hm⟩
    · rw [hm] at he; cases he
    · rw [hm] at he; cases he
    · rw [hm] at he
      rw [(hg e he).odd] at ho; cases ho
    · rw [hm] at he; cases he
    · rw [hm] at he; cases he
  · obtain ⟨v, hv, ho⟩ := hb
    rcases h4 with ⟨hk, x, y, hx, hy, hm⟩ | ⟨hk, y, hm⟩ | ⟨hk, x, y, z, es, hx, hy, hz, he', hg, hm⟩ | ⟨hk, x, y, hx, hm⟩ | ⟨hk, x, y, ms, s, hx, hy, h9, hg, hs, hm⟩
    · rw [hm] at hv; cases hv
    · rw [hm] at hv; cases hv
    · rw [hm] at hv; cases hv
    · rw [hm] at hv; cases hv
    · rw [hm] at hv
      have := (hg v hv).1
      omega
theorem right_ref {m : M13} (hf : FitM m) (h : refE m ≠ none) : Right m := by
  rw [refE] at h
  split at h
  · exact absurd rfl h
  · rename_i hc
    simp only [not_or, not_exists, not_and, Bool.not_eq_true, ne_eq, Decidable.not_not] at hc
    obtain ⟨hb, ho, hE, hS⟩ := hc
    have ho : onlyM m = m := Classical.byContradiction ho
    unfold bad1 at hb
    obtain ⟨f0, f1, f2, f3, f4, f5, f6, f7, f8, fE, _, fS, _, _⟩ := hf
    simp only [not_or, Int.not_lt, Nat.not_lt] at hb
    obtain ⟨b0, b1, b2, b3, b4, b5, b6, b7, b8, b9, b10, b11, b12, b13, b14⟩ := hb
    have hk : m.kd = 1 ∨ m.kd = 2 ∨ m.kd = 3 ∨ m.kd = 4 ∨ m.kd = 5 := by clear ho hE hS fE fS; omega
    have gE : ∀ e ∈ m.es, goodE e := fun e he => goodE_of (fE e he).fit (hE e he)
    have gS : ∀ v ∈ m.sm, 0 ≤ v ∧ v ≤ 9223372036854775807 := fun v hv => ⟨by have := hS v hv; omega, (fS v hv).2⟩
    refine ⟨⟨⟨by omega, f1.2⟩, ⟨by omega, f2.2⟩, ⟨b6, f3.2⟩, ?_⟩, node_iff.2 ⟨b2, b3⟩, node_iff.2 ⟨b4, b5⟩⟩
    rcases hk with hk | hk | hk | hk | hk
    · refine .inl ⟨hk, m.ix, m.lt, ⟨b7, f4.2⟩, ⟨b8, f5.2⟩, ?_⟩
      rw [onlyM, if_pos hk, hk] at ho
      exact ho.symm
    · refine .inr (.inl ⟨hk, m.ys, ?_⟩)
      rw [onlyM, if_neg (by omega), if_pos hk, hk] at ho
      exact ho.symm
    · refine .inr (.inr (.inl ⟨hk, m.ix, m.lt, m.cm, m.es, ⟨b7, f4.2⟩, ⟨b8, f5.2⟩, ⟨b9, f6.2⟩, b10, gE, ?_⟩))
      rw [onlyM, if_neg (by omega), if_neg (by omega), if_pos hk, hk] at ho
      exact ho.symm
    · refine .inr (.inr (.inr (.inl ⟨hk, m.ix, m.ys, ⟨b7, f4.2⟩, ?_⟩)))
      rw [onlyM, if_neg (by omega), if_neg (by omega), if_neg (by omega), if_pos hk, hk] at ho
      exact ho.symm
    · refine .inr (.inr (.inr (.inr ⟨hk, m.si, m.st, m.sm, m.sd, ⟨b13, f7.2⟩, ⟨b14, f8.2⟩, b11, gS, b12, ?_⟩)))
      rw [onlyM, if_neg (by omega), if_neg (by omega), if_neg (by omega), if_neg (by omega), if_pos hk, hk] at ho
      exact ho.symm
end Go.Proofs.Ytbemfgpdfacdpaa.Ms
namespace Go.Proofs.Ytbemfgpdfacdpaa.Ms
open Go.RowKit Go.Proofs.Ytbemfgpdfacdpaa.Pr Go.Proofs.YtbemfgpdfacdpaaW.PrintWords Go.Proofs.YtbemfgpdfacdpaaW.PrintLast Go.Proofs.YtbemfgpdfacdpaaW.PrintMore
set_option linter.unusedVariables false
set_option linter.unusedSimpArgs false
/-- The eye at block g: all bytes (they lie in w0), how many are read, whether they are none. -/
def Ey (w0 w : World) (g : Nat) (l : List Int) (i : Nat) (bad : Bool) : Prop :=
  ∃ A n c, w.heap[g]? = some (.cells #[.slice A n c, .int .i64 i, .bool bad] 75 (0, 0)) ∧ n = l.length ∧ n ≤ c ∧ (Kd.int .u8).C w0 A l.length l ∧ l.length ≤ 1000000 ∧ i ≤ l.length
def enumP (l : List Int) (i : Nat) (bad : Bool) (n : Nat) : Int × Nat × Bool :=
  if bad = true ∨ l.length - i < n then (0, i, true) else (wrap64 (beV ((l.drop i).take n) : Int), i + n, decide (9223372036854775808 ≤ beV ((l.drop i).take n)))
def EnumQ (w0 w : World) (g : Nat) (l : List Int) (r : Int × Nat × Bool) (e : Ending) (w' : World) : Prop :=
  e = .returned (.int .i64 r.1) ∧ Ey w0 w' g l r.2.1 r.2.2 ∧ Kept w w' (fun k => k = g) ∧ Below w0.heap.size w0 w'
theorem get_l (l : List Int) (n : Nat) (hn : n ≤ 8) (hl : n ≤ l.length) (hb : Byt l) : ∀ (j i k : Nat), i + j = n → j < k → parapetref1_Get.l0 k l n (beV (l.take i) : Int) i = some (beV (l.take n) : Int)
  | 0, i, k + 1, h, _ => by
    obtain rfl : i = n := by omega
    rw [parapetref1_Get.l0, if_neg (by omega)]
  | j + 1, i, k + 1, h, hk => by
    have hi : i < l.length := by omega
    have hx : 0 ≤ l.getD i 0 ∧ l.getD i 0 ≤ 255 := by
      rw [List.getD_eq_getElem?_getD, List.getElem?_eq_getElem hi]
      exact hb _ (List.getElem_mem hi)
    have h1 := beV_lt (l.take i) (fun y hy => hb y (List.mem_of_mem_take hy))
    have h2 : (256 : Nat) ^ (l.take i).length ≤ 256 ^ 7 := Nat.pow_le_pow_right (by decide) (by rw [List.length_take]; omega)
    have h3 : (256 : Nat) ^ 7 = 72057594037927936 := by decide
    rw [parapetref1_Get.l0, if_pos (by omega), if_pos (by omega), if_pos (by omega), rd_get, or_low _ _ (by omega) (by omega) hx.1 hx.2, show wrap64 ((i : Int) + 1) = ((i + 1 : Nat) : Int) by clear h1 h2 h3 hx; unfold wrap64; omega,
      show ((beV (l.take i) : Int) * 256 + l.getD i 0) = (beV (l.take (i + 1)) : Int) by rw [beV_take l i hi]; omega]
    exact get_l l n hn hl hb j (i + 1) k (by omega) (by omega)
theorem get_f (l : List Int) (n : Nat) (hn : n ≤ 8) (hl : n ≤ l.length) (hb : Byt l) : parapetref1_Get.f 10 l n = some (beV (l.take n) : Int) := get_l l n hn hl hb n 0 10 (by omega) (by omega)
theorem get_calls (A : Option Addr) (m c : Nat) (l : List Int) (n : Nat) (w : World) (hC : (Kd.int .u8).C w A l.length l) (hm : m = l.length) (hc : m ≤ c) (hn : n ≤ 8) (hl : n ≤ l.length) (hb : Byt l) :
    Calls Try.prog 44 #[.slice A m c, .int .i64 n] w fun e w' => e = .returned (.int .u64 (beV (l.take n) : Int)) ∧ Drawn0 w w' := by
  subst hm
  exact parapetref1_Get.calls 10 A c l n _ w hC hc (get_f l n hn hl hb)
set_option maxHeartbeats 2000000 in
set_option maxRecDepth 100000 in
theorem enum_calls (w0 w : World) (g : Nat) (l : List Int) (i : Nat) (bad : Bool) (n : Nat) (hB : Below w0.heap.size w0 w) (hg : w0.heap.size ≤ g) (h : Ey w0 w g l i bad) (hby : Byt l) (hn : n ≤ 8) :
    Calls Try.prog 35 #[.pointer (some ⟨g, 0, none⟩), .int .i64 n] w (EnumQ w0 w g l (enumP l i bad n)) := by
  obtain ⟨A, m, c, hb, hm, hmc, hC, hl, hi⟩ := h
  have m0 : w.cell? ⟨g, 0, none⟩ = some (.slice A m c) := blk_cell hb 0
  have m1 : w.cell? ⟨g, 1, none⟩ = some (.int .i64 i) := blk_cell hb 1
  have m2 : w.cell? ⟨g, 2, none⟩ = some (.bool bad) := blk_cell hb 2
  have f1 := blk_frozen hb 1
  have f2 := blk_frozen hb 2
  have HB := Aside0.mk hB
  have HG := Aside0.mk hg
  have Hb := Aside0.mk hb
  have HM := Aside0.mk hm
  have HC := Aside0.mk hC
  have HL := Aside0.mk hl
  have HI := Aside0.mk hi
  have HBY := Aside0.mk hby
  obtain ⟨r, hr⟩ : ∃ r, r = enumP l i bad n := ⟨_, rfl⟩
  rw [← hr]
  have Hr := Aside0.mk hr
  have hi64 : (i : Int) ≤ 1000000 := by omega
  have hm64 : (m : Int) ≤ 1000000 := by omega
  clear hb hm hC hl hi hB hg hby hr
  have fin : (bad = true ∨ l.length - i < n) → ∀ nq, EnumQ w0 w g l r (.returned (.int .i64 0)) ((w.drewN nq).setCell ⟨g, 2, none⟩ (.bool true)) := fun hc nq => by
    rw [Hr.out, enumP, if_pos hc]
    exact ⟨rfl, ⟨A, m, c, blk_set (show (w.drewN nq).heap[g]? = _ from Hb.out) 2 _, HM.out, ‹m ≤ c›, HC.out, HL.out, HI.out⟩, Kept.setCell (S := fun k => k = g) (p := ⟨g, 2, none⟩) ((Kept.refl _ _).drewN nq) (.inl rfl) _, (pw_below_drewN HB.out nq).setCell HG.out _⟩
  have FIN := Aside0.mk fin
  clear fin
  cases bad
  · have ew : wrap64 ((m : Int) - (i : Int)) = (m : Int) - i := by unfold wrap64; omega
    by_cases hlt : (m : Int) - i < n
    · have l1 : decide ((m : Int) - (i : Int) < (n : Int)) = true := decide_eq_true hlt
      have FIN2 := Aside0.mk (FIN.out (.inr (by have := HM.out; have := HI.out; clear ew; omega)))
      clear FIN
      go_enter Try.func35, Try.ntmps35
      go_upto_region 1 with (fail)
      go_quiet (fail)
      go_wp2
      go_ret
      exact FIN2.out _
    · have l1 : decide ((m : Int) - (i : Int) < (n : Int)) = false := decide_eq_false hlt
      have hin : i + n ≤ m := by omega
      have hic : i ≤ c := by omega
      have him : i ≤ m := by omega
      have hmi : m - i ≤ c - i := by omega
      by_cases hci : c = i
      · have hz : (Kd.int .u8).C w0 A (l.drop i).length (l.drop i) := by
          have : l.drop i = [] := List.drop_eq_nil_of_le (by rw [← HM.out]; omega)
          rw [this]
          exact ⟨rfl, by simp, fun h => absurd h (Nat.lt_irrefl 0)⟩
        have HZ := Aside0.mk hz
        clear hz
        obtain rfl : i = m := by omega
        subst hci
        go_enter Try.func35, Try.ntmps35
        go_upto_region 1 with (fail)
        go_quiet (fail)
        go_upto_region 4 with (fail)
        refine QT.region 10 (by kernel_rfl) (by kernel_rfl) ?_
        simp only [List.take_succ_cons, List.take_zero, List.drop_succ_cons, List.drop_zero]
        repeat (go_big_quiet_step ((fail)))
        refine wpQuiet_nil ?_
        intro nq2
        go_wp2_with fail
        refine (get_calls _ _ _ (l.drop c) n _ (Kd.C_below (HZ.out) (by repeat (first | exact HB.out | apply pw_below_drewN))) (by have := HM.out; rw [List.length_drop]; omega) (by omega) hn (by rw [List.length_drop, ← HM.out]; omega) (fun x hx => HBY.out x (List.mem_of_mem_drop hx))).mono ?_
        obtain ⟨V, hV⟩ : ∃ V, V = beV ((l.drop c).take n) := ⟨_, rfl⟩
        rw [← hV]
        rintro e w3 ⟨rfl, md, hw3⟩
        have hb3 : w3.heap[g]? = some (.cells #[.slice A c c, .int .i64 c, .bool false] 75 (0, 0)) := by rw [hw3]; exact Hb.out
        have k1 : w3.cell? ⟨g, 1, none⟩ = some (.int .i64 c) := blk_cell hb3 1
        have g1 := blk_frozen hb3 1
        have hB3 : Below w0.heap.size w0 w3 := by rw [hw3]; repeat (first | exact HB.out | apply pw_below_drewN)
        have hK3 : Kept w w3 (fun k => k = g) := by rw [hw3]; repeat (first | exact Kept.refl _ _ | apply Kept.drewN)
        have ei : wrap64 ((c : Int) + (n : Int)) = ((c + n : Nat) : Int) := by clear ew; unfold wrap64; omega
        have hb4 := blk_set hb3 1 (.int .i64 ((c + n : Nat) : Int))
        have hr : r = (wrap64 (V : Int), c + n, decide (9223372036854775808 ≤ V)) := by
          rw [Hr.out, enumP, if_neg (by have := HM.out; simp; omega), hV]
        have hE4 : ∀ b, Ey w0 ((w3.setCell ⟨g, 1, none⟩ (.int .i64 ((c + n : Nat) : Int))).setCell ⟨g, 2, none⟩ (.bool b)) g l (c + n) b := fun b => ⟨A, c, c, blk_set hb4 2 _, HM.out, by omega, HC.out, HL.out, by rw [← HM.out]; omega⟩
        have hE5 : Ey w0 (w3.setCell ⟨g, 1, none⟩ (.int .i64 ((c + n : Nat) : Int))) g l (c + n) false := ⟨A, c, c, hb4, HM.out, by omega, HC.out, HL.out, by rw [← HM.out]; omega⟩
        have hK4 : Kept w (w3.setCell ⟨g, 1, none⟩ (.int .i64 ((c + n : Nat) : Int))) (fun k => k = g) := Kept.setCell (S := fun k => k = g) (p := ⟨g, 1, none⟩) hK3 (.inl rfl) _
        have hB4 : Below w0.heap.size w0 (w3.setCell ⟨g, 1, none⟩ (.int .i64 ((c + n : Nat) : Int))) := hB3.setCell (p := ⟨g, 1, none⟩) HG.out _
        have HHr := Aside0.mk hr
        have HE4 := Aside0.mk hE4
        have HE5 := Aside0.mk hE5
        have HK4 := Aside0.mk hK4
        have HB4 := Aside0.mk hB4
        have Hb4 := Aside0.mk hb4
        clear hr hE4 hE5 hK4 hB4 hw3 hV hb3 hB3 hK3 hb4 ew ei
        go_upto_region 6 with (fail)
        rw [show (c : Int) + (n : Int) = ((c + n : Nat) : Int) from by omega]
        obtain ⟨w4, hw4⟩ : ∃ w4, w4 = w3.setCell ⟨g, 1, none⟩ (.int .i64 ((c + n : Nat) : Int)) := ⟨_, rfl⟩
        rw [← hw4] at HE4 HE5 HK4 HB4 Hb4 ⊢
        clear hw4 k1 g1
        by_cases hbig : 9223372036854775808 ≤ V
        · have l2 : decide ((9223372036854775808 : Int) ≤ (V : Int)) = true := decide_eq_true (by omega)
          have fin : EnumQ w0 w g l r (.returned (.int .i64 (wrap64 (V : Int)))) (w4.setCell ⟨g, 2, none⟩ (.bool true)) := by
            rw [HHr.out, decide_eq_true hbig]
            exact ⟨rfl, HE4.out true, Kept.setCell (S := fun k => k = g) (p := ⟨g, 2, none⟩) HK4.out (.inl rfl) _, HB4.out.setCell HG.out _⟩
          have FF := Aside0.mk fin
          have k2 : w4.cell? ⟨g, 2, none⟩ = some (.bool false) := blk_cell Hb4.out 2
          have g2 := blk_frozen Hb4.out 2
          clear fin hbig
          go_wp2
          go_ret
          exact FF.out
        · have l2 : decide ((9223372036854775808 : Int) ≤ (V : Int)) = false := decide_eq_false (by omega)
          have fin : EnumQ w0 w g l r (.returned (.int .i64 (wrap64 (V : Int)))) w4 := by
            rw [HHr.out, decide_eq_false hbig]
            exact ⟨rfl, HE5.out, HK4.out, HB4.out⟩
          have FF := Aside0.mk fin
          clear fin hbig
          go_wp2
          go_ret
          exact FF.out
      · have HZ := Aside0.mk (C_rest HC.out (show i ≤ l.length by rw [← HM.out]; omega) (show l.length ≤ c by rw [← HM.out]; omega))
        go_enter Try.func35, Try.ntmps35
        go_upto_region 1 with (fail)
        go_quiet (fail)
        go_upto_region 4 with (fail)
        refine QT.region 10 (by kernel_rfl) (by kernel_rfl) ?_
        simp only [List.take_succ_cons, List.take_zero, List.drop_succ_cons, List.drop_zero]
        repeat (go_big_quiet_step ((fail)))
        refine wpQuiet_nil ?_
        intro nq2
        go_wp2_with fail
        refine (get_calls _ _ _ (l.drop i) n _ (Kd.C_below (HZ.out) (by repeat (first | exact HB.out | apply pw_below_drewN))) (by have := HM.out; rw [List.length_drop]; omega) (by omega) hn (by rw [List.length_drop, ← HM.out]; omega) (fun x hx => HBY.out x (List.mem_of_mem_drop hx))).mono ?_
        obtain ⟨V, hV⟩ : ∃ V, V = beV ((l.drop i).take n) := ⟨_, rfl⟩
        rw [← hV]
        rintro e w3 ⟨rfl, md, hw3⟩
        have hb3 : w3.heap[g]? = some (.cells #[.slice A m c, .int .i64 i, .bool false] 75 (0, 0)) := by rw [hw3]; exact Hb.out
        have k1 : w3.cell? ⟨g, 1, none⟩ = some (.int .i64 i) := blk_cell hb3 1
        have g1 := blk_frozen hb3 1
        have hB3 : Below w0.heap.size w0 w3 := by rw [hw3]; repeat (first | exact HB.out | apply pw_below_drewN)
        have hK3 : Kept w w3 (fun k => k = g) := by rw [hw3]; repeat (first | exact Kept.refl _ _ | apply Kept.drewN)
        have ei : wrap64 ((i : Int) + (n : Int)) = ((i + n : Nat) : Int) := by clear ew; unfold wrap64; omega
        have hb4 := blk_set hb3 1 (.int .i64 ((i + n : Nat) : Int))
        have hr : r = (wrap64 (V : Int), i + n, decide (9223372036854775808 ≤ V)) := by
          rw [Hr.out, enumP, if_neg (by have := HM.out; simp; omega), hV]
        have hE4 : ∀ b, Ey w0 ((w3.setCell ⟨g, 1, none⟩ (.int .i64 ((i + n : Nat) : Int))).setCell ⟨g, 2, none⟩ (.bool b)) g l (i + n) b := fun b => ⟨A, m, c, blk_set hb4 2 _, HM.out, by omega, HC.out, HL.out, by rw [← HM.out]; omega⟩
        have hE5 : Ey w0 (w3.setCell ⟨g, 1, none⟩ (.int .i64 ((i + n : Nat) : Int))) g l (i + n) false := ⟨A, m, c, hb4, HM.out, by omega, HC.out, HL.out, by rw [← HM.out]; omega⟩
        have hK4 : Kept w (w3.setCell ⟨g, 1, none⟩ (.int .i64 ((i + n : Nat) : Int))) (fun k => k = g) := Kept.setCell (S := fun k => k = g) (p := ⟨g, 1, none⟩) hK3 (.inl rfl) _
        have hB4 : Below w0.heap.size w0 (w3.setCell ⟨g, 1, none⟩ (.int .i64 ((i + n : Nat) : Int))) := hB3.setCell (p := ⟨g, 1, none⟩) HG.out _
        have HHr := Aside0.mk hr
        have HE4 := Aside0.mk hE4
        have HE5 := Aside0.mk hE5
        have HK4 := Aside0.mk hK4
        have HB4 := Aside0.mk hB4
        have Hb4 := Aside0.mk hb4
        clear hr hE4 hE5 hK4 hB4 hw3 hV hb3 hB3 hK3 hb4 ew ei
        go_upto_region 6 with (fail)
        rw [show (i : Int) + (n : Int) = ((i + n : Nat) : Int) from by omega]
        obtain ⟨w4, hw4⟩ : ∃ w4, w4 = w3.setCell ⟨g, 1, none⟩ (.int .i64 ((i + n : Nat) : Int)) := ⟨_, rfl⟩
        rw [← hw4] at HE4 HE5 HK4 HB4 Hb4 ⊢
        clear hw4 k1 g1
        by_cases hbig : 9223372036854775808 ≤ V
        · have l2 : decide ((9223372036854775808 : Int) ≤ (V : Int)) = true := decide_eq_true (by omega)
          have fin : EnumQ w0 w g l r (.returned (.int .i64 (wrap64 (V : Int)))) (w4.setCell ⟨g, 2, none⟩ (.bool true)) := by
            rw [HHr.out, decide_eq_true hbig]
            exact ⟨rfl, HE4.out true, Kept.setCell (S := fun k => k = g) (p := ⟨g, 2, none⟩) HK4.out (.inl rfl) _, HB4.out.setCell HG.out _⟩
          have FF := Aside0.mk fin
          have k2 : w4.cell? ⟨g, 2, none⟩ = some (.bool false) := blk_cell Hb4.out 2
          have g2 := blk_frozen Hb4.out 2
          clear fin hbig
          go_wp2
          go_ret
          exact FF.out
        · have l2 : decide ((9223372036854775808 : Int) ≤ (V : Int)) = false := decide_eq_false (by omega)
          have fin : EnumQ w0 w g l r (.returned (.int .i64 (wrap64 (V : Int)))) w4 := by
            rw [HHr.out, decide_eq_false hbig]
            exact ⟨rfl, HE5.out, HK4.out, HB4.out⟩
          have FF := Aside0.mk fin
          clear fin hbig
          go_wp2
          go_ret
          exact FF.out
  · have FIN2 := Aside0.mk (FIN.out (.inl rfl))
    clear FIN
    go_enter Try.func35, Try.ntmps35
    go_upto_region 1 with (fail)
    go_quiet (fail)
    go_wp2
    go_ret
    exact FIN2.out _
end Go.Proofs.Ytbemfgpdfacdpaa.Ms
namespace Go.Proofs.Ytbemfgpdfacdpaa.Ms
open Go.RowKit Go.Proofs.Ytbemfgpdfacdpaa.Pr Go.Proofs.YtbemfgpdfacdpaaW.PrintWords Go.Proofs.YtbemfgpdfacdpaaW.PrintLast Go.Proofs.YtbemfgpdfacdpaaW.PrintMore
set_option linter.unusedVariables false
set_option linter.unusedSimpArgs false
theorem pow4' : (256 : Nat) ^ 4 = 4294967296 := by decide
theorem enum_range (l : List Int) (i : Nat) (bad : Bool) (n : Nat) (hb : Byt l) (hn : n ≤ 4) : 0 ≤ (enumP l i bad n).1 ∧ (enumP l i bad n).1 < 256 ^ n := by
  unfold enumP
  split
  · exact ⟨by simp, Int.pow_pos (by decide)⟩
  · have h1 := beV_lt ((l.drop i).take n) (fun x hx => hb x (List.mem_of_mem_drop (List.mem_of_mem_take hx)))
    have h2 : (256 : Nat) ^ ((l.drop i).take n).length ≤ 256 ^ n := Nat.pow_le_pow_right (by decide) (by rw [List.length_take]; omega)
    have h3 : (256 : Nat) ^ n ≤ 256 ^ 4 := Nat.pow_le_pow_right (by decide) hn
    rw [pow4'] at h3
    have h4 : ((256 : Int) ^ n) = ((256 ^ n : Nat) : Int) := by simp
    have e : wrap64 (beV ((l.drop i).take n) : Int) = (beV ((l.drop i).take n) : Int) := by
      generalize beV ((l.drop i).take n) = V at h1
      have hV : V < 4294967296 := by omega
      clear h1 h2 h3 h4
      unfold wrap64; omega
    simp only [e, h4]
    omega
theorem Ey.setBad {w0 w : World} {g : Nat} {l : List Int} {i : Nat} {bad : Bool} (h : Ey w0 w g l i bad) (b : Bool) : Ey w0 (w.setCell ⟨g, 2, none⟩ (.bool b)) g l i b := by
  obtain ⟨A, m, c, h1, h2⟩ := h
  exact ⟨A, m, c, blk_set h1 2 _, h2⟩
theorem Ey.kept {w0 W W2 : World} {g : Nat} {l : List Int} {i : Nat} {bad : Bool} {S : Nat → Prop} (h : Ey w0 W g l i bad) (hk : Kept W W2 S) (hn : ¬ S g) : Ey w0 W2 g l i bad := by
  obtain ⟨A, m, c, h1, h2⟩ := h
  exact ⟨A, m, c, blk_kept h1 hk hn, h2⟩
theorem Ey.lt {w0 W : World} {g : Nat} {l : List Int} {i : Nat} {bad : Bool} (h : Ey w0 W g l i bad) : g < W.heap.size := by
  obtain ⟨A, m, c, h1, h2⟩ := h
  exact blk_lt h1
def eyesP (l : List Int) (i : Nat) (bad : Bool) : Bool × Nat × Bool :=
  ((enumP l i bad 1).1 == 1, (enumP l i bad 1).2.1, (enumP l i bad 1).2.2 || decide (1 < (enumP l i bad 1).1))
def EyesQ (w0 w : World) (g : Nat) (l : List Int) (r : Bool × Nat × Bool) (e : Ending) (w' : World) : Prop :=
  e = .returned (.bool r.1) ∧ Ey w0 w' g l r.2.1 r.2.2 ∧ Kept w w' (fun k => k = g) ∧ Below w0.heap.size w0 w'
set_option maxHeartbeats 1000000 in
set_option maxRecDepth 100000 in
theorem eyes_calls (w0 w : World) (g : Nat) (l : List Int) (i : Nat) (bad : Bool) (hB : Below w0.heap.size w0 w) (hg : w0.heap.size ≤ g) (h : Ey w0 w g l i bad) (hby : Byt l) :
    Calls Try.prog 36 #[.pointer (some ⟨g, 0, none⟩)] w (EyesQ w0 w g l (eyesP l i bad)) := by
  have HE := Aside0.mk h
  have HB := Aside0.mk hB
  have HG := Aside0.mk hg
  have HBY := Aside0.mk hby
  obtain ⟨r, hr⟩ : ∃ r, r = eyesP l i bad := ⟨_, rfl⟩
  rw [← hr]
  have Hr := Aside0.mk hr
  clear h hB hg hby hr
  go_enter Try.func36, Try.ntmps36
  go_wp2_with fail
  refine (enum_calls w0 w g l i bad 1 HB.out HG.out HE.out HBY.out (by decide)).mono ?_
  have hr := Hr.out
  rw [eyesP] at hr
  obtain ⟨q, hq⟩ : ∃ q, q = enumP l i bad 1 := ⟨_, rfl⟩
  rw [← hq] at hr ⊢
  rintro e w1 ⟨rfl, hE1, hK1, hB1⟩
  obtain ⟨v, i1, b1⟩ := q
  simp only at hr hE1 ⊢
  have HE1 := Aside0.mk hE1
  have HK1 := Aside0.mk hK1
  have HB1 := Aside0.mk hB1
  have Hr2 := Aside0.mk hr
  clear hr hE1 hK1 hB1 hq Hr HE HB
  by_cases hv : 1 < v
  · have l1 : decide (1 < v) = true := decide_eq_true hv
    have fin : EyesQ w0 w g l r (.returned (.bool (v == 1))) (w1.setCell ⟨g, 2, none⟩ (.bool true)) := by
      rw [Hr2.out, decide_eq_true hv, Bool.or_true]
      exact ⟨rfl, HE1.out.setBad true, Kept.setCell (S := fun k => k = g) (p := ⟨g, 2, none⟩) HK1.out (.inl rfl) _, HB1.out.setCell HG.out _⟩
    have FIN := Aside0.mk fin
    obtain ⟨A, m, c, hb, _⟩ := HE1.out
    have k2 : w1.cell? ⟨g, 2, none⟩ = some (.bool b1) := blk_cell hb 2
    have f2 := blk_frozen hb 2
    clear fin hb hv
    go_wp2
    go_ret
    exact FIN.out
  · have l1 : decide (1 < v) = false := decide_eq_false hv
    have fin : EyesQ w0 w g l r (.returned (.bool (v == 1))) w1 := by
      rw [Hr2.out, decide_eq_false hv, Bool.or_false]
      exact ⟨rfl, HE1.out, HK1.out, HB1.out⟩
    have FIN := Aside0.mk fin
    clear fin hv
    go_wp2
    go_ret
    exact FIN.out
def eil (l : List Int) : Nat → List Int → Nat → Bool → List Int × Nat × Bool
  | 0, acc, i, b => (acc, i, b)
  | k + 1, acc, i, b => if b = true then (acc, i, b) else eil l k (acc ++ [(enumP l i b 8).1]) (enumP l i b 8).2.1 (enumP l i b 8).2.2
def eintsP (l : List Int) (i : Nat) (bad : Bool) : List Int × Nat × Bool := eil l (enumP l i bad 1).1.toNat [] (enumP l i bad 1).2.1 (enumP l i bad 1).2.2
def EintsQ (w0 w : World) (g : Nat) (l : List Int) (r : List Int × Nat × Bool) (e : Ending) (w' : World) : Prop :=
  ∃ v, e = .returned v ∧ (Kd.int .i64).R 3 w' w0.heap.size (fun k => w.heap.size ≤ k) v r.1 ∧ Ey w0 w' g l r.2.1 r.2.2 ∧ Kept w w' (fun k => k = g) ∧ Below w0.heap.size w0 w'
set_option maxHeartbeats 1000000 in
set_option maxRecDepth 100000 in
theorem eints_calls (w0 w : World) (g : Nat) (l : List Int) (i0 : Nat) (bad : Bool) (hB : Below w0.heap.size w0 w) (hg : w0.heap.size ≤ g) (h : Ey w0 w g l i0 bad) (hby : Byt l) :
    Calls Try.prog 38 #[.pointer (some ⟨g, 0, none⟩)] w (EintsQ w0 w g l (eintsP l i0 bad)) := by
  have HE := Aside0.mk h
  have HB := Aside0.mk hB
  have HG := Aside0.mk hg
  have HBY := Aside0.mk hby
  have HGW := Aside0.mk h.lt
  obtain ⟨q, hq⟩ : ∃ q, q = eintsP l i0 bad := ⟨_, rfl⟩
  rw [← hq]
  have HQ0 := Aside0.mk hq
  clear h hB hg hby hq
  go_enter Try.func38, Try.ntmps38
  go_wp2_with fail
  refine (enum_calls w0 w g l i0 bad 1 HB.out HG.out HE.out HBY.out (by decide)).mono ?_
  have hr := enum_range l i0 bad 1 HBY.out (by decide)
  have hq := HQ0.out
  rw [eintsP] at hq
  obtain ⟨p, hp⟩ : ∃ p, p = enumP l i0 bad 1 := ⟨_, rfl⟩
  rw [← hp] at hr hq ⊢
  rintro e w1 ⟨rfl, hE1, hK1, hB1⟩
  obtain ⟨n, i1, b1⟩ := p
  simp only at hr hq hE1 ⊢
  obtain ⟨N, rfl⟩ := Int.eq_ofNat_of_zero_le hr.1
  have hN : N ≤ 255 := by have := hr.2; rw [show (256 : Int) ^ 1 = 256 from rfl] at this; omega
  rw [Int.toNat_natCast] at hq
  have HE1 := Aside0.mk hE1
  have HK1 := Aside0.mk hK1
  have HB1 := Aside0.mk hB1
  have HQ := Aside0.mk hq
  clear hq hE1 hK1 hB1 hp HQ0 HE HB hr
  go_wp2_with fail
  go_loopg [4, 5] N (fun gk v4 v5 wr => ∃ (k j : Nat) (acc : List Int) (i : Nat) (b : Bool), v5 = .int .i64 j ∧ Aside0 (j + k = N) ∧ Aside0 (k ≤ gk) ∧ Aside0 (acc.length = j) ∧ Aside0 (q = eil l k acc i b) ∧ Aside0 ((Kd.int .i64).R 3 wr w0.heap.size (fun k => w.heap.size ≤ k) v4 acc) ∧ Aside0 (Ey w0 wr g l i b) ∧ Aside0 (Kept w wr (fun k => k = g)) ∧ Aside0 (Below w0.heap.size w0 wr))
  case atStart => exact ⟨N, 0, [], i1, b1, rfl, ⟨by omega⟩, ⟨by omega⟩, ⟨rfl⟩, HQ, ⟨Kd.R_nil _ _ _ _ _⟩, HE1, HK1, HB1⟩
  case round =>
    clear HE1 HK1 HB1 HQ
    obtain ⟨k, j, acc, i, b, rfl, HJ, HGK, HA, HQ, HO, HE, HK, HB⟩ := hrel
    have hj := HJ.out
    obtain ⟨A, m, c, hb, hrd⟩ := HE.out
    have m2 : wr.cell? ⟨g, 2, none⟩ = some (.bool b) := blk_cell hb 2
    clear hb hrd
    by_cases hlt : j < N ∧ b = false
    · obtain ⟨hjN, rfl⟩ := hlt
      have l1 : decide (j < N) = true := decide_eq_true hjN
      go_wp2_with fail
      refine (enum_calls w0 wr g l i false 8 HB.out HG.out HE.out HBY.out (by decide)).mono ?_
      have hstep : eil l k acc i false = eil l (k - 1) (acc ++ [(enumP l i false 8).1]) (enumP l i false 8).2.1 (enumP l i false 8).2.2 := by
        obtain ⟨k, rfl⟩ : ∃ k', k = k' + 1 := ⟨k - 1, by omega⟩
        rw [eil, if_neg (by decide), Nat.add_sub_cancel]
      obtain ⟨p, hp⟩ : ∃ p, p = enumP l i false 8 := ⟨_, rfl⟩
      rw [← hp] at hstep ⊢
      rintro e w2 ⟨rfl, hE2, hK2, hB2⟩
      obtain ⟨x, i2, b2⟩ := p
      simp only at hstep hE2 ⊢
      have hO2 := Kd.R_kept HO.out hK2 (fun k hk => by have := HGW.out; show ¬ (k = g); omega)
      have HST := Aside0.mk hstep
      have HO2 := Aside0.mk hO2
      have HE2 := Aside0.mk hE2
      have HK2 := Aside0.mk (HK.out.then_ hK2 (fun _ h => .inl h))
      have HB2 := Aside0.mk hB2
      have HSZ : Aside0 (w0.heap.size ≤ w2.heap.size) := ⟨hB2.size⟩
      have HSW : Aside0 (w.heap.size ≤ w2.heap.size) := ⟨HK2.out.1⟩
      clear hp hO2 hE2 hK2 hB2 HO HE HK HB hstep m2
      go_wp2_with (at_builtin; refine Kd.R_append (Kd.int .i64) (w0 := w0) w0.heap.size rfl (.tmp 20) (.tmp 23) 23 3 (.int .i64 0) 8 rfl Try.underlying23 info_int rfl (by decide) (by decide) u4 acc x [.int .i64 x] (fun k => w.heap.size ≤ k) (fun _ => False) rfl rfl rfl (fun _ hk => hk.elim) (fun k hk => Nat.le_trans HSW.out hk) HO2.out HB2.out HSZ.out (by have := HA.out; omega) ?_)
      intro v3 w3 hO3 hB3 hg3 hat3
      have hK3 : Kept w w3 (fun k => k = g) := Kept.of_grown hg3 HK2.out (fun k hk => .inr (HO2.out.1 k hk))
      have hE3 : Ey w0 w3 g l i2 b2 := HE2.out.kept (S := fun k => w.heap.size ≤ k) ⟨hg3.size, fun k hlt hn => hg3.block k hlt (fun he => hn (HO2.out.1 k he.symm))⟩ (by have := HGW.out; simp; omega)
      have HK3 := Aside0.mk hK3
      have HE3 := Aside0.mk hE3
      have HO3 := Aside0.mk hO3
      have HB3 := Aside0.mk hB3
      clear hK3 hE3 hO3 hB3 hg3 hat3 HO2 HE2 HK2 HB2
      go_wp2
      go_roundg (k - 1)
      case measure => have := HGK.out; omega
      case rel => exact ⟨k - 1, j + 1, acc ++ [x], i2, b2, by first | go_num | (rw [show wrap64 ((j : Int) + 1) = ((j + 1 : Nat) : Int) by unfold wrap64; omega]), ⟨by omega⟩, ⟨Nat.le_refl _⟩, ⟨by rw [List.length_append, List.length_singleton, HA.out]⟩, ⟨by rw [HQ.out]; exact HST.out⟩, HO3, HE3, HK3, HB3⟩
    · have fin : EintsQ w0 w g l q (.returned u4) wr := by
        have hq2 : q = (acc, i, b) := by
          rw [HQ.out]
          cases k with
          | zero => rfl
          | succ k =>
            have hb : b = true := by
              cases b with
              | false => exact absurd ⟨by omega, rfl⟩ hlt
              | true => rfl
            rw [eil, if_pos hb]
        rw [hq2]
        exact ⟨_, rfl, HO.out, HE.out, HK.out, HB.out⟩
      have FIN := Aside0.mk fin
      by_cases hjN : j < N
      · have l1 : decide (j < N) = true := decide_eq_true hjN
        obtain rfl : b = true := by cases b <;> simp_all
        clear fin hlt
        go_wp2
        go_ret
        exact FIN.out
      · have l1 : decide (j < N) = false := decide_eq_false hjN
        clear fin hlt
        go_wp2
        go_ret
        exact FIN.out
end Go.Proofs.Ytbemfgpdfacdpaa.Ms
namespace Go.Proofs.Ytbemfgpdfacdpaa.Ms
open Go.RowKit Go.Proofs.Ytbemfgpdfacdpaa.Pr Go.Proofs.YtbemfgpdfacdpaaW.PrintWords Go.Proofs.YtbemfgpdfacdpaaW.PrintLast Go.Proofs.YtbemfgpdfacdpaaW.PrintMore
set_option linter.unusedVariables false
set_option linter.unusedSimpArgs false
def etextP (l : List Int) (i : Nat) (bad : Bool) : ByteArray × Nat × Bool :=
  if (enumP l i bad 4).2.2 = true ∨ l.length - (enumP l i bad 4).2.1 < (enumP l i bad 4).1.toNat then (⟨#[]⟩, (enumP l i bad 4).2.1, true)
  else (strOfNums ((l.drop (enumP l i bad 4).2.1).take (enumP l i bad 4).1.toNat), (enumP l i bad 4).2.1 + (enumP l i bad 4).1.toNat, false)
def EtextQ (w0 w : World) (g : Nat) (l : List Int) (r : ByteArray × Nat × Bool) (e : Ending) (w' : World) : Prop :=
  e = .returned (.string r.1) ∧ Ey w0 w' g l r.2.1 r.2.2 ∧ Kept w w' (fun k => k = g) ∧ Below w0.heap.size w0 w'
set_option maxHeartbeats 4000000 in
set_option maxRecDepth 100000 in
theorem etext_calls (w0 w : World) (g : Nat) (l : List Int) (i0 : Nat) (bad : Bool) (hB : Below w0.heap.size w0 w) (hg : w0.heap.size ≤ g) (h : Ey w0 w g l i0 bad) (hby : Byt l) :
    Calls Try.prog 37 #[.pointer (some ⟨g, 0, none⟩)] w (EtextQ w0 w g l (etextP l i0 bad)) := by
  have HE := Aside0.mk h
  have HB := Aside0.mk hB
  have HG := Aside0.mk hg
  have HBY := Aside0.mk hby
  obtain ⟨r, hr⟩ : ∃ r, r = etextP l i0 bad := ⟨_, rfl⟩
  rw [← hr]
  have Hr := Aside0.mk hr
  clear h hB hg hby hr
  go_enter Try.func37, Try.ntmps37
  go_wp2_with fail
  refine (enum_calls w0 w g l i0 bad 4 HB.out HG.out HE.out HBY.out (by decide)).mono ?_
  have hr := Hr.out
  rw [etextP] at hr
  have hrg := enum_range l i0 bad 4 HBY.out (by decide)
  obtain ⟨p, hp⟩ : ∃ p, p = enumP l i0 bad 4 := ⟨_, rfl⟩
  rw [← hp] at hr hrg ⊢
  rintro e w1 ⟨rfl, hE1, hK1, hB1⟩
  obtain ⟨v, i, b⟩ := p
  simp only at hr hrg hE1 ⊢
  obtain ⟨n, rfl⟩ := Int.eq_ofNat_of_zero_le hrg.1
  have hn4 : n < 4294967296 := by have := hrg.2; rw [show (256 : Int) ^ 4 = 4294967296 from rfl] at this; omega
  rw [Int.toNat_natCast] at hr
  obtain ⟨A, m, c, hb, hm, hmc, hC, hl, hi⟩ := hE1
  have m0 : w1.cell? ⟨g, 0, none⟩ = some (.slice A m c) := blk_cell hb 0
  have m1 : w1.cell? ⟨g, 1, none⟩ = some (.int .i64 i) := blk_cell hb 1
  have m2 : w1.cell? ⟨g, 2, none⟩ = some (.bool b) := blk_cell hb 2
  have f1 := blk_frozen hb 1
  have f2 := blk_frozen hb 2
  have Hb := Aside0.mk hb
  have HM := Aside0.mk hm
  have HC := Aside0.mk hC
  have HL := Aside0.mk hl
  have HI := Aside0.mk hi
  have HK1 := Aside0.mk hK1
  have HB1 := Aside0.mk hB1
  have Hr2 := Aside0.mk hr
  have hi64 : (i : Int) ≤ 1000000 := by omega
  have hm64 : (m : Int) ≤ 1000000 := by omega
  clear hb hm hC hl hi hK1 hB1 hr hrg hp Hr HE HB
  have fin : (b = true ∨ l.length - i < n) → ∀ nq, EtextQ w0 w g l r (.returned (.string ⟨#[]⟩)) ((w1.drewN nq).setCell ⟨g, 2, none⟩ (.bool true)) := fun hc nq => by
    rw [Hr2.out, if_pos hc]
    exact ⟨rfl, ⟨A, m, c, blk_set (show (w1.drewN nq).heap[g]? = _ from Hb.out) 2 _, HM.out, hmc, HC.out, HL.out, HI.out⟩, Kept.setCell (S := fun k => k = g) (p := ⟨g, 2, none⟩) (HK1.out.drewN nq) (.inl rfl) _, (pw_below_drewN HB1.out nq).setCell HG.out _⟩
  have FIN := Aside0.mk fin
  clear fin
  cases b
  · have ew : wrap64 ((m : Int) - (i : Int)) = (m : Int) - i := by clear hn4; unfold wrap64; omega
    by_cases hlt : (m : Int) - i < n
    · have l1 : decide ((m : Int) - (i : Int) < (n : Int)) = true := decide_eq_true hlt
      have FIN2 := Aside0.mk (FIN.out (.inr (by have := HM.out; have := HI.out; clear ew; omega)))
      clear FIN
      go_upto_region 2 with (fail)
      go_quiet (fail)
      go_wp2
      go_ret
      exact FIN2.out _
    · have l1 : decide ((m : Int) - (i : Int) < (n : Int)) = false := decide_eq_false hlt
      have hin : i + n ≤ m := by omega
      have ei : wrap64 ((i : Int) + (n : Int)) = ((i + n : Nat) : Int) := by clear ew l1; unfold wrap64; omega
      have hb4 : ∀ nq, ((w1.drewN nq).setCell ⟨g, 1, none⟩ (.int .i64 ((i + n : Nat) : Int))).heap[g]? = some (.cells #[.slice A m c, .int .i64 ((i + n : Nat) : Int), .bool false] 75 (0, 0)) := fun nq => blk_set (show (w1.drewN nq).heap[g]? = _ from Hb.out) 1 _
      have HB4 := Aside0.mk hb4
      clear hb4
      go_upto_region 2 with (fail)
      go_quiet (fail)
      go_upto_region 6 with (fail)
      generalize hw : World.setCell (World.drewN w1 _) _ _ = W
      have hbW : W.heap[g]? = some (.cells #[.slice A m c, .int .i64 ((i + n : Nat) : Int), .bool false] 75 (0, 0)) := by rw [← hw]; exact HB4.out _
      have HBW := Aside0.mk hbW
      have HWK : Aside0 (Kept w W (fun k => k = g)) := ⟨by rw [← hw]; exact Kept.setCell (S := fun k => k = g) (p := ⟨g, 1, none⟩) (HK1.out.drewN _) (.inl rfl) _⟩
      have HWB : Aside0 (Below w0.heap.size w0 W) := ⟨by rw [← hw]; exact (pw_below_drewN HB1.out _).setCell (p := ⟨g, 1, none⟩) HG.out _⟩
      have fin : ∀ nq, EtextQ w0 w g l r (.returned (.string (strOfNums ((l.drop i).take n)))) (W.drewN nq) := fun nq => by
        rw [Hr2.out, if_neg (by have := HM.out; simp; omega)]
        exact ⟨rfl, ⟨A, m, c, HBW.out, HM.out, hmc, HC.out, HL.out, by rw [← HM.out]; exact hin⟩, HWK.out.drewN nq, pw_below_drewN HWB.out nq⟩
      have FF := Aside0.mk fin
      clear fin FIN
      have t0 : W.cell? ⟨g, 0, none⟩ = some (.slice A m c) := blk_cell hbW 0
      have t1 : W.cell? ⟨g, 1, none⟩ = some (.int .i64 ((i : Int) + (n : Int))) := blk_cell hbW 1
      have ew2 : wrap64 ((i : Int) + (n : Int) - (n : Int)) = (i : Int) := by clear ew ei l1; unfold wrap64; omega
      have hcw : (Kd.int .u8).C W A l.length l := Kd.C_below HC.out HWB.out
      have hinc : i + n ≤ c := by omega
      have hic : i ≤ c := by omega
      clear hw hbW m0 m1 m2 f1 f2 HB4
      by_cases hci : c = i
      · obtain rfl : n = 0 := by omega
        have hz : (Kd.int .u8).C W A 0 [] := ⟨rfl, by simp, fun h => absurd h (Nat.lt_irrefl 0)⟩
        have hcv := fun md => Kd.C_string (dst := 9) (c := 0) Try.underlying30 Try.underlying5 Try.underlying9 (Kd.C_below hz (pw_below_drewN (Below.refl _ W) md))
        have hmi : m = i := by omega
        have HH := Aside0.mk hmi
        subst hci
        clear hz hcw hinc hmi
        go_quiet (fail)
        go_wp2
        go_ret
        exact FF.out _
      · have hcr := Kd.C_take (C_rest hcw (show i ≤ l.length by rw [← HM.out]; omega) (show l.length ≤ c by rw [← HM.out]; exact hmc)) (show n ≤ (l.drop i).length by rw [List.length_drop, ← HM.out]; omega)
        have hcr' : (Kd.int .u8).C W (A.map (·.add i)) n ((l.drop i).take n) := by
          have e : ((l.drop i).take n).length = n := by rw [List.length_take, List.length_drop, ← HM.out]; omega
          rw [e] at hcr
          exact hcr
        have hcv := fun md => Kd.C_string (dst := 9) (c := c - i) Try.underlying30 Try.underlying5 Try.underlying9 (Kd.C_below hcr' (pw_below_drewN (Below.refl _ W) md))
        clear hcr hcr' hcw
        go_quiet (fail)
        go_wp2
        go_ret
        exact FF.out _
  · have FIN2 := Aside0.mk (FIN.out (.inl rfl))
    clear FIN
    go_upto_region 2 with (fail)
    go_quiet (fail)
    go_wp2
    go_ret
    exact FIN2.out _
end Go.Proofs.Ytbemfgpdfacdpaa.Ms
namespace Go.Proofs.Ytbemfgpdfacdpaa.Ms
open Go.RowKit Go.Proofs.Ytbemfgpdfacdpaa.Pr Go.Proofs.YtbemfgpdfacdpaaW.PrintWords Go.Proofs.YtbemfgpdfacdpaaW.PrintLast Go.Proofs.YtbemfgpdfacdpaaW.PrintMore
set_option linter.unusedVariables false
set_option linter.unusedSimpArgs false
theorem drop_pre (pre a post : List Int) : ((pre ++ (a ++ post)).drop pre.length).take a.length = a := by
  rw [List.drop_left' rfl, List.take_left' rfl]
theorem enum_comp (pre post : List Int) (v : Int) (n : Nat) (h0 : 0 ≤ v) (h1 : v ≤ 9223372036854775807) (hs : v.toNat < 256 ^ n) (hn : n ≤ 8) : enumP (pre ++ (wnum v n ++ post)) pre.length false n = (v, pre.length + n, false) := by
  have hb : beV (wnum v n) = v.toNat := by
    have := beV_wnum v.toNat (by omega) n
    rw [Int.toNat_of_nonneg h0] at this
    rw [this, Nat.mod_eq_of_lt hs]
  have hd : ((pre ++ (wnum v n ++ post)).drop pre.length).take n = wnum v n := by
    have := drop_pre pre (wnum v n) post
    rw [wnum_length] at this
    exact this
  rw [enumP, if_neg (by rw [List.length_append, List.length_append, wnum_length]; simp), hd, hb]
  have e1 : wrap64 ((v.toNat : Nat) : Int) = v := by
    rw [Int.toNat_of_nonneg h0]
    clear hs hb hd
    unfold wrap64; omega
  rw [e1, decide_eq_false (by omega)]
theorem enum8_comp (pre post : List Int) (v : Int) (h : In63 v) : enumP (pre ++ (wnum v 8 ++ post)) pre.length false 8 = (v, pre.length + 8, false) :=
  enum_comp pre post v 8 h.1 h.2 (by rw [pow8]; have := h.2; omega) (by decide)
theorem eyes_comp (pre post : List Int) (y : Bool) : eyesP (pre ++ ([if y then (1 : Int) else 0] ++ post)) pre.length false = (y, pre.length + 1, false) := by
  cases y
  · have := enum_comp pre post 0 1 (by decide) (by decide) (by decide) (by decide)
    rw [eyesP]
    rw [show ([if false = true then (1 : Int) else 0] : List Int) = wnum 0 1 from rfl, this]
    rfl
  · have := enum_comp pre post 1 1 (by decide) (by decide) (by decide) (by decide)
    rw [eyesP]
    rw [show ([if true = true then (1 : Int) else 0] : List Int) = wnum 1 1 from rfl, this]
    rfl
theorem eil_comp : ∀ (vs : List Int) (pre post acc : List Int), (∀ v ∈ vs, In63 v) → eil (pre ++ (wints vs ++ post)) vs.length acc pre.length false = (acc ++ vs, pre.length + 8 * vs.length, false)
  | [], pre, post, acc, _ => by simp [eil]
  | v :: vs, pre, post, acc, h => by
    have hv := h v List.mem_cons_self
    have e : pre ++ (wints (v :: vs) ++ post) = pre ++ (wnum v 8 ++ (wints vs ++ post)) := by
      rw [wints, List.flatMap_cons, List.append_assoc]; rfl
    rw [List.length_cons, eil, if_neg (by decide), e, enum8_comp pre _ v hv]
    simp only []
    have e2 : pre ++ (wnum v 8 ++ (wints vs ++ post)) = (pre ++ wnum v 8) ++ (wints vs ++ post) := by rw [List.append_assoc]
    have e3 : pre.length + 8 = (pre ++ wnum v 8).length := by rw [List.length_append, wnum_length]
    rw [e2, e3, eil_comp vs (pre ++ wnum v 8) post (acc ++ [v]) (fun x hx => h x (List.mem_cons_of_mem _ hx)), List.append_assoc, List.length_append, wnum_length]
    simp only [List.singleton_append, Prod.mk.injEq, and_true, true_and]
    omega
theorem eints_comp (vs pre post : List Int) (h9 : vs.length ≤ 9) (h : ∀ v ∈ vs, In63 v) : eintsP (pre ++ (wmem vs ++ post)) pre.length false = (vs, pre.length + (wmem vs).length, false) := by
  have e : pre ++ (wmem vs ++ post) = pre ++ (wnum vs.length 1 ++ (wints vs ++ post)) := by rw [wmem, List.append_assoc]
  rw [eintsP, e, enum_comp pre _ (vs.length : Int) 1 (by omega) (by omega) (by simp; omega) (by decide)]
  simp only [Int.toNat_natCast]
  have e2 : pre ++ (wnum vs.length 1 ++ (wints vs ++ post)) = (pre ++ wnum vs.length 1) ++ (wints vs ++ post) := by rw [List.append_assoc]
  have e3 : pre.length + 1 = (pre ++ wnum vs.length 1).length := by rw [List.length_append, wnum_length]
  rw [e2, e3, eil_comp vs _ post [] h, List.nil_append, List.length_append, wnum_length, wmem, List.length_append, wnum_length, wints_length]
  simp only [Prod.mk.injEq, and_true, true_and]
  omega
theorem etext_comp (s : ByteArray) (pre post : List Int) (h : s.size ≤ 1000000) : etextP (pre ++ (wtext s ++ post)) pre.length false = (s, pre.length + (wtext s).length, false) := by
  have e : pre ++ (wtext s ++ post) = pre ++ (wnum s.size 4 ++ (bytesOf s ++ post)) := by rw [wtext, List.append_assoc]
  have e0 := enum_comp pre (bytesOf s ++ post) (s.size : Int) 4 (by omega) (by omega) (by rw [pow4]; omega) (by decide)
  have e2 : pre ++ (wnum s.size 4 ++ (bytesOf s ++ post)) = (pre ++ wnum s.size 4) ++ (bytesOf s ++ post) := by rw [List.append_assoc]
  have e3 : pre.length + 4 = (pre ++ wnum s.size 4).length := by rw [List.length_append, wnum_length]
  rw [etextP, e, e0]
  simp only [Int.toNat_natCast]
  rw [if_neg (by rw [List.length_append, List.length_append, List.length_append, wnum_length, bytesOf_length]; simp; omega), e2, e3]
  have hd := drop_pre (pre ++ wnum s.size 4) (bytesOf s) post
  rw [bytesOf_length] at hd
  rw [hd, str_bytesOf, List.length_append, wnum_length, wtext, List.length_append, wnum_length, bytesOf_length]
  simp only [Prod.mk.injEq, and_true, true_and]
  omega
/-- Three numbers. -/
def e3P (l : List Int) (i : Nat) (b : Bool) : Int × Int × Int × Nat × Bool :=
  ((enumP l i b 8).1, (enumP l (enumP l i b 8).2.1 (enumP l i b 8).2.2 8).1,
   (enumP l (enumP l (enumP l i b 8).2.1 (enumP l i b 8).2.2 8).2.1 (enumP l (enumP l i b 8).2.1 (enumP l i b 8).2.2 8).2.2 8))
theorem e3_comp (pre post : List Int) (x y z : Int) (hx : In63 x) (hy : In63 y) (hz : In63 z) : e3P (pre ++ (wints [x, y, z] ++ post)) pre.length false = (x, y, z, pre.length + 24, false) := by
  have e : pre ++ (wints [x, y, z] ++ post) = pre ++ (wnum x 8 ++ (wnum y 8 ++ (wnum z 8 ++ post))) := by simp [wints, List.append_assoc]
  have e1 := enum8_comp pre (wnum y 8 ++ (wnum z 8 ++ post)) x hx
  have e2 := enum8_comp (pre ++ wnum x 8) (wnum z 8 ++ post) y hy
  have e3 := enum8_comp (pre ++ wnum x 8 ++ wnum y 8) post z hz
  simp only [List.append_assoc, List.length_append, wnum_length] at e2 e3
  rw [e3P, e, e1]
  simp only []
  rw [e2]
  simp only []
  rw [show pre.length + 8 + 8 = pre.length + (8 + 8) by omega, e3]
/-- An entry. -/
def eentP (l : List Int) (i : Nat) (b : Bool) : S46 × Nat × Bool :=
  (⟨(e3P l i b).1, (e3P l i b).2.1, (e3P l i b).2.2.1, (etextP l (e3P l i b).2.2.2.1 (e3P l i b).2.2.2.2).1,
    (eintsP l (etextP l (e3P l i b).2.2.2.1 (e3P l i b).2.2.2.2).2.1 (etextP l (e3P l i b).2.2.2.1 (e3P l i b).2.2.2.2).2.2).1⟩,
   (eintsP l (etextP l (e3P l i b).2.2.2.1 (e3P l i b).2.2.2.2).2.1 (etextP l (e3P l i b).2.2.2.1 (e3P l i b).2.2.2.2).2.2).2)
theorem eent_comp (pre post : List Int) (e : S46) (h : goodE e) : eentP (pre ++ (wentry e ++ post)) pre.length false = (e, pre.length + (wentry e).length, false) := by
  obtain ⟨h0, h1, h2, h3, h4, h5⟩ := h
  have el : pre ++ (wentry e ++ post) = pre ++ (wints [e.f0, e.f1, e.f2] ++ (wtext e.f3 ++ (wmem e.f4 ++ post))) := by rw [wentry]; simp only [List.append_assoc]
  have e1 := e3_comp pre (wtext e.f3 ++ (wmem e.f4 ++ post)) e.f0 e.f1 e.f2 h0 h1 h2
  have e2 := etext_comp e.f3 (pre ++ wints [e.f0, e.f1, e.f2]) (wmem e.f4 ++ post) (by omega)
  have e3 := eints_comp e.f4 (pre ++ wints [e.f0, e.f1, e.f2] ++ wtext e.f3) post h4 h5
  have l3 : (wints [e.f0, e.f1, e.f2]).length = 24 := by rw [wints_length]; rfl
  simp only [List.append_assoc, List.length_append, l3] at e2 e3
  rw [eentP, el, e1]
  simp only []
  rw [e2]
  simp only []
  rw [show pre.length + 24 + (wtext e.f3).length = pre.length + (24 + (wtext e.f3).length) by omega, e3]
  simp only [Prod.mk.injEq, and_true, true_and]
  rw [wentry, List.length_append, List.length_append, l3]
  omega
/-- Entries, as long as there is no fault. -/
def eentL (l : List Int) : Nat → List S46 → Nat → Bool → List S46 × Nat × Bool
  | 0, acc, i, b => (acc, i, b)
  | k + 1, acc, i, b => if b = true then (acc, i, b) else eentL l k (acc ++ [(eentP l i b).1]) (eentP l i b).2.1 (eentP l i b).2.2
theorem eentL_comp : ∀ (es : List S46) (pre post : List Int) (acc : List S46), (∀ e ∈ es, goodE e) → eentL (pre ++ (es.flatMap wentry ++ post)) es.length acc pre.length false = (acc ++ es, pre.length + (es.flatMap wentry).length, false)
  | [], pre, post, acc, _ => by simp [eentL]
  | e :: es, pre, post, acc, h => by
    have el : pre ++ ((e :: es).flatMap wentry ++ post) = pre ++ (wentry e ++ (es.flatMap wentry ++ post)) := by rw [List.flatMap_cons, List.append_assoc]
    rw [List.length_cons, eentL, if_neg (by decide), el, eent_comp pre _ e (h e List.mem_cons_self)]
    simp only []
    have e2 : pre ++ (wentry e ++ (es.flatMap wentry ++ post)) = (pre ++ wentry e) ++ (es.flatMap wentry ++ post) := by rw [List.append_assoc]
    have e3 : pre.length + (wentry e).length = (pre ++ wentry e).length := by rw [List.length_append]
    rw [e2, e3, eentL_comp es (pre ++ wentry e) post (acc ++ [e]) (fun x hx => h x (List.mem_cons_of_mem _ hx)), List.append_assoc, List.length_append, List.flatMap_cons, List.length_append]
    simp only [List.singleton_append, Prod.mk.injEq, and_true, true_and]
    omega
def eentsP (l : List Int) (i : Nat) (b : Bool) : List S46 × Nat × Bool := eentL l (enumP l i b 1).1.toNat [] (enumP l i b 1).2.1 (enumP l i b 1).2.2
theorem eents_comp (es : List S46) (pre post : List Int) (h8 : es.length ≤ 8) (h : ∀ e ∈ es, goodE e) : eentsP (pre ++ (wents es ++ post)) pre.length false = (es, pre.length + (wents es).length, false) := by
  have e : pre ++ (wents es ++ post) = pre ++ (wnum es.length 1 ++ (es.flatMap wentry ++ post)) := by rw [wents, List.append_assoc]
  rw [eentsP, e, enum_comp pre _ (es.length : Int) 1 (by omega) (by omega) (by simp; omega) (by decide)]
  simp only [Int.toNat_natCast]
  have e2 : pre ++ (wnum es.length 1 ++ (es.flatMap wentry ++ post)) = (pre ++ wnum es.length 1) ++ (es.flatMap wentry ++ post) := by rw [List.append_assoc]
  have e3 : pre.length + 1 = (pre ++ wnum es.length 1).length := by rw [List.length_append, wnum_length]
  rw [e2, e3, eentL_comp es _ post [] h, List.nil_append, List.length_append, wnum_length, wents, List.length_append, wnum_length]
  simp only [Prod.mk.injEq, and_true, true_and]
  omega
end Go.Proofs.Ytbemfgpdfacdpaa.Ms
