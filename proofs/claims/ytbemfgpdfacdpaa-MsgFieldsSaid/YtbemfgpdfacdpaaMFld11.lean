/- 13 texts of the proof, put together, less what is not used; what a tool printed stands among them. -/
import Derived.ChangeSlices
import Derived.Test.YtbemfgpdfacdpaaMFld10
namespace Go.Proofs.Ytbemfgpdfacdpaa.Ms
open Go.RowKit Go.Proofs.Ytbemfgpdfacdpaa.Pr Go.Proofs.YtbemfgpdfacdpaaW.PrintWords Go.Proofs.YtbemfgpdfacdpaaW.PrintLast Go.Proofs.YtbemfgpdfacdpaaW.PrintMore
set_option linter.unusedVariables false
set_option linter.unusedSimpArgs false
theorem beV_wnum (v : Nat) (hv : v < 18446744073709551616) : ∀ s, beV (wnum (v : Int) s) = v % 256 ^ s
  | 0 => by simp [wnum, beV, Nat.mod_one]
  | s + 1 => by
    rw [wnum, beV_cons, wnum_length, beV_wnum v hv s, Nat.mod_pow_succ]
    have h1 : ((v : Int) % 18446744073709551616) = (v : Int) := Int.emod_eq_of_lt (by omega) (by omega)
    have h2 : ((256 : Int) ^ s) = ((256 ^ s : Nat) : Int) := by simp
    rw [h1, h2, ← Int.natCast_ediv, show (((v / 256 ^ s : Nat) : Int) % 256).toNat = v / 256 ^ s % 256 by omega, Nat.mul_comm, Nat.add_comm]
theorem num_comp (v : Int) (r : List Int) (s most : Nat) (h0 : 0 ≤ v) (hm : v ≤ most) (hs : v.toNat < 256 ^ s) (h8 : s ≤ 8) : numP (wnum v s ++ r) false s most = (v.toNat, r, false) := by
  have h3 : (256 : Nat) ^ s ≤ 256 ^ 8 := Nat.pow_le_pow_right (by decide) h8
  have h4 : (256 : Nat) ^ 8 = 18446744073709551616 := by decide
  have ht : takeP (wnum v s ++ r) false s = (wnum v s, r, false) := by
    unfold takeP
    rw [if_neg (by rw [List.length_append, wnum_length]; simp)]
    rw [List.take_left' (wnum_length _ _), List.drop_left' (wnum_length _ _)]
  have hb : beV (wnum v s) = v.toNat := by
    have := beV_wnum v.toNat (by omega) s
    rw [Int.toNat_of_nonneg h0] at this
    rw [this, Nat.mod_eq_of_lt hs]
  unfold numP
  rw [ht, hb, if_neg (by omega)]
theorem take_comp (t r : List Int) : takeP (t ++ r) false t.length = (t, r, false) := by
  unfold takeP
  rw [if_neg (by rw [List.length_append]; simp), List.take_left' rfl, List.drop_left' rfl]
abbrev In63 (v : Int) : Prop := 0 ≤ v ∧ v ≤ 9223372036854775807
theorem pow8 : (256 : Nat) ^ 8 = 18446744073709551616 := by decide
theorem num8_comp (v : Int) (r : List Int) (h : In63 v) : numP (wnum v 8 ++ r) false 8 maxI = (v.toNat, r, false) :=
  num_comp v r 8 maxI h.1 h.2 (by rw [pow8]; have := h.2; omega) (by decide)
theorem ints_comp (vs r : List Int) (h : ∀ v ∈ vs, In63 v) : ∀ m, m ≤ vs.length → intsP (wints vs ++ r) false m = (vs.take m, wints (vs.drop m) ++ r, false)
  | 0, _ => by simp [intsP]
  | m + 1, hm => by
    have hi : m < vs.length := by omega
    have hd : wints (vs.drop m) ++ r = wnum vs[m] 8 ++ (wints (vs.drop (m + 1)) ++ r) := by
      rw [List.drop_eq_getElem_cons hi, wints, List.flatMap_cons, List.append_assoc]; rfl
    have hv := h vs[m] (List.getElem_mem hi)
    rw [intsP, ints_comp vs r h m (by omega)]
    simp only [hd]
    rw [num8_comp _ _ hv, List.take_succ_eq_append_getElem hi]
    simp only [Int.toNat_of_nonneg hv.1]
theorem ints_all (vs r : List Int) (h : ∀ v ∈ vs, In63 v) : intsP (wints vs ++ r) false vs.length = (vs, r, false) := by
  rw [ints_comp vs r h vs.length (Nat.le_refl _), List.take_length, List.drop_length]
  rfl
theorem mem_comp (vs r : List Int) (h9 : vs.length ≤ 9) (h : ∀ v ∈ vs, In63 v) : memP (wmem vs ++ r) false = (vs, r, false) := by
  rw [memP, wmem, List.append_assoc, num_comp (vs.length : Int) _ 1 9 (by omega) (by omega) (by simp; omega) (by decide)]
  simp only [Int.toNat_natCast]
  exact ints_all vs r h
theorem str_bytesOf (s : ByteArray) : strOfNums (bytesOf s) = s := by
  apply ByteArray.ext
  apply Array.ext'
  rw [strOfNums_data, bytesOf, List.map_map]
  simp [Function.comp_def]
theorem pow4 : (256 : Nat) ^ 4 = 4294967296 := by decide
theorem text_comp (s : ByteArray) (r : List Int) (most : Nat) (h : s.size ≤ most) (h4 : most ≤ 4294967295) : textP (wtext s ++ r) false most = (s, r, false) := by
  rw [textP, wtext, List.append_assoc, num_comp (s.size : Int) _ 4 most (by omega) (by omega) (by rw [pow4]; omega) (by decide)]
  simp only [Int.toNat_natCast]
  rw [← bytesOf_length s, take_comp, str_bytesOf]
theorem entry_comp (e : S46) (r : List Int) (h : goodE e) : entryP (wentry e ++ r) false = (e, r, false) := by
  obtain ⟨h0, h1, h2, h3, h4, h5⟩ := h
  have hi : intsP (wentry e ++ r) false 3 = ([e.f0, e.f1, e.f2], wtext e.f3 ++ (wmem e.f4 ++ r), false) := by
    rw [wentry, List.append_assoc, List.append_assoc]
    exact ints_all [e.f0, e.f1, e.f2] _ (fun v hv => by
      simp at hv
      rcases hv with rfl | rfl | rfl
      · exact h0
      · exact h1
      · exact h2)
  rw [entryP, hi]
  simp only []
  rw [text_comp _ _ _ h3 (by decide)]
  simp only []
  rw [mem_comp _ _ h4 h5]
  rfl
theorem entL_comp (r : List Int) : ∀ (es acc : List S46), (∀ e ∈ es, goodE e) → entL es.length acc (es.flatMap wentry ++ r) false = (acc ++ es, r, false)
  | [], acc, _ => by simp [entL]
  | e :: es, acc, h => by
    rw [List.length_cons, entL, if_neg (by decide), List.flatMap_cons, List.append_assoc, entry_comp e _ (h e List.mem_cons_self)]
    simp only []
    rw [entL_comp r es _ (fun x hx => h x (List.mem_cons_of_mem _ hx)), List.append_assoc]
    rfl
theorem ents_comp (es : List S46) (r : List Int) (h8 : es.length ≤ 8) (h : ∀ e ∈ es, goodE e) : entP (wents es ++ r) false = (es, r, false) := by
  rw [entP, wents, List.append_assoc, num_comp (es.length : Int) _ 1 8 (by omega) (by omega) (by simp; omega) (by decide)]
  simp only [Int.toNat_natCast]
  rw [entL_comp r es [] h, List.nil_append]
theorem head_comp (k : Nat) (hk : k ≤ 5) (fr tt tm : Int) (h1 : In63 fr) (h2 : In63 tt) (h3 : In63 tm) (body : List Int) : headP (wnum (k : Int) 1 ++ wints [fr, tt, tm] ++ body) = (k, [fr, tt, tm], body, false) := by
  rw [headP, List.append_assoc, num_comp (k : Int) _ 1 5 (by omega) (by omega) (by simp; omega) (by decide)]
  simp only [Int.toNat_natCast]
  rw [show (3 : Nat) = [fr, tt, tm].length from rfl, ints_all [fr, tt, tm] body (fun v hv => by
    simp at hv
    rcases hv with rfl | rfl | rfl
    · exact h1
    · exact h2
    · exact h3)]
theorem rawP_of (k : Nat) (hk : k ≤ 5) (fr tt tm : Int) (h1 : In63 fr) (h2 : In63 tt) (h3 : In63 tm) (body : List Int) : rawP (wnum (k : Int) 1 ++ wints [fr, tt, tm] ++ body) = bodyP (k : Int) fr tt tm body false := by
  rw [rawP, head_comp k hk fr tt tm h1 h2 h3 body]
  rfl
theorem ints2 (x y : Int) (r : List Int) (hx : In63 x) (hy : In63 y) : intsP (wints [x, y] ++ r) false 2 = ([x, y], r, false) := ints_all [x, y] r (fun v hv => by
  simp at hv
  rcases hv with rfl | rfl
  · exact hx
  · exact hy)
theorem ints3 (x y z : Int) (r : List Int) (hx : In63 x) (hy : In63 y) (hz : In63 z) : intsP (wints [x, y, z] ++ r) false 3 = ([x, y, z], r, false) := ints_all [x, y, z] r (fun v hv => by
  simp at hv
  rcases hv with rfl | rfl | rfl
  · exact hx
  · exact hy
  · exact hz)
theorem ints1 (x : Int) (r : List Int) (hx : In63 x) : intsP (wints [x] ++ r) false 1 = ([x], r, false) := ints_all [x] r (fun v hv => by
  simp at hv
  subst hv
  exact hx)
theorem yes_comp (y : Bool) (r : List Int) : numP ([if y then (1 : Int) else 0] ++ r) false 1 1 = ((if y then 1 else 0), r, false) := by
  cases y
  · exact num_comp 0 r 1 1 (by decide) (by decide) (by decide) (by decide)
  · exact num_comp 1 r 1 1 (by decide) (by decide) (by decide) (by decide)
theorem yes_back (y : Bool) : (((if y then 1 else 0 : Nat) : Int) == 1) = y := by cases y <;> rfl
theorem raw_comp {m : M13} (h : goodM m) (r : List Int) : rawP (rawW m ++ r) = (m, r, false) := by
  obtain ⟨h1, h2, h3, h4⟩ := h
  rcases h4 with ⟨hk, x, y, hx, hy, hm⟩ | ⟨hk, y, hm⟩ | ⟨hk, x, y, z, es', hx, hy, hz, he, hg, hm⟩ | ⟨hk, x, y, hx, hm⟩ | ⟨hk, x, y, ms, s, hx, hy, h9, hg, hs, hm⟩
  · rw [hm, rawW_1, List.append_assoc]
    refine (rawP_of 1 (by decide) _ _ _ h1 h2 h3 _).trans ?_
    rw [bodyP_1, ints2 x y r hx hy]
    rfl
  · rw [hm, rawW_2, List.append_assoc]
    refine (rawP_of 2 (by decide) _ _ _ h1 h2 h3 _).trans ?_
    rw [bodyP_2, yes_comp]
    simp only [yes_back]
  · rw [hm, rawW_3, List.append_assoc, List.append_assoc]
    refine (rawP_of 3 (by decide) _ _ _ h1 h2 h3 _).trans ?_
    rw [bodyP_3]
    simp only [List.append_assoc]
    rw [ints3 x y z _ hx hy hz]
    simp only []
    rw [ents_comp es' r he hg]
    rfl
  · rw [hm, rawW_4, List.append_assoc, List.append_assoc]
    refine (rawP_of 4 (by decide) _ _ _ h1 h2 h3 _).trans ?_
    rw [bodyP_4]
    simp only [List.append_assoc]
    rw [yes_comp]
    simp only []
    rw [ints1 x r hx, yes_back]
    rfl
  · rw [hm, rawW_5, List.append_assoc, List.append_assoc, List.append_assoc]
    refine (rawP_of 5 (by decide) _ _ _ h1 h2 h3 _).trans ?_
    rw [bodyP_5]
    simp only [List.append_assoc]
    rw [ints2 x y _ hx hy]
    simp only []
    rw [mem_comp ms _ h9 hg]
    simp only []
    rw [text_comp s r 65536 hs (by decide)]
    rfl
/-- What is written, with a rest behind it, is no message but where there is none. -/
theorem dec_comp {m : M13} (h : goodM m) (hf : isNode m.fr = true) (ht : isNode m.tt = true) : decP (rawW m) = some m := by
  have := raw_comp h []
  rw [List.append_nil] at this
  rw [decP, this]
  simp [hf, ht]
/-- A message's numbers and texts as a machine can hold them. -/
def fitE (e : S46) : Prop := e.f0 ≤ 9223372036854775807 ∧ e.f1 ≤ 9223372036854775807 ∧ e.f2 ≤ 9223372036854775807 ∧ ∀ v ∈ e.f4, v ≤ 9223372036854775807
theorem goodE_of {e : S46} (h : fitE e) (ho : oddE e = false) : goodE e := by
  obtain ⟨f0, f1, f2, f4⟩ := h
  rw [oddE] at ho
  simp only [Bool.or_eq_false_iff, List.any_eq_false, decide_eq_true_eq, decide_eq_false_iff_not] at ho
  obtain ⟨h1, h2, h3, h4⟩ := ho
  have q0 := h1 e.f0 (by simp)
  have q1 := h1 e.f1 (by simp)
  have q2 := h1 e.f2 (by simp)
  exact ⟨⟨by omega, f0⟩, ⟨by omega, f1⟩, ⟨by omega, f2⟩, by omega, by omega, fun v hv => ⟨by have := h4 v hv; omega, f4 v hv⟩⟩
/-- What is written was a message that may be, and is read as it was. -/
theorem enc_some {m : M13} {b : List Int} (hf : ∀ e ∈ m.es, fitE e) (h : encP m = some b) : b = rawW m ∧ goodM m ∧ decP b = some m := by
  rw [encP] at h
  split at h
  · cases h
  · rename_i hbad
    cases hd : decP (rawW m) with
    | none => rw [hd] at h; cases h
    | some x =>
      rw [hd] at h
      simp only at h
      split at h
      · rename_i hs
        cases h
        obtain ⟨e, g⟩ := dec_sound (rawW_bytes m) hd
        have hs' := of_decide_eq_true hs
        obtain ⟨s1, s2, s3, s4, s5, s6, s7, s8, s9, s10, s11, s12, s13⟩ := hs'
        have hmx : m = { x with es := m.es } := by
          obtain ⟨kd, fr, tt, tm, ix, lt, cm, ys, es, si, st, sm, sd⟩ := m
          simp only at s1 s2 s3 s4 s5 s6 s7 s8 s9 s10 s11 s12
          subst s1 s2 s3 s4 s5 s6 s7 s8 s9 s10 s11 s12
          rfl
        have hes : m.es = x.es := by
          obtain ⟨g1, g2, g3, g4⟩ := g
          have hnil : x.es = [] → m.es = x.es := fun h => by rw [h] at s13 ⊢; exact List.eq_nil_of_length_eq_zero s13
          rcases g4 with ⟨hk, a, c, ha, hc, hm⟩ | ⟨hk, a, hm⟩ | ⟨hk, a, c, d, es', ha, hc, hd', he, hg, hm⟩ | ⟨hk, a, c, ha, hm⟩ | ⟨hk, a, c, ms, s, ha, hc, h9, hg, hs, hm⟩
          · exact hnil (by rw [hm])
          · exact hnil (by rw [hm])
          · have hxe : x.es = es' := by rw [hm]
            have hmm : m = ⟨3, x.fr, x.tt, x.tm, a, c, d, false, m.es, 0, 0, [], ⟨#[]⟩⟩ := by
              rw [hm] at hmx
              exact hmx
            have hg' : ∀ e ∈ m.es, goodE e := fun e he' => goodE_of (hf e he') (by
              have hb : badW m = false := by simpa using hbad
              rw [hmm, badW_3] at hb
              simp only [Bool.or_eq_false_iff, List.any_eq_false] at hb
              simpa using hb.2.2.2 e he')
            have gm : goodM m := by
              rw [hmm]
              exact ⟨g1, g2, g3, .inr (.inr (.inl ⟨rfl, a, c, d, m.es, ha, hc, hd', by rw [s13, hxe]; exact he, hg', rfl⟩))⟩
            have r1 := raw_comp gm []
            have r2 := raw_comp (m := x) ⟨g1, g2, g3, .inr (.inr (.inl ⟨hk, a, c, d, es', ha, hc, hd', he, hg, hm⟩))⟩ []
            rw [e, r2] at r1
            have := congrArg (fun p => p.1.es) r1
            exact this.symm
          · exact hnil (by rw [hm])
          · exact hnil (by rw [hm])
        have hmx' : m = x := by rw [hmx, hes]
        exact ⟨rfl, by rw [hmx']; exact g, by rw [hd, hmx']⟩
      · cases h
end Go.Proofs.Ytbemfgpdfacdpaa.Ms
namespace Go.Proofs.Ytbemfgpdfacdpaa.Ms
open Go.RowKit Go.Proofs.Ytbemfgpdfacdpaa.Pr Go.Proofs.YtbemfgpdfacdpaaW.PrintWords Go.Proofs.YtbemfgpdfacdpaaW.PrintLast Go.Proofs.YtbemfgpdfacdpaaW.PrintMore
open Go.ChangeShapes Go.WideShapes
set_option linter.unusedVariables false
set_option linter.unusedSimpArgs false
abbrev R64 (v : Int) : Prop := -9223372036854775808 ≤ v ∧ v ≤ 9223372036854775807
theorem wf_i64 {x : Int} (h : (Lit.int .i64 x).wf = true) : R64 x := by
  simp [Lit.wf, IntKind.min, IntKind.max, IntKind.signed, IntKind.bits] at h
  exact h
theorem C_take_i64 {w : World} {a : Addr} {len cap : Nat} {zs : List Int} (hl : len ≤ cap) (hm : cap ≤ maxLen) (hz : zs.length = cap) (hc : ∀ i, i < zs.length → w.cell? (a.add i) = some (.int .i64 (zs.getD i 0))) : (Kd.int .i64).C w (some a) (zs.take len).length (zs.take len) := by
  have e : (zs.take len).length = len := by rw [List.length_take]; omega
  refine Kd.C_of_reads (d := (0 : Int)) (h1 := fun _ => rfl) ⟨rfl, by rw [e]; exact Nat.le_trans hl hm, fun h0 => ⟨_, rfl, fun j hj => ?_⟩⟩
  rw [e] at hj
  rw [hc j (by omega)]
  simp [List.getD_eq_getElem?_getD, List.getElem?_take, hj]
abbrev reach : Nat := 140737488351232
section
variable {H : Type} {enc : TypeId × Value → H} {W : World}
theorem open_is {n : Nat} {cs : List Value} {y : DataW H × List MemPlace} (h : DataW.trod enc Try.prog W 0 (fun _ => true) true n 23 cs = some y) (hw : ∀ k ∈ y.1.weights Try.prog 23, k ≤ reach) :
    ∃ A c zs, cs = [.slice A zs.length c] ∧ zs.length ≤ c ∧ (Kd.int .i64).C W A zs.length zs ∧ (∀ v ∈ zs, R64 v) ∧ zs.length * 8 ≤ reach := by
  rcases open_ints Try.underlying23 Try.underlying3 (by kernel_rfl) h with ⟨rfl, rfl⟩ | ⟨a, len, cap, zs, rfl, _, hl, hm, hz, rfl, hcell, hwz⟩
  · exact ⟨none, 0, [], rfl, Nat.le_refl _, Kd.C_nil _ _, (fun v hv => by cases hv), by decide⟩
  · simp only [if_true] at hz
    have e : (zs.take len).length = len := by rw [List.length_take]; omega
    refine ⟨some a, cap, zs.take len, by rw [e], by rw [e]; exact hl, C_take_i64 hl hm hz hcell, fun v hv => wf_i64 (hwz v (List.mem_of_mem_take hv)), ?_⟩
    have hb : Try.prog.bytesOf 3 = 8 := by kernel_rfl
    have := hw ((len + (cap - len)) * 8) (by
      rw [DataW.weights, Try.underlying23]
      simp only [lits, List.length_map, hb]
      refine List.mem_cons.2 (.inl ?_)
      simp [List.length_take, List.length_drop]
      omega)
    rw [e]
    omega
def FitS (e : S46) : Prop := R64 e.f0 ∧ R64 e.f1 ∧ R64 e.f2 ∧ e.f3.size ≤ reach ∧ e.f4.length * 8 ≤ reach ∧ ∀ v ∈ e.f4, R64 v
theorem open_entry {n : Nat} {cs : List Value} {y : DataW H × List MemPlace} (h : DataW.trod enc Try.prog W 0 (fun _ => true) true n 46 cs = some y) (hw : ∀ k ∈ y.1.weights Try.prog 46, k ≤ reach) :
    ∃ e : S46, k46.K W e cs ∧ FitS e := by
  obtain ⟨xs, m, _, rfl, hl, hlen, hf⟩ := DataW.trod_struct Try.underlying46 h
  have hC : Try.prog.cellsOf 46 = 5 := by kernel_rfl
  rw [hC] at hl
  match cs, hl with
  | [v0, v1, v2, v3, v4], _ =>
    match xs, hlen with
    | [y0, y1, y2, y3, y4], _ =>
      have c3 : Try.prog.cellsOf 3 = 1 := by kernel_rfl
      have c9 : Try.prog.cellsOf 9 = 1 := by kernel_rfl
      have c23 : Try.prog.cellsOf 23 = 1 := by kernel_rfl
      have h0 := hf 0 _ rfl
      have h1 := hf 1 _ rfl
      have h2 := hf 2 _ rfl
      have h3 := hf 3 _ rfl
      have h4 := hf 4 _ rfl
      simp [c3] at h0 h1 h2
      simp [c9] at h3
      simp [c23] at h4
      obtain ⟨i0, e0, rfl, w0⟩ := DataW.trod_int Try.underlying3 h0
      obtain ⟨i1, e1, rfl, w1⟩ := DataW.trod_int Try.underlying3 h1
      obtain ⟨i2, e2, rfl, w2⟩ := DataW.trod_int Try.underlying3 h2
      obtain ⟨s, e3, rfl, w3⟩ := DataW.trod_string Try.underlying9 h3
      cases e0; cases e1; cases e2; cases e3
      have hW : ∀ k, k = s.data.toList.length ∨ k ∈ y4.1.weights Try.prog 23 → k ≤ reach := fun k hk => hw k (by
        rw [DataW.weights, Try.underlying46]
        simp only [List.map_cons, List.map_nil, DataW.weightsEach, DataW.weights, List.nil_append, List.append_nil, List.mem_append, List.mem_singleton, Array.toList]
        exact hk)
      obtain ⟨A, c, zs, e4, hc, hC4, hr, h8⟩ := open_is h4 (fun k hk => hW k (.inr hk))
      cases e4
      refine ⟨⟨i0, i1, i2, s, zs⟩, k46_mk W ⟨i0, i1, i2, s, zs⟩ hc hC4, wf_i64 w0, wf_i64 w1, wf_i64 w2, ?_, h8, hr⟩
      have := hW _ (.inl rfl)
      simpa using this
theorem mem_weights {e : TypeId} {k : Nat} {d : DataW H} : ∀ {ds : List (DataW H)}, d ∈ ds → k ∈ d.weights Try.prog e → k ∈ DataW.weightsAll Try.prog e ds
  | [], h, _ => by cases h
  | x :: xs, h, hk => by
    rw [DataW.weightsAll, List.mem_append]
    rcases List.mem_cons.1 h with rfl | h
    · exact .inl hk
    · exact .inr (mem_weights h hk)
theorem list_of {α : Type} {P : Nat → α → Prop} : ∀ (n : Nat), (∀ i, i < n → ∃ a, P i a) → ∃ l : List α, l.length = n ∧ ∀ i a, l[i]? = some a → P i a
  | 0, _ => ⟨[], rfl, fun i a h => by simp at h⟩
  | n + 1, h => by
    obtain ⟨l, hl, hp⟩ := list_of n (fun i hi => h i (by omega))
    obtain ⟨a, ha⟩ := h n (by omega)
    refine ⟨l ++ [a], by simp [hl], fun i b hb => ?_⟩
    by_cases hi : i < n
    · rw [List.getElem?_append_left (by omega)] at hb
      exact hp i b hb
    · rw [List.getElem?_append_right (by omega)] at hb
      have : i = n := by
        have := (List.getElem?_eq_some_iff.1 hb).1
        simp at this
        omega
      subst this
      simp [hl] at hb
      rw [← hb]; exact ha
theorem open_es {n : Nat} {cs : List Value} {y : DataW H × List MemPlace} (h : DataW.trod enc Try.prog W 0 (fun _ => true) true n 22 cs = some y) (hw : ∀ k ∈ y.1.weights Try.prog 22, k ≤ reach) :
    ∃ A c es, cs = [.slice A es.length c] ∧ es.length ≤ c ∧ k46.C W A es.length es ∧ (∀ e ∈ es, FitS e) ∧ es.length * 64 ≤ reach := by
  rcases DataW.trod_slice Try.underlying22 h with ⟨rfl, rfl⟩ | ⟨a, len, cap, elems, rest, m, _, rfl, rfl, _, hl, hm, hlen, hel, hsp, _⟩
  · exact ⟨none, 0, [], rfl, Nat.le_refl _, Kd.C_nil _ _, (fun v hv => by cases hv), by decide⟩
  · obtain ⟨hrl, _⟩ := hsp rfl
    have hC : Try.prog.cellsOf 46 = 5 := by kernel_rfl
    have hb : Try.prog.bytesOf 46 = 64 := by kernel_rfl
    have hW : ∀ k, k = (elems.length + rest.length) * 64 ∨ k ∈ DataW.weightsAll Try.prog 46 (elems.map (·.1)) → k ≤ reach := fun k hk => hw k (by
      rw [DataW.weights, Try.underlying22]
      simp only [List.length_map, hb, List.mem_cons, List.mem_append]
      rcases hk with hk | hk
      · exact .inl hk
      · exact .inr (.inl hk))
    have each : ∀ i, i < len → ∃ e : S46, FitS e ∧ ∃ c, c.length = 5 ∧ k46.K W e c ∧ ∀ j u, c[j]? = some u → W.cell? (a.add (i * 5 + j)) = some u := fun i hi => by
      have hy := hel i hi
      rw [hC] at hy
      obtain ⟨y, hy'⟩ : ∃ y, elems[i]? = some y := ⟨_, List.getElem?_eq_getElem (by omega)⟩
      rw [hy', Option.bind_eq_some_iff] at hy
      obtain ⟨c, hc, ht⟩ := hy
      obtain ⟨_, hcl, hcell⟩ := World.cells?_some hc
      obtain ⟨e, hK, hF⟩ := open_entry ht (fun k hk => hW k (.inr (mem_weights (List.mem_map.2 ⟨y, List.mem_of_getElem? hy', rfl⟩) hk)))
      refine ⟨e, hF, c, hcl, hK, fun j u hu => ?_⟩
      have hj : j < 5 := by have := (List.getElem?_eq_some_iff.1 hu).1; omega
      have := hcell j hj
      rw [Addr.add_add] at this
      rw [this, hu]
    obtain ⟨es, hes, hp⟩ := list_of len each
    refine ⟨some a, cap, es, by rw [hes], by rw [hes]; exact hl, ⟨rfl, by rw [hes]; exact Nat.le_trans hl hm, fun _ => ⟨a, rfl, fun j p hj => (hp j p hj).2⟩⟩, fun e he => ?_, ?_⟩
    · obtain ⟨i, hi⟩ := List.getElem?_of_mem he
      exact (hp i e hi).1
    · have := hW _ (.inl rfl)
      rw [hes]; omega
def FitM (m : M13) : Prop := R64 m.kd ∧ R64 m.fr ∧ R64 m.tt ∧ R64 m.tm ∧ R64 m.ix ∧ R64 m.lt ∧ R64 m.cm ∧ R64 m.si ∧ R64 m.st ∧ (∀ e ∈ m.es, FitS e) ∧ m.es.length * 64 ≤ reach ∧ (∀ v ∈ m.sm, R64 v) ∧ m.sm.length * 8 ≤ reach ∧ m.sd.size ≤ reach
theorem open_snap {n : Nat} {cs : List Value} {y : DataW H × List MemPlace} (h : DataW.trod enc Try.prog W 0 (fun _ => true) true n 25 cs = some y) (hw : ∀ k ∈ y.1.weights Try.prog 25, k ≤ reach) :
    ∃ si st A c sm sd, cs = [.int .i64 si, .int .i64 st, .slice A sm.length c, .string sd] ∧ R64 si ∧ R64 st ∧ sm.length ≤ c ∧ (Kd.int .i64).C W A sm.length sm ∧ (∀ v ∈ sm, R64 v) ∧ sm.length * 8 ≤ reach ∧ sd.size ≤ reach := by
  obtain ⟨xs, m, _, rfl, hl, hlen, hf⟩ := DataW.trod_struct Try.underlying25 h
  have hC : Try.prog.cellsOf 25 = 4 := by kernel_rfl
  rw [hC] at hl
  match cs, hl with
  | [v0, v1, v2, v3], _ =>
    match xs, hlen with
    | [y0, y1, y2, y3], _ =>
      have c3 : Try.prog.cellsOf 3 = 1 := by kernel_rfl
      have c9 : Try.prog.cellsOf 9 = 1 := by kernel_rfl
      have c23 : Try.prog.cellsOf 23 = 1 := by kernel_rfl
      have h0 := hf 0 _ rfl
      have h1 := hf 1 _ rfl
      have h2 := hf 2 _ rfl
      have h3 := hf 3 _ rfl
      simp [c3] at h0 h1
      simp [c23] at h2
      simp [c9] at h3
      obtain ⟨i0, e0, rfl, w0⟩ := DataW.trod_int Try.underlying3 h0
      obtain ⟨i1, e1, rfl, w1⟩ := DataW.trod_int Try.underlying3 h1
      obtain ⟨s, e3, rfl, w3⟩ := DataW.trod_string Try.underlying9 h3
      cases e0; cases e1; cases e3
      have hW : ∀ k, k ∈ y2.1.weights Try.prog 23 ∨ k = s.data.toList.length → k ≤ reach := fun k hk => hw k (by
        rw [DataW.weights, Try.underlying25]
        simp only [List.map_cons, List.map_nil, DataW.weightsEach, DataW.weights, List.nil_append, List.append_nil, List.mem_append, List.mem_singleton, Array.toList]
        exact hk)
      obtain ⟨A, c, zs, e2, hc, hC2, hr, h8⟩ := open_is h2 (fun k hk => hW k (.inl hk))
      cases e2
      refine ⟨i0, i1, A, c, zs, s, rfl, wf_i64 w0, wf_i64 w1, hc, hC2, hr, h8, ?_⟩
      have := hW _ (.inr rfl)
      simpa using this
theorem open_msg {r : Reach} {b : Nat} {v : Value} {d : DataW H} {ps : List MemPlace} (hv : Value.okWide Try.prog W r b 27 v) (h : DataW.Trod enc Try.prog W 0 (fun _ => true) true 27 v d ps) (hw : ∀ k ∈ d.weights Try.prog 27, k ≤ reach) :
    ∃ (m : M13) (A8 : Option Addr) (n8 c8 : Nat) (A11 : Option Addr) (n11 c11 : Nat), v = .agg (mcells m (.slice A8 n8 c8) (.slice A11 n11 c11)) ∧ (n8 = m.es.length ∧ n8 ≤ c8 ∧ k46.C W A8 n8 m.es) ∧ (n11 = m.sm.length ∧ n11 ≤ c11 ∧ (Kd.int .i64).C W A11 n11 m.sm) ∧ FitM m := by
  obtain ⟨cs, rfl, hsz⟩ := okWide_struct Try.underlying27 hv
  obtain ⟨fuel, hf0⟩ := h
  obtain ⟨xs, m, _, hx, hl, hlen, hf⟩ := DataW.trod_struct Try.underlying27 hf0
  have hC : Try.prog.cellsOf 27 = 13 := by kernel_rfl
  rw [hC] at hsz
  obtain ⟨l, rfl⟩ : ∃ l : List Value, cs = l.toArray := ⟨cs.toList, by simp⟩
  simp only [List.size_toArray] at hsz
  simp only [Value.cells, List.toList_toArray] at hl hf
  simp only [Prod.mk.injEq] at hx
  obtain ⟨rfl, _⟩ := hx
  match l, hsz with
  | [v0, v1, v2, v3, v4, v5, v6, v7, v8, v9, v10, v11, v12], _ =>
    match xs, hlen with
    | [y0, y1, y2, y3, y4, y5, y6, y7, y8, y9], _ =>
      have c3 : Try.prog.cellsOf 3 = 1 := by kernel_rfl
      have c4 : Try.prog.cellsOf 4 = 1 := by kernel_rfl
      have c22 : Try.prog.cellsOf 22 = 1 := by kernel_rfl
      have c25 : Try.prog.cellsOf 25 = 4 := by kernel_rfl
      have h0 := hf 0 _ rfl
      have h1 := hf 1 _ rfl
      have h2 := hf 2 _ rfl
      have h3 := hf 3 _ rfl
      have h4 := hf 4 _ rfl
      have h5 := hf 5 _ rfl
      have h6 := hf 6 _ rfl
      have h7 := hf 7 _ rfl
      have h8 := hf 8 _ rfl
      have h9 := hf 9 _ rfl
      simp [c3] at h0 h1 h2 h3 h4 h5 h6
      simp [c4] at h7
      simp [c22] at h8
      simp [c25] at h9
      obtain ⟨i0, e0, rfl, w0⟩ := DataW.trod_int Try.underlying3 h0
      obtain ⟨i1, e1, rfl, w1⟩ := DataW.trod_int Try.underlying3 h1
      obtain ⟨i2, e2, rfl, w2⟩ := DataW.trod_int Try.underlying3 h2
      obtain ⟨i3, e3, rfl, w3⟩ := DataW.trod_int Try.underlying3 h3
      obtain ⟨i4, e4, rfl, w4⟩ := DataW.trod_int Try.underlying3 h4
      obtain ⟨i5, e5, rfl, w5⟩ := DataW.trod_int Try.underlying3 h5
      obtain ⟨i6, e6, rfl, w6⟩ := DataW.trod_int Try.underlying3 h6
      obtain ⟨i7, e7, rfl⟩ := DataW.trod_bool Try.underlying4 h7
      cases e0; cases e1; cases e2; cases e3; cases e4; cases e5; cases e6; cases e7
      have hW : ∀ k, k ∈ y8.1.weights Try.prog 22 ∨ k ∈ y9.1.weights Try.prog 25 → k ≤ reach := fun k hk => hw k (by
        rw [DataW.weights, Try.underlying27]
        simp only [List.map_cons, List.map_nil, DataW.weightsEach, DataW.weights, List.nil_append, List.append_nil, List.mem_append, List.mem_singleton, Array.toList]
        exact hk)
      obtain ⟨A8, c8, es, e8, hc8, hC8, hF8, hz8⟩ := open_es h8 (fun k hk => hW k (.inl hk))
      obtain ⟨si, st, A11, c11, sm, sd, e9, r1, r2, hc11, hC11, hr11, hz11, hsd⟩ := open_snap h9 (fun k hk => hW k (.inr hk))
      cases e8; cases e9
      exact ⟨⟨i0, i1, i2, i3, i4, i5, i6, i7, es, si, st, sm, sd⟩, A8, es.length, c8, A11, sm.length, c11, rfl, ⟨rfl, hc8, hC8⟩, ⟨rfl, hc11, hC11⟩, wf_i64 w0, wf_i64 w1, wf_i64 w2, wf_i64 w3, wf_i64 w4, wf_i64 w5, wf_i64 w6, r1, r2, hF8, hz8, hr11, hz11, hsd⟩
end
end Go.Proofs.Ytbemfgpdfacdpaa.Ms
namespace Go.Proofs.Ytbemfgpdfacdpaa.Ms
open Go.RowKit Go.Proofs.Ytbemfgpdfacdpaa.Pr Go.Proofs.YtbemfgpdfacdpaaW.PrintWords Go.Proofs.YtbemfgpdfacdpaaW.PrintLast Go.Proofs.YtbemfgpdfacdpaaW.PrintMore
set_option linter.unusedVariables false
set_option linter.unusedSimpArgs false
theorem ints_same_l (l : List Int) (hl : l.length ≤ 4611686018427387904) : ∀ (m i k : Nat), i + m = l.length → m < k → parapetref6_SameInts.l0 k l l i = some true
  | 0, i, k + 1, h, _ => by rw [parapetref6_SameInts.l0, if_neg (by omega)]
  | m + 1, i, k + 1, h, hk => by
    rw [parapetref6_SameInts.l0, if_pos (by omega), if_pos (by omega), if_pos (by omega), if_pos rfl, show wrap64 ((i : Int) + 1) = ((i + 1 : Nat) : Int) by unfold wrap64; omega]
    exact ints_same_l l hl m (i + 1) k (by omega) (by omega)
def ew (e : S46) : Nat := e.f3.size + 8 * e.f4.length
theorem flat_w : ∀ es : List S46, (es.flatMap wentry).length = 29 * es.length + (es.map ew).sum
  | [] => rfl
  | e :: es => by
    rw [List.flatMap_cons, List.length_append, flat_w es, List.length_cons, List.map_cons, List.sum_cons, wentry, List.length_append, List.length_append, wints_length, wtext, List.length_append, wnum_length, bytesOf_length, wmem, List.length_append, wnum_length, wints_length, ew]
    simp only [List.length_cons, List.length_nil]
    omega
theorem wrap_add (x s n : Nat) (hx : x ≤ 20000) (hs : s ≤ 140737488351232) (hn : n * 8 ≤ 140737488351232) : (wrap64 ((wrap64 ((x : Int) + (s : Int))) + (wrap64 (8 * (n : Int))))) = ((x + (s + 8 * n) : Nat) : Int) := by
  unfold wrap64; omega
theorem wrap_in (d s e : Nat) (hd : d ≤ 140737488351232) (hs : s * 8 ≤ 140737488351232) (he : e * 64 ≤ 140737488351232) : (wrap64 ((wrap64 ((d : Int) + (wrap64 (8 * (s : Int))))) + (wrap64 (20 * (e : Int))))) = ((d + 8 * s + 20 * e : Nat) : Int) := by
  unfold wrap64; omega
theorem in_l (kd fr tt tm ix lt cm : Int) (ys : Bool) (es : List S46) (si st : Int) (sm : List Int) (sd : ByteArray) (hl : es.length ≤ 4611686018427387904) (hf : ∀ e ∈ es, e.f3.size ≤ 140737488351232 ∧ e.f4.length * 8 ≤ 140737488351232) : ∀ (m i x : Nat), i + m = es.length → ∃ b, parapetlaw7_in.l0 (m + 1) x i kd fr tt tm ix lt cm ys es si st sm sd = some b ∧ (b = true → x + ((es.drop i).map ew).sum ≤ 20000)
  | 0, i, x, h => by
    rw [parapetlaw7_in.l0, if_neg (by omega), List.drop_eq_nil_of_le (by omega)]
    exact ⟨_, rfl, fun hb => by simp at hb; simp; omega⟩
  | m + 1, i, x, h => by
    rw [parapetlaw7_in.l0, if_pos (by omega)]
    by_cases h2 : x ≤ 20000
    · have hi : i < es.length := by omega
      obtain ⟨E, hE⟩ : ∃ E, E = es[i] := ⟨_, rfl⟩
      have he : rd_T46 es (i : Int) = E := by rw [hE]; simp [rd_T46, hi]
      have hfe := hf E (by rw [hE]; exact List.getElem_mem hi)
      have hd : es.drop i = E :: es.drop (i + 1) := by rw [hE]; exact List.drop_eq_getElem_cons hi
      have e1 := wrap_add x E.f3.size E.f4.length h2 hfe.1 hfe.2
      have e2 : E.f3.size + 8 * E.f4.length = ew E := rfl
      rw [e2] at e1
      have e3 : wrap64 ((i : Int) + 1) = ((i + 1 : Nat) : Int) := by
        clear e1 e2 hfe hd he hE hf
        unfold wrap64; omega
      rw [if_pos (show (x : Int) ≤ 20000 by omega), if_pos (Int.natCast_nonneg i), he, e1, e3]
      obtain ⟨b, hb, hs⟩ := in_l kd fr tt tm ix lt cm ys es si st sm sd hl hf m (i + 1) (x + ew E) (by omega)
      refine ⟨b, hb, fun hbt => ?_⟩
      have q := hs hbt
      rw [hd, List.map_cons, List.sum_cons, ← Nat.add_assoc]
      exact q
    · have h2' : ¬ ((x : Int) ≤ 20000) := by omega
      rw [if_neg h2']
      exact ⟨_, rfl, fun hb => absurd (of_decide_eq_true hb) h2'⟩
def Small (m : M13) : Prop := m.sd.size + 8 * m.sm.length + 20 * m.es.length + (m.es.map ew).sum ≤ 20000
theorem in_f (m : M13) (hf : FitM m) : ∃ b, parapetlaw7_in.f (m.es.length + 1) m.kd m.fr m.tt m.tm m.ix m.lt m.cm m.ys m.es m.si m.st m.sm m.sd = some b ∧ (b = true → Small m) := by
  obtain ⟨_, _, _, _, _, _, _, _, _, hE, hE2, _, hS, hD⟩ := hf
  have e1 := wrap_in m.sd.size m.sm.length m.es.length hD hS hE2
  have hl : m.es.length ≤ 4611686018427387904 := by
    have : m.es.length * 64 ≤ 140737488351232 := hE2
    clear hE hE2 hS hD e1
    omega
  obtain ⟨b, hb, hs⟩ := in_l m.kd m.fr m.tt m.tm m.ix m.lt m.cm m.ys m.es m.si m.st m.sm m.sd hl (fun e he => ⟨(hE e he).2.2.2.1, (hE e he).2.2.2.2.1⟩) m.es.length 0 (m.sd.size + 8 * m.sm.length + 20 * m.es.length) (Nat.zero_add _)
  refine ⟨b, ?_, fun h => by have q := hs h; rw [List.drop_zero] at q; exact q⟩
  rw [parapetlaw7_in.f, e1]
  exact hb
theorem raw_small {m : M13} (h : Small m) : (rawW m).length ≤ 100000 ∧ m.sm.length ≤ 20000 := by
  have h' : m.sd.size + 8 * m.sm.length + 20 * m.es.length + (m.es.map ew).sum ≤ 20000 := h
  refine ⟨?_, by omega⟩
  rw [rawW, List.length_append, List.length_append, wnum_length, wints_length]
  have hb : (wbody m).1.length ≤ 90000 := by
    unfold wbody
    split
    · rw [wints_length]; simp
    · split
      · simp
      · split
        · show (wints [m.ix, m.lt, m.cm] ++ wents m.es).length ≤ 90000
          rw [List.length_append, wints_length, wents, List.length_append, wnum_length, flat_w]
          simp only [List.length_cons, List.length_nil]
          omega
        · split
          · simp [wints_length]
          · split
            · show (wints [m.si, m.st] ++ (wmem m.sm ++ wtext m.sd)).length ≤ 90000
              rw [List.length_append, List.length_append, wints_length, wmem, List.length_append, wnum_length, wints_length, wtext, List.length_append, wnum_length, bytesOf_length]
              simp only [List.length_cons, List.length_nil]
              omega
            · simp
  simp only [List.length_cons, List.length_nil]
  omega
theorem FitS.fit {e : S46} (h : FitS e) : fitE e := ⟨h.1.2, h.2.1.2, h.2.2.1.2, fun v hv => (h.2.2.2.2.2 v hv).2⟩
end Go.Proofs.Ytbemfgpdfacdpaa.Ms
namespace Go.Proofs.Ytbemfgpdfacdpaa.Ms
open Go.RowKit Go.Proofs.Ytbemfgpdfacdpaa.Pr Go.Proofs.YtbemfgpdfacdpaaW.PrintWords Go.Proofs.YtbemfgpdfacdpaaW.PrintLast Go.Proofs.YtbemfgpdfacdpaaW.PrintMore
set_option linter.unusedVariables false
set_option linter.unusedSimpArgs false
def onlyM (m : M13) : M13 :=
  if m.kd = 1 then ⟨m.kd, m.fr, m.tt, m.tm, m.ix, m.lt, 0, false, [], 0, 0, [], ⟨#[]⟩⟩
  else if m.kd = 2 then ⟨m.kd, m.fr, m.tt, m.tm, 0, 0, 0, m.ys, [], 0, 0, [], ⟨#[]⟩⟩
  else if m.kd = 3 then ⟨m.kd, m.fr, m.tt, m.tm, m.ix, m.lt, m.cm, false, m.es, 0, 0, [], ⟨#[]⟩⟩
  else if m.kd = 4 then ⟨m.kd, m.fr, m.tt, m.tm, m.ix, 0, 0, m.ys, [], 0, 0, [], ⟨#[]⟩⟩
  else if m.kd = 5 then ⟨m.kd, m.fr, m.tt, m.tm, 0, 0, 0, false, [], m.si, m.st, m.sm, m.sd⟩
  else ⟨m.kd, m.fr, m.tt, m.tm, 0, 0, 0, false, [], 0, 0, [], ⟨#[]⟩⟩
set_option maxHeartbeats 4000000 in
set_option maxRecDepth 100000 in
theorem only_calls (m : M13) (A8 : Option Addr) (n8 c8 : Nat) (A11 : Option Addr) (n11 c11 : Nat) (w : World) :
    Calls Try.prog 24 #[.agg (mcells m (.slice A8 n8 c8) (.slice A11 n11 c11))] w fun e w' => e = .returned (.agg (mcells (onlyM m) (if m.kd = 3 then .slice A8 n8 c8 else .slice none 0 0) (if m.kd = 5 then .slice A11 n11 c11 else .slice none 0 0))) ∧ Below w.heap.size w w' := by
  obtain ⟨kd, fr, tt, tm, ix, lt, cm, ys, es, si, st, sm, sd⟩ := m
  by_cases h1 : kd = 1
  · subst h1
    show Calls _ _ _ w fun e w' => e = .returned (.agg (mcells ⟨1, fr, tt, tm, ix, lt, 0, false, [], 0, 0, [], ⟨#[]⟩⟩ (.slice none 0 0) (.slice none 0 0))) ∧ Below w.heap.size w w'
    unfold mcells
    go_enter Try.func24, Try.ntmps24
    go_wp2
    exact bodyPost_ret (results_cell_row rfl _ _ (w.heap.size + 1) 27 _ (0, 0) _ rfl (blk_alloc (blk_here _ _ (by simp)) _) Try.underlying27 rfl size_msg) rfl ⟨rfl, below_alloc (below_alloc (below_alloc (Below.refl _ _) _) _) _⟩
  by_cases h2 : kd = 2
  · subst h2
    show Calls _ _ _ w fun e w' => e = .returned (.agg (mcells ⟨2, fr, tt, tm, 0, 0, 0, ys, [], 0, 0, [], ⟨#[]⟩⟩ (.slice none 0 0) (.slice none 0 0))) ∧ Below w.heap.size w w'
    unfold mcells
    go_enter Try.func24, Try.ntmps24
    go_wp2
    exact bodyPost_ret (results_cell_row rfl _ _ (w.heap.size + 1) 27 _ (0, 0) _ rfl (blk_alloc (blk_here _ _ (by simp)) _) Try.underlying27 rfl size_msg) rfl ⟨rfl, below_alloc (below_alloc (below_alloc (Below.refl _ _) _) _) _⟩
  by_cases h3 : kd = 3
  · subst h3
    show Calls _ _ _ w fun e w' => e = .returned (.agg (mcells ⟨3, fr, tt, tm, ix, lt, cm, false, es, 0, 0, [], ⟨#[]⟩⟩ (.slice A8 n8 c8) (.slice none 0 0))) ∧ Below w.heap.size w w'
    unfold mcells
    go_enter Try.func24, Try.ntmps24
    go_wp2
    exact bodyPost_ret (results_cell_row rfl _ _ (w.heap.size + 1) 27 _ (0, 0) _ rfl (blk_alloc (blk_here _ _ (by simp)) _) Try.underlying27 rfl size_msg) rfl ⟨rfl, below_alloc (below_alloc (below_alloc (Below.refl _ _) _) _) _⟩
  by_cases h4 : kd = 4
  · subst h4
    show Calls _ _ _ w fun e w' => e = .returned (.agg (mcells ⟨4, fr, tt, tm, ix, 0, 0, ys, [], 0, 0, [], ⟨#[]⟩⟩ (.slice none 0 0) (.slice none 0 0))) ∧ Below w.heap.size w w'
    unfold mcells
    go_enter Try.func24, Try.ntmps24
    go_wp2
    exact bodyPost_ret (results_cell_row rfl _ _ (w.heap.size + 1) 27 _ (0, 0) _ rfl (blk_alloc (blk_here _ _ (by simp)) _) Try.underlying27 rfl size_msg) rfl ⟨rfl, below_alloc (below_alloc (below_alloc (Below.refl _ _) _) _) _⟩
  by_cases h5 : kd = 5
  · subst h5
    show Calls _ _ _ w fun e w' => e = .returned (.agg (mcells ⟨5, fr, tt, tm, 0, 0, 0, false, [], si, st, sm, sd⟩ (.slice none 0 0) (.slice A11 n11 c11))) ∧ Below w.heap.size w w'
    unfold mcells
    go_enter Try.func24, Try.ntmps24
    go_wp2
    exact bodyPost_ret (results_cell_row rfl _ _ (w.heap.size + 1) 27 _ (0, 0) _ rfl (blk_alloc (blk_here _ _ (by simp)) _) Try.underlying27 rfl size_msg) rfl ⟨rfl, below_alloc (below_alloc (below_alloc (Below.refl _ _) _) _) _⟩
  have h1' : (kd == 1) = false := by simpa using h1
  have h2' : (kd == 2) = false := by simpa using h2
  have h3' : (kd == 3) = false := by simpa using h3
  have h4' : (kd == 4) = false := by simpa using h4
  have h5' : (kd == 5) = false := by simpa using h5
  have ho : onlyM ⟨kd, fr, tt, tm, ix, lt, cm, ys, es, si, st, sm, sd⟩ = ⟨kd, fr, tt, tm, 0, 0, 0, false, [], 0, 0, [], ⟨#[]⟩⟩ := by simp only [onlyM, if_neg h1, if_neg h2, if_neg h3, if_neg h4, if_neg h5]
  rw [ho]; simp only [if_neg h3, if_neg h5]
  show Calls _ _ _ w fun e w' => e = .returned (.agg (mcells ⟨kd, fr, tt, tm, 0, 0, 0, false, [], 0, 0, [], ⟨#[]⟩⟩ (.slice none 0 0) (.slice none 0 0))) ∧ Below w.heap.size w w'
  unfold mcells
  go_enter Try.func24, Try.ntmps24
  go_wp2
  exact bodyPost_ret (results_cell_row rfl _ _ (w.heap.size + 1) 27 _ (0, 0) _ rfl (blk_alloc (blk_here _ _ (by simp)) _) Try.underlying27 rfl size_msg) rfl ⟨rfl, below_alloc (below_alloc (below_alloc (Below.refl _ _) _) _) _⟩
end Go.Proofs.Ytbemfgpdfacdpaa.Ms
namespace Go.Proofs.Ytbemfgpdfacdpaa.Ms
open Go.RowKit Go.Proofs.Ytbemfgpdfacdpaa.Pr Go.Proofs.YtbemfgpdfacdpaaW.PrintWords Go.Proofs.YtbemfgpdfacdpaaW.PrintLast Go.Proofs.YtbemfgpdfacdpaaW.PrintMore
set_option linter.unusedVariables false
set_option linter.unusedSimpArgs false
theorem ints_self (l : List Int) (k : Nat) (h : l.length ≤ 20000) (hk : 20001 < k) : parapetref6_SameInts.f k l l = some true := by
  rw [parapetref6_SameInts.f, if_pos rfl]
  exact ints_same_l l (by omega) l.length 0 k (by omega) (by omega)
theorem ents_self_l (l : List S46) (hl : l.length ≤ 20) (h9 : ∀ e ∈ l, e.f4.length ≤ 20000) : ∀ (m i k : Nat), i + m = l.length → 20002 + m < k → parapetref6_SameEntries.l0 k l l i = some true
  | 0, i, k + 1, h, _ => by rw [parapetref6_SameEntries.l0, if_neg (by omega)]
  | m + 1, i, k + 1, h, hk => by
    have hm : rd_T46 l (i : Int) ∈ l := by
      have : rd_T46 l (i : Int) = l[i]'(by omega) := by
        have hi : i < l.length := by omega
        simp [rd_T46, hi]
      rw [this]
      exact List.getElem_mem _
    rw [parapetref6_SameEntries.l0, if_pos (by omega), if_pos (by omega), if_pos (by omega), if_pos rfl, if_pos rfl, if_pos rfl, if_pos rfl, ints_self _ k (h9 _ hm) (by omega), Option.bind_some, if_pos rfl, show wrap64 ((i : Int) + 1) = ((i + 1 : Nat) : Int) by unfold wrap64; omega]
    exact ents_self_l l hl h9 m (i + 1) k (by omega) (by omega)
theorem ents_self (l : List S46) (hl : l.length ≤ 20) (h9 : ∀ e ∈ l, e.f4.length ≤ 20000) : parapetref6_SameEntries.f 30000 l l = some true := by
  rw [parapetref6_SameEntries.f, if_pos rfl]
  exact ents_self_l l hl h9 l.length 0 30000 (by omega) (by omega)
theorem same_gen (a b : M13) (he : a.es = b.es ∨ a.es = []) (hs : a.sm = b.sm ∨ a.sm = []) (hl : b.es.length ≤ 20) (h9 : ∀ e ∈ b.es, e.f4.length ≤ 20000) (hm : b.sm.length ≤ 20) :
    ∃ r, parapetref6_SameMsg.f 30000 a.kd a.fr a.tt a.tm a.ix a.lt a.cm a.ys a.es a.si a.st a.sm a.sd b.kd b.fr b.tt b.tm b.ix b.lt b.cm b.ys b.es b.si b.st b.sm b.sd = some r ∧ (r = true ↔ a = b) := by
  have hE : ∃ r, parapetref6_SameEntries.f 30000 a.es b.es = some r ∧ (r = true ↔ a.es = b.es) := by
    rcases he with he | he
    · rw [he]; exact ⟨true, ents_self _ hl h9, by simp⟩
    · rw [he]
      cases hb : b.es with
      | nil => exact ⟨true, ents_self [] (by simp) (fun e h => by cases h), by simp⟩
      | cons e es => exact ⟨false, by rw [parapetref6_SameEntries.f, if_neg (by simp; omega)], by simp⟩
  have hS : ∃ r, parapetref6_SameInts.f 30000 a.sm b.sm = some r ∧ (r = true ↔ a.sm = b.sm) := by
    rcases hs with hs | hs
    · rw [hs]; exact ⟨true, ints_self _ 30000 (by omega) (by decide), by simp⟩
    · rw [hs]
      cases hb : b.sm with
      | nil => exact ⟨true, ints_self [] 30000 (by simp) (by decide), by simp⟩
      | cons e es => exact ⟨false, by rw [parapetref6_SameInts.f, if_neg (by simp; omega)], by simp⟩
  obtain ⟨r1, e1, q1⟩ := hE
  obtain ⟨r2, e2, q2⟩ := hS
  have hext : a = b ↔ (a.kd = b.kd ∧ a.fr = b.fr ∧ a.tt = b.tt ∧ a.tm = b.tm ∧ a.ix = b.ix ∧ a.lt = b.lt ∧ a.cm = b.cm ∧ a.ys = b.ys ∧ a.es = b.es ∧ a.si = b.si ∧ a.st = b.st ∧ a.sm = b.sm ∧ a.sd = b.sd) := by
    constructor
    · rintro rfl; exact ⟨rfl, rfl, rfl, rfl, rfl, rfl, rfl, rfl, rfl, rfl, rfl, rfl, rfl⟩
    · clear q1 q2 e1 e2 he hs hl h9 hm
      rintro ⟨k0, k1, k2, k3, k4, k5, k6, k7, k8, k9, k10, k11, k12⟩
      cases a; cases b
      simp only at k0 k1 k2 k3 k4 k5 k6 k7 k8 k9 k10 k11 k12
      subst k0 k1 k2 k3 k4 k5 k6 k7 k8 k9 k10 k11 k12
      rfl
  rw [parapetref6_SameMsg.f, hext]
  by_cases h0 : a.kd = b.kd
  · rw [if_pos h0]
    by_cases h1 : a.fr = b.fr
    · rw [if_pos h1]
      by_cases h2 : a.tt = b.tt
      · rw [if_pos h2]
        by_cases h3 : a.tm = b.tm
        · rw [if_pos h3]
          by_cases h4 : a.ix = b.ix
          · rw [if_pos h4]
            by_cases h5 : a.lt = b.lt
            · rw [if_pos h5]
              by_cases h6 : a.cm = b.cm
              · rw [if_pos h6]
                by_cases h7 : a.ys = b.ys
                · rw [if_pos (by simp [h7]), e1, Option.bind_some]
                  cases r1
                  · rw [if_neg (by decide)]
                    exact ⟨false, rfl, by constructor; · simp
                                          · rintro ⟨_, _, _, _, _, _, _, _, h, _⟩; exact absurd (q1.2 h) (by decide)⟩
                  · rw [if_pos rfl, parapetref6_SameSnap.f]
                    have q1' := q1.1 rfl
                    by_cases h8 : a.si = b.si
                    · rw [if_pos h8]
                      by_cases h9 : a.st = b.st
                      · rw [if_pos h9]
                        by_cases h10 : a.sd.toList = b.sd.toList
                        · rw [if_pos h10, e2]
                          have h10' := bytes_toList.1 h10
                          exact ⟨r2, rfl, by rw [q2]; constructor
                                             · intro h; exact ⟨h0, h1, h2, h3, h4, h5, h6, h7, q1', h8, h9, h, h10'⟩
                                             · rintro ⟨_, _, _, _, _, _, _, _, _, _, _, h, _⟩; exact h⟩
                        · rw [if_neg h10]
                          exact ⟨false, rfl, by constructor; · simp
                                                · rintro ⟨_, _, _, _, _, _, _, _, _, _, _, _, h⟩; exact absurd (bytes_toList.2 h) h10⟩
                      · rw [if_neg h9]
                        exact ⟨false, rfl, by constructor; · simp
                                              · rintro ⟨_, _, _, _, _, _, _, _, _, _, h, _⟩; exact absurd h h9⟩
                    · rw [if_neg h8]
                      exact ⟨false, rfl, by constructor; · simp
                                            · rintro ⟨_, _, _, _, _, _, _, _, _, h, _⟩; exact absurd h h8⟩
                · rw [if_neg (by simpa using h7)]
                  exact ⟨false, rfl, by constructor; · simp
                                        · rintro ⟨_, _, _, _, _, _, _, h, _⟩; exact absurd h h7⟩
              · rw [if_neg h6]; exact ⟨false, rfl, by simp [h6]⟩
            · rw [if_neg h5]; exact ⟨false, rfl, by simp [h5]⟩
          · rw [if_neg h4]; exact ⟨false, rfl, by simp [h4]⟩
        · rw [if_neg h3]; exact ⟨false, rfl, by simp [h3]⟩
      · rw [if_neg h2]; exact ⟨false, rfl, by simp [h2]⟩
    · rw [if_neg h1]; exact ⟨false, rfl, by simp [h1]⟩
  · rw [if_neg h0]; exact ⟨false, rfl, by simp [h0]⟩
end Go.Proofs.Ytbemfgpdfacdpaa.Ms
namespace Go.Proofs.Ytbemfgpdfacdpaa.Ms
open Go.RowKit Go.Proofs.Ytbemfgpdfacdpaa.Pr Go.Proofs.YtbemfgpdfacdpaaW.PrintWords Go.Proofs.YtbemfgpdfacdpaaW.PrintLast Go.Proofs.YtbemfgpdfacdpaaW.PrintMore
set_option linter.unusedVariables false
set_option linter.unusedSimpArgs false
theorem shr_byte (v : Int) (j : Nat) (hj : j ≤ 7) : (shr .u64 (IntKind.u64.wrap v) (8 * (j : Int))) % 256 = (v % 18446744073709551616 / 256 ^ j) % 256 := by
  have e2 : IntKind.u64.wrap v = v % 18446744073709551616 := by simp [IntKind.wrap, IntKind.signed, IntKind.bits]
  rw [e2, shr, show min (8 * (j : Int)).toNat IntKind.u64.bits = 8 * j by rw [show (8 * (j : Int)).toNat = 8 * j by omega, show IntKind.u64.bits = 64 from rfl]; omega, Int.pow_mul]
  rfl
theorem lay_l (v : Int) : ∀ (j k : Nat) (l : List Int), j ≤ 8 → j < k → l.length + j ≤ 140737488355328 → parapetref1_Lay.l0 k l (IntKind.u64.wrap v) ((j : Int) - 1) = some (l ++ wnum v j)
  | 0, k + 1, l, _, _, _ => by rw [parapetref1_Lay.l0, if_neg (by omega), wnum, List.append_nil]
  | j + 1, k + 1, l, hj, hk, hl => by
    have e1 : wrap64 (8 * (((j + 1 : Nat) : Int) - 1)) = 8 * (j : Int) := by unfold wrap64; omega
    have e2 : wrap64 ((((j + 1 : Nat) : Int) - 1) - 1) = (j : Int) - 1 := by unfold wrap64; omega
    rw [parapetref1_Lay.l0, if_pos (by omega), e1, if_pos (by omega), if_pos (by omega), e2, shr_byte v j (by omega), lay_l v j k _ (by omega) (by omega) (by rw [List.length_append, List.length_singleton]; omega), wnum, List.append_assoc]
    rfl
theorem lay_f (v : Int) (n k : Nat) (l : List Int) (hn : n ≤ 8) (hk : 8 < k) (hl : l.length + 8 ≤ 140737488355328) : parapetref1_Lay.f k l n (IntKind.u64.wrap v) = some (l ++ wnum v n) := by
  rw [parapetref1_Lay.f, show wrap64 ((n : Int) - 1) = (n : Int) - 1 by unfold wrap64; omega]
  exact lay_l v n k l hn (by omega) (by omega)
theorem rints_l (vs : List Int) (hv : vs.length ≤ 1000000) : ∀ (m i k : Nat) (l : List Int), i + m = vs.length → 9 + m < k → l.length + 8 * m + 8 ≤ 140737488355328 → parapetref6_ints.l0 k l vs i = some (l ++ wints (vs.drop i))
  | 0, i, k + 1, l, h, _, _ => by rw [parapetref6_ints.l0, if_neg (by omega), List.drop_eq_nil_of_le (by omega)]; simp [wints]
  | m + 1, i, k + 1, l, h, hk, hl => by
    have hi : i < vs.length := by omega
    have e : rd vs (i : Int) = vs[i] := by simp [rd, hi]
    rw [parapetref6_ints.l0, if_pos (by omega), if_pos (by omega), show (8 : Int) = ((8 : Nat) : Int) from rfl, lay_f _ 8 k l (by decide) (by omega) (by omega), Option.bind_some, show wrap64 ((i : Int) + 1) = ((i + 1 : Nat) : Int) by unfold wrap64; omega,
      rints_l vs hv m (i + 1) k _ (by omega) (by omega) (by rw [List.length_append, wnum_length]; omega), e, List.drop_eq_getElem_cons hi, wints, wints, List.flatMap_cons, List.append_assoc]
theorem rints_f (vs l : List Int) (k : Nat) (hv : vs.length ≤ 1000000) (hk : 9 + vs.length < k) (hl : l.length ≤ 1000000) : parapetref6_ints.f k l vs = some (l ++ wmem vs) := by
  rw [parapetref6_ints.f, if_pos (by omega)]
  have := rints_l vs hv vs.length 0 k (l ++ [((vs.length : Int)) % 256]) (by omega) hk (by rw [List.length_append, List.length_singleton]; omega)
  rw [List.drop_zero] at this
  refine this.trans ?_
  rw [wmem, ← List.append_assoc]
  have e : wnum (vs.length : Int) 1 = [(vs.length : Int) % 256] := by
    simp only [wnum, Int.pow_zero, Int.ediv_one]
    rw [Int.emod_eq_of_lt (b := 18446744073709551616) (by omega) (by omega)]
  rw [e]
/-- A row of bytes of the call's own, at or above B. -/
abbrev RB (w0 w : World) (B : Nat) (v : Value) (l : List Int) : Prop := (Kd.int .u8).R 5 w w0.heap.size (fun k => B ≤ k) v l
/-- What stays: what is elder than B, and what is no row of bytes. -/
structure LK (w w' : World) (B : Nat) : Prop where
  size : w.heap.size ≤ w'.heap.size
  block : ∀ k, k < w.heap.size → (k < B ∨ ∃ cs t fr, w.heap[k]? = some (.cells cs t fr) ∧ t ≠ 5) → w'.heap[k]? = w.heap[k]?
theorem LK.refl (w : World) (B : Nat) : LK w w B := ⟨Nat.le_refl _, fun _ _ _ => rfl⟩
theorem LK.trans {w w1 w2 : World} {B : Nat} (h : LK w w1 B) (k : LK w1 w2 B) : LK w w2 B :=
  ⟨Nat.le_trans h.size k.size, fun i hi hc => by
    have h1 := h.block i hi hc
    refine (k.block i (Nat.lt_of_lt_of_le hi h.size) ?_).trans h1
    rcases hc with hc | ⟨cs, t, fr, h2, h3⟩
    · exact .inl hc
    · exact .inr ⟨cs, t, fr, h1.trans h2, h3⟩⟩
theorem LK.of_below {w w' : World} {B : Nat} (h : Below w.heap.size w w') : LK w w' B := ⟨h.size, fun i hi _ => h.block i hi⟩
theorem LK.blk {w w' : World} {B k : Nat} {cs : Array Value} {t : TypeId} {fr : Nat × Nat} (h : LK w w' B) (hk : w.heap[k]? = some (.cells cs t fr)) (ht : t ≠ 5) : w'.heap[k]? = some (.cells cs t fr) :=
  (h.block k (blk_lt hk) (.inr ⟨cs, t, fr, hk, ht⟩)).trans hk
theorem LK.of_row {w w' : World} {B base n size : Nat} {v : Value} {xs : List Value} (ho : w.ownsRow base 5 size v n xs) (hB : ∀ k, v.ownBlock = some k → B ≤ k) (hs : w.heap.size ≤ w'.heap.size) (hk : ∀ i, i < w.heap.size → ¬ (some i = v.ownBlock) → w'.heap[i]? = w.heap[i]?) : LK w w' B :=
  ⟨hs, fun i hi hc => hk i hi (fun he => by
    have h1 := hB i he.symm
    obtain ⟨cells, h2⟩ := own_typed ho i he.symm
    rcases hc with hc | ⟨cs, t, fr, h3, h4⟩
    · omega
    · rw [h2] at h3; cases h3; exact h4 rfl)⟩
def LayQ (w0 w : World) (B : Nat) (l : List Int) (e : Ending) (w' : World) : Prop :=
  ∃ v', e = .returned v' ∧ RB w0 w' B v' l ∧ Below w0.heap.size w0 w' ∧ LK w w' B
theorem lay_calls (w0 w : World) (B : Nat) (v : Value) (l : List Int) (x : Int) (n : Nat) (hR : RB w0 w B v l) (hB : Below w0.heap.size w0 w) (hBw : B ≤ w.heap.size) (hn : n ≤ 8) (hl : l.length ≤ 1000000) :
    Calls Try.prog 26 #[v, .int .i64 n, .int .u64 (IntKind.u64.wrap x)] w (LayQ w0 w B (l ++ wnum x n)) := by
  refine (parapetref1_Lay.calls 9 (fun k => some k = v.ownBlock) v l n (IntKind.u64.wrap x) (l ++ wnum x n) w0 w hB (Kd.R_tight rfl hR) (lay_f x n 9 l hn (by decide) (by omega))).mono ?_
  rintro e w' ⟨v', rfl, h1, h2, h3⟩
  obtain ⟨_, ho⟩ := Kd.R_own hR
  exact ⟨v', rfl, Kd.R_mono h1 (fun k hk => hk.elim (fun h => hR.1 k h.symm) (fun h => Nat.le_trans hBw h)), h2, LK.of_row ho hR.1 h3.1 h3.2⟩
theorem rints_calls' (w0 w : World) (B : Nat) (v : Value) (l vs : List Int) (A : Option Addr) (n c : Nat) (hR : RB w0 w B v l) (hB : Below w0.heap.size w0 w) (hBw : B ≤ w.heap.size) (h0 : w0.heap.size ≤ B) (hC : (Kd.int .i64).C w0 A vs.length vs) (hn : n = vs.length) (hc : n ≤ c) (hv : vs.length ≤ 1000000) (hl : l.length ≤ 1000000) :
    Calls Try.prog 27 #[v, .slice A n c] w (LayQ w0 w B (l ++ wmem vs)) := by
  subst hn
  refine (parapetref6_ints.calls (10 + vs.length) (fun k => some k = v.ownBlock) v l A c vs (l ++ wmem vs) w0 w hB (Kd.R_tight rfl hR) (fun W hk => ?_) hc (rints_f vs l _ hv (by omega) hl)).mono ?_
  · exact Kd.C_kept_came (Kd.heap_int _) hC hB (fun k hk => Nat.le_trans h0 (hR.1 k hk.symm)) W hk
  · rintro e w' ⟨v', rfl, h1, h2, h3⟩
    obtain ⟨_, ho⟩ := Kd.R_own hR
    exact ⟨v', rfl, Kd.R_mono h1 (fun k hk => hk.elim (fun h => hR.1 k h.symm) (fun h => Nat.le_trans hBw h)), h2, LK.of_row ho hR.1 h3.1 h3.2⟩
set_option maxHeartbeats 1000000 in
set_option maxRecDepth 100000 in
theorem reftext_calls (w0 w : World) (B : Nat) (v : Value) (l : List Int) (s : ByteArray) (hR : RB w0 w B v l) (hB : Below w0.heap.size w0 w) (hBw : B ≤ w.heap.size) (h0 : w0.heap.size ≤ B) (hs : s.size ≤ 1000000) (hl : l.length ≤ 1000000) :
    Calls Try.prog 28 #[v, .string s] w (LayQ w0 w B (l ++ wtext s)) := by
  obtain ⟨A, c, ev⟩ := Kd.R_slice hR
  obtain ⟨n, hn⟩ : ∃ n, n = l.length := ⟨_, rfl⟩
  rw [← hn] at ev
  subst ev
  have HR := Aside0.mk hR
  have HB := Aside0.mk hB
  have HBW := Aside0.mk hBw
  have H0 := Aside0.mk h0
  have HL := Aside0.mk hl
  have HS := Aside0.mk hs
  clear hR hB hBw h0 hl hs hn
  go_enter Try.func28, Try.ntmps28
  go_wp2_with fail
  refine (lay_calls w0 w B _ l s.size 4 HR.out HB.out HBW.out (by decide) HL.out).mono ?_
  rintro e w1 ⟨v1, rfl, hR1, hB1, hK1⟩
  have HR1 := Aside0.mk hR1
  have HB1 := Aside0.mk hB1
  have HK1 := Aside0.mk hK1
  have ho : w1.ownsRow w0.heap.size 5 1 v1 (l ++ wnum s.size 4).length (nums .u8 (l ++ wnum s.size 4)) := Kd.own_of_R hR1
  have HO := Aside0.mk (Kd.own_raise ho hR1.1)
  have HSZ : Aside0 (B ≤ w1.heap.size) := ⟨Nat.le_trans HBW.out hK1.size⟩
  clear hR1 hB1 hK1 ho
  go_wp2_with (at_builtin; refine print_append_str (w0 := w1) B rfl (.tmp 9) (.tmp 10) 30 9 5 rfl Try.underlying30 Try.underlying9 infoB v1 (l ++ wnum s.size 4) s rfl rfl HO.out (Below.refl _ _) HSZ.out (by rw [List.length_append, wnum_length]; have := HL.out; have := HS.out; omega) ?_)
  intro v2 w2 ho2 hb2 hg2
  have fin : LayQ w0 w B (l ++ wtext s) (.returned v2) w2 := by
    refine ⟨v2, rfl, ?_, HB1.out.trans (hb2.mono H0.out), HK1.out.trans (LK.of_row HO.out (fun k hk => own_base HO.out k hk) hg2.size (fun i hi hn => hg2.block i hi hn))⟩
    have ho3 : w2.ownsRow B 5 1 v2 (l ++ (wnum s.size 4 ++ bytesOf s)).length (nums .u8 (l ++ (wnum s.size 4 ++ bytesOf s))) := by simpa using ho2
    exact Kd.R_of_own (own_weaken ho3 H0.out) (fun k hk => own_base ho3 k hk)
  have FIN := Aside0.mk fin
  clear fin ho2 hb2 hg2
  go_wp2
  go_ret
  exact FIN.out
end Go.Proofs.Ytbemfgpdfacdpaa.Ms
namespace Go.Proofs.Ytbemfgpdfacdpaa.Ms
open Go.RowKit Go.Proofs.Ytbemfgpdfacdpaa.Pr Go.Proofs.YtbemfgpdfacdpaaW.PrintWords Go.Proofs.YtbemfgpdfacdpaaW.PrintLast Go.Proofs.YtbemfgpdfacdpaaW.PrintMore
open Go.Proofs.Ytbemfgpdfacdpaa.QT (OwnAt)
set_option linter.unusedVariables false
set_option linter.unusedSimpArgs false
set_option maxHeartbeats 16000000 in
set_option maxRecDepth 100000 in
theorem refenc_bad0 (kd fr tt tm ix lt cm : Int) (ys : Bool) (es : List S46) (si st : Int) (sm : List Int) (sd : ByteArray) (A8 : Option Addr) (n8 c8 : Nat) (A11 : Option Addr) (n11 c11 : Nat) (w : World) (l0 : decide (kd < 1) = true) :
    Calls Try.prog 11 #[.agg (mcells ⟨kd, fr, tt, tm, ix, lt, cm, ys, es, si, st, sm, sd⟩ (.slice A8 n8 c8) (.slice A11 n11 c11))] w (EncQ w none) := by
  unfold mcells
  go_enter Try.func11, Try.ntmps11
  go_upto_region 2 with (fail)
  go_quiet (fail)
  go_wp2
  exact bodyPost_ret (v := .tuple #[.slice none 0 0, .int .i64 1]) (by simp [results, Try.results11, go_sem]) rfl (encQ_none (by repeat (first | exact Below.refl _ _ | apply pw_below_drewN | apply below_alloc)))
set_option maxHeartbeats 16000000 in
set_option maxRecDepth 100000 in
theorem refenc_bad1 (kd fr tt tm ix lt cm : Int) (ys : Bool) (es : List S46) (si st : Int) (sm : List Int) (sd : ByteArray) (A8 : Option Addr) (n8 c8 : Nat) (A11 : Option Addr) (n11 c11 : Nat) (w : World) (l0 : decide (kd < 1) = false) (l1 : decide (5 < kd) = true) :
    Calls Try.prog 11 #[.agg (mcells ⟨kd, fr, tt, tm, ix, lt, cm, ys, es, si, st, sm, sd⟩ (.slice A8 n8 c8) (.slice A11 n11 c11))] w (EncQ w none) := by
  unfold mcells
  go_enter Try.func11, Try.ntmps11
  go_upto_region 2 with (fail)
  go_quiet (fail)
  go_wp2
  exact bodyPost_ret (v := .tuple #[.slice none 0 0, .int .i64 1]) (by simp [results, Try.results11, go_sem]) rfl (encQ_none (by repeat (first | exact Below.refl _ _ | apply pw_below_drewN | apply below_alloc)))
set_option maxHeartbeats 16000000 in
set_option maxRecDepth 100000 in
theorem refenc_bad2 (kd fr tt tm ix lt cm : Int) (ys : Bool) (es : List S46) (si st : Int) (sm : List Int) (sd : ByteArray) (A8 : Option Addr) (n8 c8 : Nat) (A11 : Option Addr) (n11 c11 : Nat) (w : World) (l0 : decide (kd < 1) = false) (l1 : decide (5 < kd) = false) (l2 : decide (fr < 1) = true) :
    Calls Try.prog 11 #[.agg (mcells ⟨kd, fr, tt, tm, ix, lt, cm, ys, es, si, st, sm, sd⟩ (.slice A8 n8 c8) (.slice A11 n11 c11))] w (EncQ w none) := by
  unfold mcells
  go_enter Try.func11, Try.ntmps11
  go_upto_region 2 with (fail)
  go_quiet (fail)
  go_wp2
  exact bodyPost_ret (v := .tuple #[.slice none 0 0, .int .i64 1]) (by simp [results, Try.results11, go_sem]) rfl (encQ_none (by repeat (first | exact Below.refl _ _ | apply pw_below_drewN | apply below_alloc)))
set_option maxHeartbeats 16000000 in
set_option maxRecDepth 100000 in
theorem refenc_bad3 (kd fr tt tm ix lt cm : Int) (ys : Bool) (es : List S46) (si st : Int) (sm : List Int) (sd : ByteArray) (A8 : Option Addr) (n8 c8 : Nat) (A11 : Option Addr) (n11 c11 : Nat) (w : World) (l0 : decide (kd < 1) = false) (l1 : decide (5 < kd) = false) (l2 : decide (fr < 1) = false) (l3 : decide (9 < fr) = true) :
    Calls Try.prog 11 #[.agg (mcells ⟨kd, fr, tt, tm, ix, lt, cm, ys, es, si, st, sm, sd⟩ (.slice A8 n8 c8) (.slice A11 n11 c11))] w (EncQ w none) := by
  unfold mcells
  go_enter Try.func11, Try.ntmps11
  go_upto_region 2 with (fail)
  go_quiet (fail)
  go_wp2
  exact bodyPost_ret (v := .tuple #[.slice none 0 0, .int .i64 1]) (by simp [results, Try.results11, go_sem]) rfl (encQ_none (by repeat (first | exact Below.refl _ _ | apply pw_below_drewN | apply below_alloc)))
end Go.Proofs.Ytbemfgpdfacdpaa.Ms
namespace Go.Proofs.Ytbemfgpdfacdpaa.Ms
open Go.RowKit Go.Proofs.Ytbemfgpdfacdpaa.Pr Go.Proofs.YtbemfgpdfacdpaaW.PrintWords Go.Proofs.YtbemfgpdfacdpaaW.PrintLast Go.Proofs.YtbemfgpdfacdpaaW.PrintMore
open Go.Proofs.Ytbemfgpdfacdpaa.QT (OwnAt)
set_option linter.unusedVariables false
set_option linter.unusedSimpArgs false
set_option maxHeartbeats 16000000 in
set_option maxRecDepth 100000 in
theorem refenc_bad4 (kd fr tt tm ix lt cm : Int) (ys : Bool) (es : List S46) (si st : Int) (sm : List Int) (sd : ByteArray) (A8 : Option Addr) (n8 c8 : Nat) (A11 : Option Addr) (n11 c11 : Nat) (w : World) (l0 : decide (kd < 1) = false) (l1 : decide (5 < kd) = false) (l2 : decide (fr < 1) = false) (l3 : decide (9 < fr) = false) (l4 : decide (tt < 1) = true) :
    Calls Try.prog 11 #[.agg (mcells ⟨kd, fr, tt, tm, ix, lt, cm, ys, es, si, st, sm, sd⟩ (.slice A8 n8 c8) (.slice A11 n11 c11))] w (EncQ w none) := by
  unfold mcells
  go_enter Try.func11, Try.ntmps11
  go_upto_region 2 with (fail)
  go_quiet (fail)
  go_wp2
  exact bodyPost_ret (v := .tuple #[.slice none 0 0, .int .i64 1]) (by simp [results, Try.results11, go_sem]) rfl (encQ_none (by repeat (first | exact Below.refl _ _ | apply pw_below_drewN | apply below_alloc)))
set_option maxHeartbeats 16000000 in
set_option maxRecDepth 100000 in
theorem refenc_bad5 (kd fr tt tm ix lt cm : Int) (ys : Bool) (es : List S46) (si st : Int) (sm : List Int) (sd : ByteArray) (A8 : Option Addr) (n8 c8 : Nat) (A11 : Option Addr) (n11 c11 : Nat) (w : World) (l0 : decide (kd < 1) = false) (l1 : decide (5 < kd) = false) (l2 : decide (fr < 1) = false) (l3 : decide (9 < fr) = false) (l4 : decide (tt < 1) = false) (l5 : decide (9 < tt) = true) :
    Calls Try.prog 11 #[.agg (mcells ⟨kd, fr, tt, tm, ix, lt, cm, ys, es, si, st, sm, sd⟩ (.slice A8 n8 c8) (.slice A11 n11 c11))] w (EncQ w none) := by
  unfold mcells
  go_enter Try.func11, Try.ntmps11
  go_upto_region 2 with (fail)
  go_quiet (fail)
  go_wp2
  exact bodyPost_ret (v := .tuple #[.slice none 0 0, .int .i64 1]) (by simp [results, Try.results11, go_sem]) rfl (encQ_none (by repeat (first | exact Below.refl _ _ | apply pw_below_drewN | apply below_alloc)))
set_option maxHeartbeats 16000000 in
set_option maxRecDepth 100000 in
theorem refenc_bad6 (kd fr tt tm ix lt cm : Int) (ys : Bool) (es : List S46) (si st : Int) (sm : List Int) (sd : ByteArray) (A8 : Option Addr) (n8 c8 : Nat) (A11 : Option Addr) (n11 c11 : Nat) (w : World) (l0 : decide (kd < 1) = false) (l1 : decide (5 < kd) = false) (l2 : decide (fr < 1) = false) (l3 : decide (9 < fr) = false) (l4 : decide (tt < 1) = false) (l5 : decide (9 < tt) = false) (l6 : decide (tm < 0) = true) :
    Calls Try.prog 11 #[.agg (mcells ⟨kd, fr, tt, tm, ix, lt, cm, ys, es, si, st, sm, sd⟩ (.slice A8 n8 c8) (.slice A11 n11 c11))] w (EncQ w none) := by
  unfold mcells
  go_enter Try.func11, Try.ntmps11
  go_upto_region 2 with (fail)
  go_quiet (fail)
  go_wp2
  exact bodyPost_ret (v := .tuple #[.slice none 0 0, .int .i64 1]) (by simp [results, Try.results11, go_sem]) rfl (encQ_none (by repeat (first | exact Below.refl _ _ | apply pw_below_drewN | apply below_alloc)))
set_option maxHeartbeats 16000000 in
set_option maxRecDepth 100000 in
theorem refenc_bad7 (kd fr tt tm ix lt cm : Int) (ys : Bool) (es : List S46) (si st : Int) (sm : List Int) (sd : ByteArray) (A8 : Option Addr) (n8 c8 : Nat) (A11 : Option Addr) (n11 c11 : Nat) (w : World) (l0 : decide (kd < 1) = false) (l1 : decide (5 < kd) = false) (l2 : decide (fr < 1) = false) (l3 : decide (9 < fr) = false) (l4 : decide (tt < 1) = false) (l5 : decide (9 < tt) = false) (l6 : decide (tm < 0) = false) (l7 : decide (ix < 0) = true) :
    Calls Try.prog 11 #[.agg (mcells ⟨kd, fr, tt, tm, ix, lt, cm, ys, es, si, st, sm, sd⟩ (.slice A8 n8 c8) (.slice A11 n11 c11))] w (EncQ w none) := by
  unfold mcells
  go_enter Try.func11, Try.ntmps11
  go_upto_region 2 with (fail)
  go_quiet (fail)
  go_wp2
  exact bodyPost_ret (v := .tuple #[.slice none 0 0, .int .i64 1]) (by simp [results, Try.results11, go_sem]) rfl (encQ_none (by repeat (first | exact Below.refl _ _ | apply pw_below_drewN | apply below_alloc)))
end Go.Proofs.Ytbemfgpdfacdpaa.Ms
namespace Go.Proofs.Ytbemfgpdfacdpaa.Ms
open Go.RowKit Go.Proofs.Ytbemfgpdfacdpaa.Pr Go.Proofs.YtbemfgpdfacdpaaW.PrintWords Go.Proofs.YtbemfgpdfacdpaaW.PrintLast Go.Proofs.YtbemfgpdfacdpaaW.PrintMore
open Go.Proofs.Ytbemfgpdfacdpaa.QT (OwnAt)
set_option linter.unusedVariables false
set_option linter.unusedSimpArgs false
set_option maxHeartbeats 16000000 in
set_option maxRecDepth 100000 in
theorem refenc_bad8 (kd fr tt tm ix lt cm : Int) (ys : Bool) (es : List S46) (si st : Int) (sm : List Int) (sd : ByteArray) (A8 : Option Addr) (n8 c8 : Nat) (A11 : Option Addr) (n11 c11 : Nat) (w : World) (l0 : decide (kd < 1) = false) (l1 : decide (5 < kd) = false) (l2 : decide (fr < 1) = false) (l3 : decide (9 < fr) = false) (l4 : decide (tt < 1) = false) (l5 : decide (9 < tt) = false) (l6 : decide (tm < 0) = false) (l7 : decide (ix < 0) = false) (l8 : decide (lt < 0) = true) :
    Calls Try.prog 11 #[.agg (mcells ⟨kd, fr, tt, tm, ix, lt, cm, ys, es, si, st, sm, sd⟩ (.slice A8 n8 c8) (.slice A11 n11 c11))] w (EncQ w none) := by
  unfold mcells
  go_enter Try.func11, Try.ntmps11
  go_upto_region 2 with (fail)
  go_quiet (fail)
  go_wp2
  exact bodyPost_ret (v := .tuple #[.slice none 0 0, .int .i64 1]) (by simp [results, Try.results11, go_sem]) rfl (encQ_none (by repeat (first | exact Below.refl _ _ | apply pw_below_drewN | apply below_alloc)))
set_option maxHeartbeats 16000000 in
set_option maxRecDepth 100000 in
theorem refenc_bad9 (kd fr tt tm ix lt cm : Int) (ys : Bool) (es : List S46) (si st : Int) (sm : List Int) (sd : ByteArray) (A8 : Option Addr) (n8 c8 : Nat) (A11 : Option Addr) (n11 c11 : Nat) (w : World) (l0 : decide (kd < 1) = false) (l1 : decide (5 < kd) = false) (l2 : decide (fr < 1) = false) (l3 : decide (9 < fr) = false) (l4 : decide (tt < 1) = false) (l5 : decide (9 < tt) = false) (l6 : decide (tm < 0) = false) (l7 : decide (ix < 0) = false) (l8 : decide (lt < 0) = false) (l9 : decide (cm < 0) = true) :
    Calls Try.prog 11 #[.agg (mcells ⟨kd, fr, tt, tm, ix, lt, cm, ys, es, si, st, sm, sd⟩ (.slice A8 n8 c8) (.slice A11 n11 c11))] w (EncQ w none) := by
  unfold mcells
  go_enter Try.func11, Try.ntmps11
  go_upto_region 2 with (fail)
  go_quiet (fail)
  go_wp2
  exact bodyPost_ret (v := .tuple #[.slice none 0 0, .int .i64 1]) (by simp [results, Try.results11, go_sem]) rfl (encQ_none (by repeat (first | exact Below.refl _ _ | apply pw_below_drewN | apply below_alloc)))
set_option maxHeartbeats 16000000 in
set_option maxRecDepth 100000 in
theorem refenc_bad10 (kd fr tt tm ix lt cm : Int) (ys : Bool) (es : List S46) (si st : Int) (sm : List Int) (sd : ByteArray) (A8 : Option Addr) (n8 c8 : Nat) (A11 : Option Addr) (n11 c11 : Nat) (w : World) (l0 : decide (kd < 1) = false) (l1 : decide (5 < kd) = false) (l2 : decide (fr < 1) = false) (l3 : decide (9 < fr) = false) (l4 : decide (tt < 1) = false) (l5 : decide (9 < tt) = false) (l6 : decide (tm < 0) = false) (l7 : decide (ix < 0) = false) (l8 : decide (lt < 0) = false) (l9 : decide (cm < 0) = false) (l10 : decide ((8 : Int) < (n8 : Int)) = true) :
    Calls Try.prog 11 #[.agg (mcells ⟨kd, fr, tt, tm, ix, lt, cm, ys, es, si, st, sm, sd⟩ (.slice A8 n8 c8) (.slice A11 n11 c11))] w (EncQ w none) := by
  unfold mcells
  go_enter Try.func11, Try.ntmps11
  go_upto_region 2 with (fail)
  go_quiet (fail)
  go_wp2
  exact bodyPost_ret (v := .tuple #[.slice none 0 0, .int .i64 1]) (by simp [results, Try.results11, go_sem]) rfl (encQ_none (by repeat (first | exact Below.refl _ _ | apply pw_below_drewN | apply below_alloc)))
set_option maxHeartbeats 16000000 in
set_option maxRecDepth 100000 in
theorem refenc_bad11 (kd fr tt tm ix lt cm : Int) (ys : Bool) (es : List S46) (si st : Int) (sm : List Int) (sd : ByteArray) (A8 : Option Addr) (n8 c8 : Nat) (A11 : Option Addr) (n11 c11 : Nat) (w : World) (l0 : decide (kd < 1) = false) (l1 : decide (5 < kd) = false) (l2 : decide (fr < 1) = false) (l3 : decide (9 < fr) = false) (l4 : decide (tt < 1) = false) (l5 : decide (9 < tt) = false) (l6 : decide (tm < 0) = false) (l7 : decide (ix < 0) = false) (l8 : decide (lt < 0) = false) (l9 : decide (cm < 0) = false) (l10 : decide ((8 : Int) < (n8 : Int)) = false) (l11 : decide ((9 : Int) < (n11 : Int)) = true) :
    Calls Try.prog 11 #[.agg (mcells ⟨kd, fr, tt, tm, ix, lt, cm, ys, es, si, st, sm, sd⟩ (.slice A8 n8 c8) (.slice A11 n11 c11))] w (EncQ w none) := by
  unfold mcells
  go_enter Try.func11, Try.ntmps11
  go_upto_region 2 with (fail)
  go_quiet (fail)
  go_wp2
  exact bodyPost_ret (v := .tuple #[.slice none 0 0, .int .i64 1]) (by simp [results, Try.results11, go_sem]) rfl (encQ_none (by repeat (first | exact Below.refl _ _ | apply pw_below_drewN | apply below_alloc)))
end Go.Proofs.Ytbemfgpdfacdpaa.Ms
namespace Go.Proofs.Ytbemfgpdfacdpaa.Ms
open Go.RowKit Go.Proofs.Ytbemfgpdfacdpaa.Pr Go.Proofs.YtbemfgpdfacdpaaW.PrintWords Go.Proofs.YtbemfgpdfacdpaaW.PrintLast Go.Proofs.YtbemfgpdfacdpaaW.PrintMore
open Go.Proofs.Ytbemfgpdfacdpaa.QT (OwnAt)
set_option linter.unusedVariables false
set_option linter.unusedSimpArgs false
set_option maxHeartbeats 16000000 in
set_option maxRecDepth 100000 in
theorem refenc_bad12 (kd fr tt tm ix lt cm : Int) (ys : Bool) (es : List S46) (si st : Int) (sm : List Int) (sd : ByteArray) (A8 : Option Addr) (n8 c8 : Nat) (A11 : Option Addr) (n11 c11 : Nat) (w : World) (l0 : decide (kd < 1) = false) (l1 : decide (5 < kd) = false) (l2 : decide (fr < 1) = false) (l3 : decide (9 < fr) = false) (l4 : decide (tt < 1) = false) (l5 : decide (9 < tt) = false) (l6 : decide (tm < 0) = false) (l7 : decide (ix < 0) = false) (l8 : decide (lt < 0) = false) (l9 : decide (cm < 0) = false) (l10 : decide ((8 : Int) < (n8 : Int)) = false) (l11 : decide ((9 : Int) < (n11 : Int)) = false) (l12 : decide ((65536 : Int) < (sd.size : Int)) = true) :
    Calls Try.prog 11 #[.agg (mcells ⟨kd, fr, tt, tm, ix, lt, cm, ys, es, si, st, sm, sd⟩ (.slice A8 n8 c8) (.slice A11 n11 c11))] w (EncQ w none) := by
  unfold mcells
  go_enter Try.func11, Try.ntmps11
  go_upto_region 2 with (fail)
  go_quiet (fail)
  go_wp2
  exact bodyPost_ret (v := .tuple #[.slice none 0 0, .int .i64 1]) (by simp [results, Try.results11, go_sem]) rfl (encQ_none (by repeat (first | exact Below.refl _ _ | apply pw_below_drewN | apply below_alloc)))
set_option maxHeartbeats 16000000 in
set_option maxRecDepth 100000 in
theorem refenc_bad13 (kd fr tt tm ix lt cm : Int) (ys : Bool) (es : List S46) (si st : Int) (sm : List Int) (sd : ByteArray) (A8 : Option Addr) (n8 c8 : Nat) (A11 : Option Addr) (n11 c11 : Nat) (w : World) (l0 : decide (kd < 1) = false) (l1 : decide (5 < kd) = false) (l2 : decide (fr < 1) = false) (l3 : decide (9 < fr) = false) (l4 : decide (tt < 1) = false) (l5 : decide (9 < tt) = false) (l6 : decide (tm < 0) = false) (l7 : decide (ix < 0) = false) (l8 : decide (lt < 0) = false) (l9 : decide (cm < 0) = false) (l10 : decide ((8 : Int) < (n8 : Int)) = false) (l11 : decide ((9 : Int) < (n11 : Int)) = false) (l12 : decide ((65536 : Int) < (sd.size : Int)) = false) (l13 : decide (si < 0) = true) :
    Calls Try.prog 11 #[.agg (mcells ⟨kd, fr, tt, tm, ix, lt, cm, ys, es, si, st, sm, sd⟩ (.slice A8 n8 c8) (.slice A11 n11 c11))] w (EncQ w none) := by
  unfold mcells
  go_enter Try.func11, Try.ntmps11
  go_upto_region 2 with (fail)
  go_quiet (fail)
  go_wp2
  exact bodyPost_ret (v := .tuple #[.slice none 0 0, .int .i64 1]) (by simp [results, Try.results11, go_sem]) rfl (encQ_none (by repeat (first | exact Below.refl _ _ | apply pw_below_drewN | apply below_alloc)))
set_option maxHeartbeats 16000000 in
set_option maxRecDepth 100000 in
theorem refenc_bad14 (kd fr tt tm ix lt cm : Int) (ys : Bool) (es : List S46) (si st : Int) (sm : List Int) (sd : ByteArray) (A8 : Option Addr) (n8 c8 : Nat) (A11 : Option Addr) (n11 c11 : Nat) (w : World) (l0 : decide (kd < 1) = false) (l1 : decide (5 < kd) = false) (l2 : decide (fr < 1) = false) (l3 : decide (9 < fr) = false) (l4 : decide (tt < 1) = false) (l5 : decide (9 < tt) = false) (l6 : decide (tm < 0) = false) (l7 : decide (ix < 0) = false) (l8 : decide (lt < 0) = false) (l9 : decide (cm < 0) = false) (l10 : decide ((8 : Int) < (n8 : Int)) = false) (l11 : decide ((9 : Int) < (n11 : Int)) = false) (l12 : decide ((65536 : Int) < (sd.size : Int)) = false) (l13 : decide (si < 0) = false) (l14 : decide (st < 0) = true) :
    Calls Try.prog 11 #[.agg (mcells ⟨kd, fr, tt, tm, ix, lt, cm, ys, es, si, st, sm, sd⟩ (.slice A8 n8 c8) (.slice A11 n11 c11))] w (EncQ w none) := by
  unfold mcells
  go_enter Try.func11, Try.ntmps11
  go_upto_region 2 with (fail)
  go_quiet (fail)
  go_wp2
  exact bodyPost_ret (v := .tuple #[.slice none 0 0, .int .i64 1]) (by simp [results, Try.results11, go_sem]) rfl (encQ_none (by repeat (first | exact Below.refl _ _ | apply pw_below_drewN | apply below_alloc)))
end Go.Proofs.Ytbemfgpdfacdpaa.Ms
namespace Go.Proofs.Ytbemfgpdfacdpaa.Ms
open Go.RowKit Go.Proofs.Ytbemfgpdfacdpaa.Pr Go.Proofs.YtbemfgpdfacdpaaW.PrintWords Go.Proofs.YtbemfgpdfacdpaaW.PrintLast Go.Proofs.YtbemfgpdfacdpaaW.PrintMore
open Go.Proofs.Ytbemfgpdfacdpaa.QT (OwnAt)
set_option linter.unusedVariables false
set_option linter.unusedSimpArgs false
def bad1 (m : M13) : Prop := m.kd < 1 ∨ 5 < m.kd ∨ m.fr < 1 ∨ 9 < m.fr ∨ m.tt < 1 ∨ 9 < m.tt ∨ m.tm < 0 ∨ m.ix < 0 ∨ m.lt < 0 ∨ m.cm < 0 ∨ 8 < m.es.length ∨ 9 < m.sm.length ∨ 65536 < m.sd.size ∨ m.si < 0 ∨ m.st < 0
open Classical in
/-- What the reference writes. -/
noncomputable def refE (m : M13) : Option (List Int) := if bad1 m ∨ onlyM m ≠ m ∨ (∃ e ∈ m.es, oddE e = true) ∨ (∃ v ∈ m.sm, v < 0) then none else some (rawW m)
theorem refE_bad {m : M13} (h : bad1 m) : refE m = none := by rw [refE, if_pos (.inl h)]
theorem refenc_bad (m : M13) (A8 : Option Addr) (n8 c8 : Nat) (A11 : Option Addr) (n11 c11 : Nat) (w : World) (hE1 : n8 = m.es.length) (hS1 : n11 = m.sm.length) (hbad : bad1 m) :
    Calls Try.prog 11 #[.agg (mcells m (.slice A8 n8 c8) (.slice A11 n11 c11))] w (EncQ w none) := by
  obtain ⟨kd, fr, tt, tm, ix, lt, cm, ys, es, si, st, sm, sd⟩ := m
  by_cases h0 : kd < 1
  · exact refenc_bad0 kd fr tt tm ix lt cm ys es si st sm sd A8 n8 c8 A11 n11 c11 w  (decide_eq_true h0)
  by_cases h1 : 5 < kd
  · exact refenc_bad1 kd fr tt tm ix lt cm ys es si st sm sd A8 n8 c8 A11 n11 c11 w (decide_eq_false h0) (decide_eq_true h1)
  by_cases h2 : fr < 1
  · exact refenc_bad2 kd fr tt tm ix lt cm ys es si st sm sd A8 n8 c8 A11 n11 c11 w (decide_eq_false h0) (decide_eq_false h1) (decide_eq_true h2)
  by_cases h3 : 9 < fr
  · exact refenc_bad3 kd fr tt tm ix lt cm ys es si st sm sd A8 n8 c8 A11 n11 c11 w (decide_eq_false h0) (decide_eq_false h1) (decide_eq_false h2) (decide_eq_true h3)
  by_cases h4 : tt < 1
  · exact refenc_bad4 kd fr tt tm ix lt cm ys es si st sm sd A8 n8 c8 A11 n11 c11 w (decide_eq_false h0) (decide_eq_false h1) (decide_eq_false h2) (decide_eq_false h3) (decide_eq_true h4)
  by_cases h5 : 9 < tt
  · exact refenc_bad5 kd fr tt tm ix lt cm ys es si st sm sd A8 n8 c8 A11 n11 c11 w (decide_eq_false h0) (decide_eq_false h1) (decide_eq_false h2) (decide_eq_false h3) (decide_eq_false h4) (decide_eq_true h5)
  by_cases h6 : tm < 0
  · exact refenc_bad6 kd fr tt tm ix lt cm ys es si st sm sd A8 n8 c8 A11 n11 c11 w (decide_eq_false h0) (decide_eq_false h1) (decide_eq_false h2) (decide_eq_false h3) (decide_eq_false h4) (decide_eq_false h5) (decide_eq_true h6)
  by_cases h7 : ix < 0
  · exact refenc_bad7 kd fr tt tm ix lt cm ys es si st sm sd A8 n8 c8 A11 n11 c11 w (decide_eq_false h0) (decide_eq_false h1) (decide_eq_false h2) (decide_eq_false h3) (decide_eq_false h4) (decide_eq_false h5) (decide_eq_false h6) (decide_eq_true h7)
  by_cases h8 : lt < 0
  · exact refenc_bad8 kd fr tt tm ix lt cm ys es si st sm sd A8 n8 c8 A11 n11 c11 w (decide_eq_false h0) (decide_eq_false h1) (decide_eq_false h2) (decide_eq_false h3) (decide_eq_false h4) (decide_eq_false h5) (decide_eq_false h6) (decide_eq_false h7) (decide_eq_true h8)
  by_cases h9 : cm < 0
  · exact refenc_bad9 kd fr tt tm ix lt cm ys es si st sm sd A8 n8 c8 A11 n11 c11 w (decide_eq_false h0) (decide_eq_false h1) (decide_eq_false h2) (decide_eq_false h3) (decide_eq_false h4) (decide_eq_false h5) (decide_eq_false h6) (decide_eq_false h7) (decide_eq_false h8) (decide_eq_true h9)
  by_cases h10 : (8 : Int) < (n8 : Int)
  · exact refenc_bad10 kd fr tt tm ix lt cm ys es si st sm sd A8 n8 c8 A11 n11 c11 w (decide_eq_false h0) (decide_eq_false h1) (decide_eq_false h2) (decide_eq_false h3) (decide_eq_false h4) (decide_eq_false h5) (decide_eq_false h6) (decide_eq_false h7) (decide_eq_false h8) (decide_eq_false h9) (decide_eq_true h10)
  by_cases h11 : (9 : Int) < (n11 : Int)
  · exact refenc_bad11 kd fr tt tm ix lt cm ys es si st sm sd A8 n8 c8 A11 n11 c11 w (decide_eq_false h0) (decide_eq_false h1) (decide_eq_false h2) (decide_eq_false h3) (decide_eq_false h4) (decide_eq_false h5) (decide_eq_false h6) (decide_eq_false h7) (decide_eq_false h8) (decide_eq_false h9) (decide_eq_false h10) (decide_eq_true h11)
  by_cases h12 : (65536 : Int) < (sd.size : Int)
  · exact refenc_bad12 kd fr tt tm ix lt cm ys es si st sm sd A8 n8 c8 A11 n11 c11 w (decide_eq_false h0) (decide_eq_false h1) (decide_eq_false h2) (decide_eq_false h3) (decide_eq_false h4) (decide_eq_false h5) (decide_eq_false h6) (decide_eq_false h7) (decide_eq_false h8) (decide_eq_false h9) (decide_eq_false h10) (decide_eq_false h11) (decide_eq_true h12)
  by_cases h13 : si < 0
  · exact refenc_bad13 kd fr tt tm ix lt cm ys es si st sm sd A8 n8 c8 A11 n11 c11 w (decide_eq_false h0) (decide_eq_false h1) (decide_eq_false h2) (decide_eq_false h3) (decide_eq_false h4) (decide_eq_false h5) (decide_eq_false h6) (decide_eq_false h7) (decide_eq_false h8) (decide_eq_false h9) (decide_eq_false h10) (decide_eq_false h11) (decide_eq_false h12) (decide_eq_true h13)
  by_cases h14 : st < 0
  · exact refenc_bad14 kd fr tt tm ix lt cm ys es si st sm sd A8 n8 c8 A11 n11 c11 w (decide_eq_false h0) (decide_eq_false h1) (decide_eq_false h2) (decide_eq_false h3) (decide_eq_false h4) (decide_eq_false h5) (decide_eq_false h6) (decide_eq_false h7) (decide_eq_false h8) (decide_eq_false h9) (decide_eq_false h10) (decide_eq_false h11) (decide_eq_false h12) (decide_eq_false h13) (decide_eq_true h14)
  exfalso
  have q8 : n8 = es.length := hE1
  have q11 : n11 = sm.length := hS1
  rcases hbad with h | h | h | h | h | h | h | h | h | h | h | h | h | h | h
  all_goals simp only at h
  all_goals omega
end Go.Proofs.Ytbemfgpdfacdpaa.Ms
namespace Go.Proofs.Ytbemfgpdfacdpaa.Ms
open Go.RowKit Go.Proofs.Ytbemfgpdfacdpaa.Pr Go.Proofs.YtbemfgpdfacdpaaW.PrintWords Go.Proofs.YtbemfgpdfacdpaaW.PrintLast Go.Proofs.YtbemfgpdfacdpaaW.PrintMore
set_option linter.unusedVariables false
set_option linter.unusedSimpArgs false
def Right (m : M13) : Prop := goodM m ∧ isNode m.fr = true ∧ isNode m.tt = true
theorem enc_right {m : M13} (h : Right m) : encP m = some (rawW m) := by
  rw [encP, if_neg (by rw [h.1.bad]; decide), dec_comp h.1 h.2.1 h.2.2]
  simp only [sameP_self, if_true]
theorem right_enc {m : M13} {b : List Int} (hf : FitM m) (h : encP m = some b) : Right m := by
  obtain ⟨e1, g, d⟩ := enc_some (fun e he => (hf.2.2.2.2.2.2.2.2.2.1 e he).fit) h
  refine ⟨g, ?_⟩
  rw [decP] at d
  split at d
  · cases d
  · rename_i hc
    cases d
    simp only [not_or, Bool.not_eq_false] at hc
    exact ⟨hc.2.2.1, hc.2.2.2⟩
theorem node_iff {i : Int} : isNode i = true ↔ 1 ≤ i ∧ i ≤ 9 := by simp [isNode]
theorem ref_right {m : M13} (h : Right m) : refE m = some (rawW m) := by
  obtain ⟨⟨h1, h2, h3, h4⟩, n1, n2⟩ := h
  rw [node_iff] at n1 n2
  rw [refE, if_neg]
  rintro (hb | hb | hb | hb)
  · unfold bad1 at hb
    rcases h4 with ⟨hk, x, y, hx, hy, hm⟩ | ⟨hk, y, hm⟩ | ⟨hk, x, y, z, es, hx, hy, hz, he, hg, hm⟩ | ⟨hk, x, y, hx, hm⟩ | ⟨hk, x, y, ms, s, hx, hy, h9, hg, hs, hm⟩
    all_goals
      have e1 : m.ix = _ := congrArg M13.ix hm
      have e2 : m.lt = _ := congrArg M13.lt hm
      have e3 : m.cm = _ := congrArg M13.cm hm
      have e4 : m.es = _ := congrArg M13.es hm
      have e5 : m.sm = _ := congrArg M13.sm hm
      have e6 : m.sd = _ := congrArg M13.sd hm
      have e7 : m.si = _ := congrArg M13.si hm
      have e8 : m.st = _ := congrArg M13.st hm
      simp only at e1 e2 e3 e4 e5 e6 e7 e8
      rw [e1, e2, e3, e4, e5, e6, e7, e8, hk] at hb
      clear hm e1 e2 e3 e4 e5 e6 e7 e8
      have z : (⟨#[]⟩ : ByteArray).size = 0 := rfl
      simp only [List.length_nil, z] at hb
      omega
  · refine hb ?_
    rcases h4 with ⟨hk, x, y, hx, hy, hm⟩ | ⟨hk, y, hm⟩ | ⟨hk, x, y, z, es, hx, hy, hz, he, hg, hm⟩ | ⟨hk, x, y, hx, hm⟩ | ⟨hk, x, y, ms, s, hx, hy, h9, hg, hs, hm⟩
    all_goals
      rw [hm]
      rfl
  · obtain ⟨e, he, ho⟩ := hb
    rcases h4 with ⟨hk, x, y, hx, hy, hm⟩ | ⟨hk, y, hm⟩ | ⟨hk, x, y, z, es, hx, hy, hz, he', hg, hm⟩ | ⟨hk, x, y, hx, hm⟩ | ⟨hk, x, y, ms, s, hx, hy, h9, hg, hs, hm⟩
    · rw [hm] at he; cases he
    · rw [hm] at he; cases he
    · rw [hm] at he
      rw [(hg e he).odd] at ho; cases ho
    · rw [hm] at he; cases he
    · rw [hm] at he; cases he
  · obtain ⟨v, hv, ho⟩ := hb
    rcases h4 with ⟨hk, x, y, hx, hy, hm⟩ | ⟨hk, y, hm⟩ | ⟨hk, x, y, z, es, hx, hy, hz, he', hg, hm⟩ | ⟨hk, x, y, hx, hm⟩ | ⟨hk, x, y, ms, s, hx, hy, h9, hg, hs, hm⟩
    · rw [hm] at hv; cases hv
    · rw [hm] at hv; cases hv
    · rw [hm] at hv; cases hv
    · rw [hm] at hv; cases hv
    · rw [hm] at hv
      have := (hg v hv).1
      omega
theorem right_ref {m : M13} (hf : FitM m) (h : refE m ≠ none) : Right m := by
  rw [refE] at h
  split at h
  · exact absurd rfl h
  · rename_i hc
    simp only [not_or, not_exists, not_and, Bool.not_eq_true, ne_eq, Decidable.not_not] at hc
    obtain ⟨hb, ho, hE, hS⟩ := hc
    have ho : onlyM m = m := Classical.byContradiction ho
    unfold bad1 at hb
    obtain ⟨f0, f1, f2, f3, f4, f5, f6, f7, f8, fE, _, fS, _, _⟩ := hf
    simp only [not_or, Int.not_lt, Nat.not_lt] at hb
    obtain ⟨b0, b1, b2, b3, b4, b5, b6, b7, b8, b9, b10, b11, b12, b13, b14⟩ := hb
    have hk : m.kd = 1 ∨ m.kd = 2 ∨ m.kd = 3 ∨ m.kd = 4 ∨ m.kd = 5 := by clear ho hE hS fE fS; omega
    have gE : ∀ e ∈ m.es, goodE e := fun e he => goodE_of (fE e he).fit (hE e he)
    have gS : ∀ v ∈ m.sm, 0 ≤ v ∧ v ≤ 9223372036854775807 := fun v hv => ⟨by have := hS v hv; omega, (fS v hv).2⟩
    refine ⟨⟨⟨by omega, f1.2⟩, ⟨by omega, f2.2⟩, ⟨b6, f3.2⟩, ?_⟩, node_iff.2 ⟨b2, b3⟩, node_iff.2 ⟨b4, b5⟩⟩
    rcases hk with hk | hk | hk | hk | hk
    · refine .inl ⟨hk, m.ix, m.lt, ⟨b7, f4.2⟩, ⟨b8, f5.2⟩, ?_⟩
      rw [onlyM, if_pos hk, hk] at ho
      exact ho.symm
    · refine .inr (.inl ⟨hk, m.ys, ?_⟩)
      rw [onlyM, if_neg (by omega), if_pos hk, hk] at ho
      exact ho.symm
    · refine .inr (.inr (.inl ⟨hk, m.ix, m.lt, m.cm, m.es, ⟨b7, f4.2⟩, ⟨b8, f5.2⟩, ⟨b9, f6.2⟩, b10, gE, ?_⟩))
      rw [onlyM, if_neg (by omega), if_neg (by omega), if_pos hk, hk] at ho
      exact ho.symm
    · refine .inr (.inr (.inr (.inl ⟨hk, m.ix, m.ys, ⟨b7, f4.2⟩, ?_⟩)))
      rw [onlyM, if_neg (by omega), if_neg (by omega), if_neg (by omega), if_pos hk, hk] at ho
      exact ho.symm
    · refine .inr (.inr (.inr (.inr ⟨hk, m.si, m.st, m.sm, m.sd, ⟨b13, f7.2⟩, ⟨b14, f8.2⟩, b11, gS, b12, ?_⟩)))
      rw [onlyM, if_neg (by omega), if_neg (by omega), if_neg (by omega), if_neg (by omega), if_pos hk, hk] at ho
      exact ho.symm
/-- The program and the reference write the same. -/
theorem enc_ref {m : M13} (hf : FitM m) : encP m = refE m := by
  by_cases h : Right m
  · rw [enc_right h, ref_right h]
  · have h1 : encP m = none := by
      cases he : encP m with
      | none => rfl
      | some b => exact absurd (right_enc hf he) h
    have h2 : refE m = none := by
      apply Classical.byContradiction
      intro hn
      exact h (right_ref hf hn)
    rw [h1, h2]
end Go.Proofs.Ytbemfgpdfacdpaa.Ms
namespace Go.Proofs.Ytbemfgpdfacdpaa.Ms
open Go.RowKit Go.Proofs.Ytbemfgpdfacdpaa.Pr Go.Proofs.YtbemfgpdfacdpaaW.PrintWords Go.Proofs.YtbemfgpdfacdpaaW.PrintLast Go.Proofs.YtbemfgpdfacdpaaW.PrintMore
open Go.Proofs.Ytbemfgpdfacdpaa.QT (OwnAt)
set_option linter.unusedVariables false
set_option linter.unusedSimpArgs false
theorem odd_l (vs : List Int) : ∀ (m i k : Nat) (b : Bool) (x0 x1 x2 : Int) (s : ByteArray), i + m = vs.length → vs.length ≤ 1000000 → m < k → parapetref6_oddEntry.l0 k b i x0 x1 x2 s vs = some (b || (vs.drop i).any (fun x => decide (x < 0)))
  | 0, i, k + 1, b, x0, x1, x2, s, h, hl, _ => by rw [parapetref6_oddEntry.l0, if_neg (by omega), List.drop_eq_nil_of_le (by omega)]; simp
  | m + 1, i, k + 1, b, x0, x1, x2, s, h, hl, hk => by
    have hi : i < vs.length := by omega
    have e : rd vs (i : Int) = vs[i] := by simp [rd, hi]
    have e2 : wrap64 ((i : Int) + 1) = ((i + 1 : Nat) : Int) := by unfold wrap64; omega
    rw [parapetref6_oddEntry.l0, if_pos (by omega), e2, List.drop_eq_getElem_cons hi, List.any_cons]
    cases b
    · rw [if_neg (by decide), if_pos (by omega), e, odd_l vs m (i + 1) k _ _ _ _ _ (by omega) hl (by omega)]; simp
    · rw [if_pos rfl, odd_l vs m (i + 1) k _ _ _ _ _ (by omega) hl (by omega)]; simp
theorem odd_f (e : S46) (hl : e.f4.length ≤ 1000000) : parapetref6_oddEntry.f (e.f4.length + 5) e.f0 e.f1 e.f2 e.f3 e.f4 = some (oddE e) := by
  have j : ∀ b x0 x1 x2 s, parapetref6_oddEntry.j0 (e.f4.length + 5) b x0 x1 x2 s e.f4 = some (b || e.f4.any (fun x => decide (x < 0))) := fun b x0 x1 x2 s => by
    rw [parapetref6_oddEntry.j0]
    have := odd_l e.f4 e.f4.length 0 (e.f4.length + 4) b x0 x1 x2 s (by omega) hl (by omega)
    rw [List.drop_zero] at this
    exact this
  rw [parapetref6_oddEntry.f]
  simp only [j]
  unfold oddE
  by_cases h0 : e.f0 < 0
  · simp [h0]
  by_cases h1 : e.f1 < 0
  · simp [h0, h1]
  by_cases h2 : e.f2 < 0
  · simp [h0, h1, h2]
  by_cases h3 : 4000 < e.f3.size
  · have h3' : (e.f3.size : Int) > 4000 := by omega
    simp [h0, h1, h2, h3, h3']
  have h3' : ¬ (e.f3.size : Int) > 4000 := by omega
  have h5 : decide ((e.f4.length : Int) > 9) = decide (9 < e.f4.length) := decide_eq_decide.2 (by omega)
  simp only [if_neg h0, if_neg h1, if_neg h2, if_neg h3', h5]
  simp [h0, h1, h2, h3]
theorem odd_calls (e : S46) (A : Option Addr) (n c : Nat) (w : World) (hC : (Kd.int .i64).C w A e.f4.length e.f4) (hn : n = e.f4.length) (hc : n ≤ c) (hl : e.f4.length ≤ 1000000) :
    Calls Try.prog 25 #[.agg #[.int .i64 e.f0, .int .i64 e.f1, .int .i64 e.f2, .string e.f3, .slice A n c]] w fun r w' => r = .returned (.bool (oddE e)) ∧ Below w.heap.size w w' := by
  subst hn
  exact parapetref6_oddEntry.calls _ _ _ _ _ A c _ _ w hC hc (odd_f e hl)
open Classical in
noncomputable def sameO (m : M13) : Bool := decide (onlyM m = m)
theorem refsame_calls (m : M13) (A8 : Option Addr) (n8 c8 : Nat) (A11 : Option Addr) (n11 c11 : Nat) (w : World) (hE : k46.C w A8 m.es.length m.es) (hE1 : n8 = m.es.length) (hE2 : n8 ≤ c8) (hS : (Kd.int .i64).C w A11 m.sm.length m.sm) (hS1 : n11 = m.sm.length) (hS2 : n11 ≤ c11)
    (hl : m.es.length ≤ 20) (h9 : ∀ e ∈ m.es, e.f4.length ≤ 20000) (hm : m.sm.length ≤ 20) :
    Calls Try.prog 15 #[.agg (mcells (onlyM m) (if m.kd = 3 then .slice A8 n8 c8 else .slice none 0 0) (if m.kd = 5 then .slice A11 n11 c11 else .slice none 0 0)), .agg (mcells m (.slice A8 n8 c8) (.slice A11 n11 c11))] w fun e w' => e = .returned (.bool (sameO m)) ∧ Below w.heap.size w w' := by
  subst hE1 hS1
  have he : (onlyM m).es = m.es ∧ m.kd = 3 ∨ (onlyM m).es = [] ∧ m.kd ≠ 3 := by
    unfold onlyM
    by_cases h3 : m.kd = 3
    · left; simp [h3]
    · right; refine ⟨?_, h3⟩
      repeat' split
      all_goals first | rfl | contradiction
  have hs : (onlyM m).sm = m.sm ∧ m.kd = 5 ∨ (onlyM m).sm = [] ∧ m.kd ≠ 5 := by
    unfold onlyM
    by_cases h3 : m.kd = 5
    · left; simp [h3]
    · right; refine ⟨?_, h3⟩
      repeat' split
      all_goals first | rfl | contradiction
  obtain ⟨B8, d8, ev8, hC8, hd8⟩ : ∃ B8 d8, (if m.kd = 3 then Value.slice A8 m.es.length c8 else .slice none 0 0) = .slice B8 (onlyM m).es.length d8 ∧ k46.C w B8 (onlyM m).es.length (onlyM m).es ∧ (onlyM m).es.length ≤ d8 := by
    rcases he with ⟨e, h3⟩ | ⟨e, h3⟩
    · rw [if_pos h3, e]; exact ⟨A8, c8, rfl, hE, hE2⟩
    · rw [if_neg h3, e]; exact ⟨none, 0, rfl, Kd.C_nil _ _, Nat.le_refl _⟩
  obtain ⟨B11, d11, ev11, hC11, hd11⟩ : ∃ B11 d11, (if m.kd = 5 then Value.slice A11 m.sm.length c11 else .slice none 0 0) = .slice B11 (onlyM m).sm.length d11 ∧ (Kd.int .i64).C w B11 (onlyM m).sm.length (onlyM m).sm ∧ (onlyM m).sm.length ≤ d11 := by
    rcases hs with ⟨e, h3⟩ | ⟨e, h3⟩
    · rw [if_pos h3, e]; exact ⟨A11, c11, rfl, hS, hS2⟩
    · rw [if_neg h3, e]; exact ⟨none, 0, rfl, Kd.C_nil _ _, Nat.le_refl _⟩
  rw [ev8, ev11]
  obtain ⟨r, hr, hi⟩ := same_gen (onlyM m) m (he.imp And.left And.left) (hs.imp And.left And.left) hl h9 hm
  have e : sameO m = r := by
    unfold sameO
    classical
    cases r
    · exact decide_eq_false (fun h => by have := hi.2 h; cases this)
    · exact decide_eq_true (hi.1 rfl)
  rw [e]
  exact parapetref6_SameMsg.calls 30000 _ _ _ _ _ _ _ _ B8 d8 _ _ _ B11 d11 _ _ _ _ _ _ _ _ _ _ A8 c8 _ _ _ A11 c11 _ _ r w hC8 hd8 hC11 hd11 hE hE2 hS hS2 hr
/-- A sequence behind its first n. -/
def dropSeq : Nat → Code → Code
  | 0, c => c
  | n + 1, .seq _ b => dropSeq n b
  | _ + 1, c => c
noncomputable def encT (n : Nat) : Code := dropSeq n (Try.f11.body.getD .skip)
theorem loadRow_ {P : Program} {ops : Array Oper} {Q : Exit → Act → World → Prop} {oi : Oper} {N : Option Tmp} {a : Act} {w : World} {K : Act → World → Prop} (hw : Region.wanted oi (yielded ops a.tmps) = true) (hN : oi.dst = N) (ty : TypeId) (x : Operand) (ho : oi.op = .load ty x)
    (g : Nat) (hx : a.eval x = .pointer (some ⟨g, 0, none⟩)) (t : TypeId) (cs : Array Value) (fr : Nat × Nat) (d : TypeDesc) (hg : w.heap[g]? = some (.cells cs t fr))
    (hu : P.underlying ty = some d) (hd : (match d with | .struct _ | .array _ _ => true | _ => false) = true) (hi : (P.info? ty).map (·.size) = some cs.size) (h : K (a.put N (.agg cs)) w) : if Region.wanted oi (yielded ops a.tmps) = true then Oper.wp P oi a w K Q else K (a.put N undef) w := by
  rw [if_pos hw]
  exact wp_load_row ty x ho g hx t cs fr d hg hu hd hi (by rw [hN]; exact h)
end Go.Proofs.Ytbemfgpdfacdpaa.Ms
