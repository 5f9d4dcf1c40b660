/- Plain facts for the laws: a message is itself; a message that is looked at is small. -/
import Derived.Test.YtbemfgpdfacdpaaMsg11
import Derived.Test.YtbemfgpdfacdpaaMsg12
namespace Go.Proofs.Ytbemfgpdfacdpaa.Ms
open Go.RowKit Go.Proofs.Ytbemfgpdfacdpaa.Pr Go.Proofs.YtbemfgpdfacdpaaW.PrintWords Go.Proofs.YtbemfgpdfacdpaaW.PrintLast Go.Proofs.YtbemfgpdfacdpaaW.PrintMore
set_option linter.unusedVariables false
set_option linter.unusedSimpArgs false
theorem ints_same_l (l : List Int) (hl : l.length ≤ 4611686018427387904) : ∀ (m i k : Nat), i + m = l.length → m < k → parapetref6_SameInts.l0 k l l i = some true
  | 0, i, k + 1, h, _ => by rw [parapetref6_SameInts.l0, if_neg (by omega)]
  | m + 1, i, k + 1, h, hk => by
    rw [parapetref6_SameInts.l0, if_pos (by omega), if_pos (by omega), if_pos (by omega), if_pos rfl, show wrap64 ((i : Int) + 1) = ((i + 1 : Nat) : Int) by unfold wrap64; omega]
    exact ints_same_l l hl m (i + 1) k (by omega) (by omega)
theorem ints_same_f (l : List Int) (k : Nat) (h : l.length ≤ 20) (hk : 20 < k) : parapetref6_SameInts.f k l l = some true := by
  rw [parapetref6_SameInts.f, if_pos rfl]
  exact ints_same_l l (by omega) l.length 0 k (by omega) (by omega)
theorem ents_same_l (l : List S46) (hl : l.length ≤ 20) (h9 : ∀ e ∈ l, e.f4.length ≤ 20) : ∀ (m i k : Nat), i + m = l.length → 21 + m < k → parapetref6_SameEntries.l0 k l l i = some true
  | 0, i, k + 1, h, _ => by rw [parapetref6_SameEntries.l0, if_neg (by omega)]
  | m + 1, i, k + 1, h, hk => by
    have hm : rd_T46 l (i : Int) ∈ l := by
      have : rd_T46 l (i : Int) = l[i]'(by omega) := by
        have hi : i < l.length := by omega
        simp [rd_T46, hi]
      rw [this]
      exact List.getElem_mem _
    rw [parapetref6_SameEntries.l0, if_pos (by omega), if_pos (by omega), if_pos (by omega), if_pos rfl, if_pos rfl, if_pos rfl, if_pos rfl, ints_same_f _ k (h9 _ hm) (by omega), Option.bind_some, if_pos rfl, show wrap64 ((i : Int) + 1) = ((i + 1 : Nat) : Int) by unfold wrap64; omega]
    exact ents_same_l l hl h9 m (i + 1) k (by omega) (by omega)
theorem msg_same_self (m : M13) (h8 : m.es.length ≤ 20) (h9 : ∀ e ∈ m.es, e.f4.length ≤ 20) (hs : m.sm.length ≤ 20) : parapetref6_SameMsg.f 50 m.kd m.fr m.tt m.tm m.ix m.lt m.cm m.ys m.es m.si m.st m.sm m.sd m.kd m.fr m.tt m.tm m.ix m.lt m.cm m.ys m.es m.si m.st m.sm m.sd = some true := by
  have he : parapetref6_SameEntries.f 50 m.es m.es = some true := by
    rw [parapetref6_SameEntries.f, if_pos rfl]
    exact ents_same_l m.es h8 h9 m.es.length 0 50 (by omega) (by omega)
  rw [parapetref6_SameMsg.f, if_pos rfl, if_pos rfl, if_pos rfl, if_pos rfl, if_pos rfl, if_pos rfl, if_pos rfl, if_pos (beq_self_eq_true _), he, Option.bind_some, if_pos rfl, parapetref6_SameSnap.f, if_pos rfl, if_pos rfl, if_pos rfl, ints_same_f _ 50 hs (by decide)]
  rfl
theorem goodM.small {m : M13} (h : goodM m) : m.es.length ≤ 20 ∧ (∀ e ∈ m.es, e.f4.length ≤ 20) ∧ m.sm.length ≤ 20 := by
  obtain ⟨_, _, _, h4⟩ := h
  rcases h4 with ⟨_, x, y, hx, hy, hm⟩ | ⟨_, y, hm⟩ | ⟨_, x, y, z, es, hx, hy, hz, he, hg, hm⟩ | ⟨_, x, y, hx, hm⟩ | ⟨_, x, y, ms, s, hx, hy, h9, hg, hs, hm⟩
  · rw [hm]; exact ⟨by simp, (fun e he => by cases he), by simp⟩
  · rw [hm]; exact ⟨by simp, (fun e he => by cases he), by simp⟩
  · rw [hm]; exact ⟨by show es.length ≤ 20; omega, fun e he' => by have := (hg e he').2.2.2.2.1; omega, by simp⟩
  · rw [hm]; exact ⟨by simp, (fun e he => by cases he), by simp⟩
  · rw [hm]; exact ⟨by simp, (fun e he => by cases he), by show ms.length ≤ 20; omega⟩
def ew (e : S46) : Nat := e.f3.size + 8 * e.f4.length
theorem flat_w : ∀ es : List S46, (es.flatMap wentry).length = 29 * es.length + (es.map ew).sum
  | [] => rfl
  | e :: es => by
    rw [List.flatMap_cons, List.length_append, flat_w es, List.length_cons, List.map_cons, List.sum_cons, wentry, List.length_append, List.length_append, wints_length, wtext, List.length_append, wnum_length, bytesOf_length, wmem, List.length_append, wnum_length, wints_length, ew]
    simp only [List.length_cons, List.length_nil]
    omega
theorem wrap_add (x s n : Nat) (hx : x ≤ 20000) (hs : s ≤ 140737488351232) (hn : n * 8 ≤ 140737488351232) : (wrap64 ((wrap64 ((x : Int) + (s : Int))) + (wrap64 (8 * (n : Int))))) = ((x + (s + 8 * n) : Nat) : Int) := by
  unfold wrap64; omega
theorem wrap_in (d s e : Nat) (hd : d ≤ 140737488351232) (hs : s * 8 ≤ 140737488351232) (he : e * 64 ≤ 140737488351232) : (wrap64 ((wrap64 ((d : Int) + (wrap64 (8 * (s : Int))))) + (wrap64 (20 * (e : Int))))) = ((d + 8 * s + 20 * e : Nat) : Int) := by
  unfold wrap64; omega
theorem in_l (kd fr tt tm ix lt cm : Int) (ys : Bool) (es : List S46) (si st : Int) (sm : List Int) (sd : ByteArray) (hl : es.length ≤ 4611686018427387904) (hf : ∀ e ∈ es, e.f3.size ≤ 140737488351232 ∧ e.f4.length * 8 ≤ 140737488351232) : ∀ (m i x : Nat), i + m = es.length → ∃ b, parapetlaw7_in.l0 (m + 1) x i kd fr tt tm ix lt cm ys es si st sm sd = some b ∧ (b = true → x + ((es.drop i).map ew).sum ≤ 20000)
  | 0, i, x, h => by
    rw [parapetlaw7_in.l0, if_neg (by omega), List.drop_eq_nil_of_le (by omega)]
    exact ⟨_, rfl, fun hb => by simp at hb; simp; omega⟩
  | m + 1, i, x, h => by
    rw [parapetlaw7_in.l0, if_pos (by omega)]
    by_cases h2 : x ≤ 20000
    · have hi : i < es.length := by omega
      obtain ⟨E, hE⟩ : ∃ E, E = es[i] := ⟨_, rfl⟩
      have he : rd_T46 es (i : Int) = E := by rw [hE]; simp [rd_T46, hi]
      have hfe := hf E (by rw [hE]; exact List.getElem_mem hi)
      have hd : es.drop i = E :: es.drop (i + 1) := by rw [hE]; exact List.drop_eq_getElem_cons hi
      have e1 := wrap_add x E.f3.size E.f4.length h2 hfe.1 hfe.2
      have e2 : E.f3.size + 8 * E.f4.length = ew E := rfl
      rw [e2] at e1
      have e3 : wrap64 ((i : Int) + 1) = ((i + 1 : Nat) : Int) := by
        clear e1 e2 hfe hd he hE hf
        unfold wrap64; omega
      rw [if_pos (show (x : Int) ≤ 20000 by omega), if_pos (Int.natCast_nonneg i), he, e1, e3]
      obtain ⟨b, hb, hs⟩ := in_l kd fr tt tm ix lt cm ys es si st sm sd hl hf m (i + 1) (x + ew E) (by omega)
      refine ⟨b, hb, fun hbt => ?_⟩
      have q := hs hbt
      rw [hd, List.map_cons, List.sum_cons, ← Nat.add_assoc]
      exact q
    · have h2' : ¬ ((x : Int) ≤ 20000) := by omega
      rw [if_neg h2']
      exact ⟨_, rfl, fun hb => absurd (of_decide_eq_true hb) h2'⟩
def Small (m : M13) : Prop := m.sd.size + 8 * m.sm.length + 20 * m.es.length + (m.es.map ew).sum ≤ 20000
theorem in_f (m : M13) (hf : FitM m) : ∃ b, parapetlaw7_in.f (m.es.length + 1) m.kd m.fr m.tt m.tm m.ix m.lt m.cm m.ys m.es m.si m.st m.sm m.sd = some b ∧ (b = true → Small m) := by
  obtain ⟨_, _, _, _, _, _, _, _, _, hE, hE2, _, hS, hD⟩ := hf
  have e1 := wrap_in m.sd.size m.sm.length m.es.length hD hS hE2
  have hl : m.es.length ≤ 4611686018427387904 := by
    have : m.es.length * 64 ≤ 140737488351232 := hE2
    clear hE hE2 hS hD e1
    omega
  obtain ⟨b, hb, hs⟩ := in_l m.kd m.fr m.tt m.tm m.ix m.lt m.cm m.ys m.es m.si m.st m.sm m.sd hl (fun e he => ⟨(hE e he).2.2.2.1, (hE e he).2.2.2.2.1⟩) m.es.length 0 (m.sd.size + 8 * m.sm.length + 20 * m.es.length) (Nat.zero_add _)
  refine ⟨b, ?_, fun h => by have q := hs h; rw [List.drop_zero] at q; exact q⟩
  rw [parapetlaw7_in.f, e1]
  exact hb
theorem raw_small {m : M13} (h : Small m) : (rawW m).length ≤ 100000 ∧ m.sm.length ≤ 20000 := by
  have h' : m.sd.size + 8 * m.sm.length + 20 * m.es.length + (m.es.map ew).sum ≤ 20000 := h
  refine ⟨?_, by omega⟩
  rw [rawW, List.length_append, List.length_append, wnum_length, wints_length]
  have hb : (wbody m).1.length ≤ 90000 := by
    unfold wbody
    split
    · rw [wints_length]; simp
    · split
      · simp
      · split
        · show (wints [m.ix, m.lt, m.cm] ++ wents m.es).length ≤ 90000
          rw [List.length_append, wints_length, wents, List.length_append, wnum_length, flat_w]
          simp only [List.length_cons, List.length_nil]
          omega
        · split
          · simp [wints_length]
          · split
            · show (wints [m.si, m.st] ++ (wmem m.sm ++ wtext m.sd)).length ≤ 90000
              rw [List.length_append, List.length_append, wints_length, wmem, List.length_append, wnum_length, wints_length, wtext, List.length_append, wnum_length, bytesOf_length]
              simp only [List.length_cons, List.length_nil]
              omega
            · simp
  simp only [List.length_cons, List.length_nil]
  omega
theorem FitS.fit {e : S46} (h : FitS e) : fitE e := ⟨h.1.2, h.2.1.2, h.2.2.1.2, fun v hv => (h.2.2.2.2.2 v hv).2⟩
end Go.Proofs.Ytbemfgpdfacdpaa.Ms
