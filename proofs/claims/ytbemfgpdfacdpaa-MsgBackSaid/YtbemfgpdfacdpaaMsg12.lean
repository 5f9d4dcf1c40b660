/- How a message that comes in is opened. -/
import Derived.Test.YtbemfgpdfacdpaaMsg4
import Derived.Test.YtbemfgpdfacdpaaPr0
import Derived.ChangeSlices
namespace Go.Proofs.Ytbemfgpdfacdpaa.Ms
open Go.RowKit Go.Proofs.Ytbemfgpdfacdpaa.Pr Go.Proofs.YtbemfgpdfacdpaaW.PrintWords Go.Proofs.YtbemfgpdfacdpaaW.PrintLast Go.Proofs.YtbemfgpdfacdpaaW.PrintMore
open Go.ChangeShapes Go.WideShapes
set_option linter.unusedVariables false
set_option linter.unusedSimpArgs false
abbrev R64 (v : Int) : Prop := -9223372036854775808 ≤ v ∧ v ≤ 9223372036854775807
theorem wf_i64 {x : Int} (h : (Lit.int .i64 x).wf = true) : R64 x := by
  simp [Lit.wf, IntKind.min, IntKind.max, IntKind.signed, IntKind.bits] at h
  exact h
theorem C_take_i64 {w : World} {a : Addr} {len cap : Nat} {zs : List Int} (hl : len ≤ cap) (hm : cap ≤ maxLen) (hz : zs.length = cap) (hc : ∀ i, i < zs.length → w.cell? (a.add i) = some (.int .i64 (zs.getD i 0))) : (Kd.int .i64).C w (some a) (zs.take len).length (zs.take len) := by
  have e : (zs.take len).length = len := by rw [List.length_take]; omega
  refine Kd.C_of_reads (d := (0 : Int)) (h1 := fun _ => rfl) ⟨rfl, by rw [e]; exact Nat.le_trans hl hm, fun h0 => ⟨_, rfl, fun j hj => ?_⟩⟩
  rw [e] at hj
  rw [hc j (by omega)]
  simp [List.getD_eq_getElem?_getD, List.getElem?_take, hj]
abbrev reach : Nat := 140737488351232
section
variable {H : Type} {enc : TypeId × Value → H} {W : World}
theorem open_is {n : Nat} {cs : List Value} {y : DataW H × List MemPlace} (h : DataW.trod enc Try.prog W 0 (fun _ => true) true n 23 cs = some y) (hw : ∀ k ∈ y.1.weights Try.prog 23, k ≤ reach) :
    ∃ A c zs, cs = [.slice A zs.length c] ∧ zs.length ≤ c ∧ (Kd.int .i64).C W A zs.length zs ∧ (∀ v ∈ zs, R64 v) ∧ zs.length * 8 ≤ reach := by
  rcases open_ints Try.underlying23 Try.underlying3 (by kernel_rfl) h with ⟨rfl, rfl⟩ | ⟨a, len, cap, zs, rfl, _, hl, hm, hz, rfl, hcell, hwz⟩
  · exact ⟨none, 0, [], rfl, Nat.le_refl _, Kd.C_nil _ _, (fun v hv => by cases hv), by decide⟩
  · simp only [if_true] at hz
    have e : (zs.take len).length = len := by rw [List.length_take]; omega
    refine ⟨some a, cap, zs.take len, by rw [e], by rw [e]; exact hl, C_take_i64 hl hm hz hcell, fun v hv => wf_i64 (hwz v (List.mem_of_mem_take hv)), ?_⟩
    have hb : Try.prog.bytesOf 3 = 8 := by kernel_rfl
    have := hw ((len + (cap - len)) * 8) (by
      rw [DataW.weights, Try.underlying23]
      simp only [lits, List.length_map, hb]
      refine List.mem_cons.2 (.inl ?_)
      simp [List.length_take, List.length_drop]
      omega)
    rw [e]
    omega
def FitS (e : S46) : Prop := R64 e.f0 ∧ R64 e.f1 ∧ R64 e.f2 ∧ e.f3.size ≤ reach ∧ e.f4.length * 8 ≤ reach ∧ ∀ v ∈ e.f4, R64 v
theorem open_entry {n : Nat} {cs : List Value} {y : DataW H × List MemPlace} (h : DataW.trod enc Try.prog W 0 (fun _ => true) true n 46 cs = some y) (hw : ∀ k ∈ y.1.weights Try.prog 46, k ≤ reach) :
    ∃ e : S46, k46.K W e cs ∧ FitS e := by
  obtain ⟨xs, m, _, rfl, hl, hlen, hf⟩ := DataW.trod_struct Try.underlying46 h
  have hC : Try.prog.cellsOf 46 = 5 := by kernel_rfl
  rw [hC] at hl
  match cs, hl with
  | [v0, v1, v2, v3, v4], _ =>
    match xs, hlen with
    | [y0, y1, y2, y3, y4], _ =>
      have c3 : Try.prog.cellsOf 3 = 1 := by kernel_rfl
      have c9 : Try.prog.cellsOf 9 = 1 := by kernel_rfl
      have c23 : Try.prog.cellsOf 23 = 1 := by kernel_rfl
      have h0 := hf 0 _ rfl
      have h1 := hf 1 _ rfl
      have h2 := hf 2 _ rfl
      have h3 := hf 3 _ rfl
      have h4 := hf 4 _ rfl
      simp [c3] at h0 h1 h2
      simp [c9] at h3
      simp [c23] at h4
      obtain ⟨i0, e0, rfl, w0⟩ := DataW.trod_int Try.underlying3 h0
      obtain ⟨i1, e1, rfl, w1⟩ := DataW.trod_int Try.underlying3 h1
      obtain ⟨i2, e2, rfl, w2⟩ := DataW.trod_int Try.underlying3 h2
      obtain ⟨s, e3, rfl, w3⟩ := DataW.trod_string Try.underlying9 h3
      cases e0; cases e1; cases e2; cases e3
      have hW : ∀ k, k = s.data.toList.length ∨ k ∈ y4.1.weights Try.prog 23 → k ≤ reach := fun k hk => hw k (by
        rw [DataW.weights, Try.underlying46]
        simp only [List.map_cons, List.map_nil, DataW.weightsEach, DataW.weights, List.nil_append, List.append_nil, List.mem_append, List.mem_singleton, Array.toList]
        exact hk)
      obtain ⟨A, c, zs, e4, hc, hC4, hr, h8⟩ := open_is h4 (fun k hk => hW k (.inr hk))
      cases e4
      refine ⟨⟨i0, i1, i2, s, zs⟩, k46_mk W ⟨i0, i1, i2, s, zs⟩ hc hC4, wf_i64 w0, wf_i64 w1, wf_i64 w2, ?_, h8, hr⟩
      have := hW _ (.inl rfl)
      simpa using this
theorem mem_weights {e : TypeId} {k : Nat} {d : DataW H} : ∀ {ds : List (DataW H)}, d ∈ ds → k ∈ d.weights Try.prog e → k ∈ DataW.weightsAll Try.prog e ds
  | [], h, _ => by cases h
  | x :: xs, h, hk => by
    rw [DataW.weightsAll, List.mem_append]
    rcases List.mem_cons.1 h with rfl | h
    · exact .inl hk
    · exact .inr (mem_weights h hk)
theorem list_of {α : Type} {P : Nat → α → Prop} : ∀ (n : Nat), (∀ i, i < n → ∃ a, P i a) → ∃ l : List α, l.length = n ∧ ∀ i a, l[i]? = some a → P i a
  | 0, _ => ⟨[], rfl, fun i a h => by simp at h⟩
  | n + 1, h => by
    obtain ⟨l, hl, hp⟩ := list_of n (fun i hi => h i (by omega))
    obtain ⟨a, ha⟩ := h n (by omega)
    refine ⟨l ++ [a], by simp [hl], fun i b hb => ?_⟩
    by_cases hi : i < n
    · rw [List.getElem?_append_left (by omega)] at hb
      exact hp i b hb
    · rw [List.getElem?_append_right (by omega)] at hb
      have : i = n := by
        have := (List.getElem?_eq_some_iff.1 hb).1
        simp at this
        omega
      subst this
      simp [hl] at hb
      rw [← hb]; exact ha
theorem open_es {n : Nat} {cs : List Value} {y : DataW H × List MemPlace} (h : DataW.trod enc Try.prog W 0 (fun _ => true) true n 22 cs = some y) (hw : ∀ k ∈ y.1.weights Try.prog 22, k ≤ reach) :
    ∃ A c es, cs = [.slice A es.length c] ∧ es.length ≤ c ∧ k46.C W A es.length es ∧ (∀ e ∈ es, FitS e) ∧ es.length * 64 ≤ reach := by
  rcases DataW.trod_slice Try.underlying22 h with ⟨rfl, rfl⟩ | ⟨a, len, cap, elems, rest, m, _, rfl, rfl, _, hl, hm, hlen, hel, hsp, _⟩
  · exact ⟨none, 0, [], rfl, Nat.le_refl _, Kd.C_nil _ _, (fun v hv => by cases hv), by decide⟩
  · obtain ⟨hrl, _⟩ := hsp rfl
    have hC : Try.prog.cellsOf 46 = 5 := by kernel_rfl
    have hb : Try.prog.bytesOf 46 = 64 := by kernel_rfl
    have hW : ∀ k, k = (elems.length + rest.length) * 64 ∨ k ∈ DataW.weightsAll Try.prog 46 (elems.map (·.1)) → k ≤ reach := fun k hk => hw k (by
      rw [DataW.weights, Try.underlying22]
      simp only [List.length_map, hb, List.mem_cons, List.mem_append]
      rcases hk with hk | hk
      · exact .inl hk
      · exact .inr (.inl hk))
    have each : ∀ i, i < len → ∃ e : S46, FitS e ∧ ∃ c, c.length = 5 ∧ k46.K W e c ∧ ∀ j u, c[j]? = some u → W.cell? (a.add (i * 5 + j)) = some u := fun i hi => by
      have hy := hel i hi
      rw [hC] at hy
      obtain ⟨y, hy'⟩ : ∃ y, elems[i]? = some y := ⟨_, List.getElem?_eq_getElem (by omega)⟩
      rw [hy', Option.bind_eq_some_iff] at hy
      obtain ⟨c, hc, ht⟩ := hy
      obtain ⟨_, hcl, hcell⟩ := World.cells?_some hc
      obtain ⟨e, hK, hF⟩ := open_entry ht (fun k hk => hW k (.inr (mem_weights (List.mem_map.2 ⟨y, List.mem_of_getElem? hy', rfl⟩) hk)))
      refine ⟨e, hF, c, hcl, hK, fun j u hu => ?_⟩
      have hj : j < 5 := by have := (List.getElem?_eq_some_iff.1 hu).1; omega
      have := hcell j hj
      rw [Addr.add_add] at this
      rw [this, hu]
    obtain ⟨es, hes, hp⟩ := list_of len each
    refine ⟨some a, cap, es, by rw [hes], by rw [hes]; exact hl, ⟨rfl, by rw [hes]; exact Nat.le_trans hl hm, fun _ => ⟨a, rfl, fun j p hj => (hp j p hj).2⟩⟩, fun e he => ?_, ?_⟩
    · obtain ⟨i, hi⟩ := List.getElem?_of_mem he
      exact (hp i e hi).1
    · have := hW _ (.inl rfl)
      rw [hes]; omega
def FitM (m : M13) : Prop := R64 m.kd ∧ R64 m.fr ∧ R64 m.tt ∧ R64 m.tm ∧ R64 m.ix ∧ R64 m.lt ∧ R64 m.cm ∧ R64 m.si ∧ R64 m.st ∧ (∀ e ∈ m.es, FitS e) ∧ m.es.length * 64 ≤ reach ∧ (∀ v ∈ m.sm, R64 v) ∧ m.sm.length * 8 ≤ reach ∧ m.sd.size ≤ reach
theorem open_snap {n : Nat} {cs : List Value} {y : DataW H × List MemPlace} (h : DataW.trod enc Try.prog W 0 (fun _ => true) true n 25 cs = some y) (hw : ∀ k ∈ y.1.weights Try.prog 25, k ≤ reach) :
    ∃ si st A c sm sd, cs = [.int .i64 si, .int .i64 st, .slice A sm.length c, .string sd] ∧ R64 si ∧ R64 st ∧ sm.length ≤ c ∧ (Kd.int .i64).C W A sm.length sm ∧ (∀ v ∈ sm, R64 v) ∧ sm.length * 8 ≤ reach ∧ sd.size ≤ reach := by
  obtain ⟨xs, m, _, rfl, hl, hlen, hf⟩ := DataW.trod_struct Try.underlying25 h
  have hC : Try.prog.cellsOf 25 = 4 := by kernel_rfl
  rw [hC] at hl
  match cs, hl with
  | [v0, v1, v2, v3], _ =>
    match xs, hlen with
    | [y0, y1, y2, y3], _ =>
      have c3 : Try.prog.cellsOf 3 = 1 := by kernel_rfl
      have c9 : Try.prog.cellsOf 9 = 1 := by kernel_rfl
      have c23 : Try.prog.cellsOf 23 = 1 := by kernel_rfl
      have h0 := hf 0 _ rfl
      have h1 := hf 1 _ rfl
      have h2 := hf 2 _ rfl
      have h3 := hf 3 _ rfl
      simp [c3] at h0 h1
      simp [c23] at h2
      simp [c9] at h3
      obtain ⟨i0, e0, rfl, w0⟩ := DataW.trod_int Try.underlying3 h0
      obtain ⟨i1, e1, rfl, w1⟩ := DataW.trod_int Try.underlying3 h1
      obtain ⟨s, e3, rfl, w3⟩ := DataW.trod_string Try.underlying9 h3
      cases e0; cases e1; cases e3
      have hW : ∀ k, k ∈ y2.1.weights Try.prog 23 ∨ k = s.data.toList.length → k ≤ reach := fun k hk => hw k (by
        rw [DataW.weights, Try.underlying25]
        simp only [List.map_cons, List.map_nil, DataW.weightsEach, DataW.weights, List.nil_append, List.append_nil, List.mem_append, List.mem_singleton, Array.toList]
        exact hk)
      obtain ⟨A, c, zs, e2, hc, hC2, hr, h8⟩ := open_is h2 (fun k hk => hW k (.inl hk))
      cases e2
      refine ⟨i0, i1, A, c, zs, s, rfl, wf_i64 w0, wf_i64 w1, hc, hC2, hr, h8, ?_⟩
      have := hW _ (.inr rfl)
      simpa using this
theorem open_msg {r : Reach} {b : Nat} {v : Value} {d : DataW H} {ps : List MemPlace} (hv : Value.okWide Try.prog W r b 27 v) (h : DataW.Trod enc Try.prog W 0 (fun _ => true) true 27 v d ps) (hw : ∀ k ∈ d.weights Try.prog 27, k ≤ reach) :
    ∃ (m : M13) (A8 : Option Addr) (n8 c8 : Nat) (A11 : Option Addr) (n11 c11 : Nat), v = .agg (mcells m (.slice A8 n8 c8) (.slice A11 n11 c11)) ∧ (n8 = m.es.length ∧ n8 ≤ c8 ∧ k46.C W A8 n8 m.es) ∧ (n11 = m.sm.length ∧ n11 ≤ c11 ∧ (Kd.int .i64).C W A11 n11 m.sm) ∧ FitM m := by
  obtain ⟨cs, rfl, hsz⟩ := okWide_struct Try.underlying27 hv
  obtain ⟨fuel, hf0⟩ := h
  obtain ⟨xs, m, _, hx, hl, hlen, hf⟩ := DataW.trod_struct Try.underlying27 hf0
  have hC : Try.prog.cellsOf 27 = 13 := by kernel_rfl
  rw [hC] at hsz
  obtain ⟨l, rfl⟩ : ∃ l : List Value, cs = l.toArray := ⟨cs.toList, by simp⟩
  simp only [List.size_toArray] at hsz
  simp only [Value.cells, List.toList_toArray] at hl hf
  simp only [Prod.mk.injEq] at hx
  obtain ⟨rfl, _⟩ := hx
  match l, hsz with
  | [v0, v1, v2, v3, v4, v5, v6, v7, v8, v9, v10, v11, v12], _ =>
    match xs, hlen with
    | [y0, y1, y2, y3, y4, y5, y6, y7, y8, y9], _ =>
      have c3 : Try.prog.cellsOf 3 = 1 := by kernel_rfl
      have c4 : Try.prog.cellsOf 4 = 1 := by kernel_rfl
      have c22 : Try.prog.cellsOf 22 = 1 := by kernel_rfl
      have c25 : Try.prog.cellsOf 25 = 4 := by kernel_rfl
      have h0 := hf 0 _ rfl
      have h1 := hf 1 _ rfl
      have h2 := hf 2 _ rfl
      have h3 := hf 3 _ rfl
      have h4 := hf 4 _ rfl
      have h5 := hf 5 _ rfl
      have h6 := hf 6 _ rfl
      have h7 := hf 7 _ rfl
      have h8 := hf 8 _ rfl
      have h9 := hf 9 _ rfl
      simp [c3] at h0 h1 h2 h3 h4 h5 h6
      simp [c4] at h7
      simp [c22] at h8
      simp [c25] at h9
      obtain ⟨i0, e0, rfl, w0⟩ := DataW.trod_int Try.underlying3 h0
      obtain ⟨i1, e1, rfl, w1⟩ := DataW.trod_int Try.underlying3 h1
      obtain ⟨i2, e2, rfl, w2⟩ := DataW.trod_int Try.underlying3 h2
      obtain ⟨i3, e3, rfl, w3⟩ := DataW.trod_int Try.underlying3 h3
      obtain ⟨i4, e4, rfl, w4⟩ := DataW.trod_int Try.underlying3 h4
      obtain ⟨i5, e5, rfl, w5⟩ := DataW.trod_int Try.underlying3 h5
      obtain ⟨i6, e6, rfl, w6⟩ := DataW.trod_int Try.underlying3 h6
      obtain ⟨i7, e7, rfl⟩ := DataW.trod_bool Try.underlying4 h7
      cases e0; cases e1; cases e2; cases e3; cases e4; cases e5; cases e6; cases e7
      have hW : ∀ k, k ∈ y8.1.weights Try.prog 22 ∨ k ∈ y9.1.weights Try.prog 25 → k ≤ reach := fun k hk => hw k (by
        rw [DataW.weights, Try.underlying27]
        simp only [List.map_cons, List.map_nil, DataW.weightsEach, DataW.weights, List.nil_append, List.append_nil, List.mem_append, List.mem_singleton, Array.toList]
        exact hk)
      obtain ⟨A8, c8, es, e8, hc8, hC8, hF8, hz8⟩ := open_es h8 (fun k hk => hW k (.inl hk))
      obtain ⟨si, st, A11, c11, sm, sd, e9, r1, r2, hc11, hC11, hr11, hz11, hsd⟩ := open_snap h9 (fun k hk => hW k (.inr hk))
      cases e8; cases e9
      exact ⟨⟨i0, i1, i2, i3, i4, i5, i6, i7, es, si, st, sm, sd⟩, A8, es.length, c8, A11, sm.length, c11, rfl, ⟨rfl, hc8, hC8⟩, ⟨rfl, hc11, hC11⟩, wf_i64 w0, wf_i64 w1, wf_i64 w2, wf_i64 w3, wf_i64 w4, wf_i64 w5, wf_i64 w6, r1, r2, hF8, hz8, hr11, hz11, hsd⟩
end
end Go.Proofs.Ytbemfgpdfacdpaa.Ms
