/- A row of the call's own that may stand anywhere in its block (what is left of a slice whose head was cut off): reading, appending, cutting. -/
import Derived.Test.YtbemfgpdfacdpaaQW
import Derived.Deep.AppendSrc
import Derived.Laws.AppendOwn
import Derived.Laws.IdiomCopy
namespace Go.Proofs.Ytbemfgpdfacdpaa.QT
open Go Go.RowKit Go.Proofs.YtbemfgpdfacdpaaW.PrintWords Go.Proofs.YtbemfgpdfacdpaaW.PrintLast
/-- v reads as xs (elements of one cell), in a block from base on that nothing else is known to hold. -/
def OwnAt (w : World) (base : Nat) (e : TypeId) (v : Value) (xs : List Value) : Prop :=
  ∃ A c, v = .slice A xs.length c ∧ xs.length ≤ c ∧ c ≤ 9223372036854775807 ∧ (∀ u ∈ xs, u.oneCell' = true) ∧
    (0 < c → ∃ b off cs, A = some ⟨b, off, none⟩ ∧ base ≤ b ∧ w.heap[b]? = some (.cells cs e (0, 0)) ∧ off + c ≤ cs.size ∧ ∀ j u, xs[j]? = some u → cs[off + j]? = some u) ∧ (∀ ad, A = some ad → base ≤ ad.block ∧ ad.block < w.heap.size)
section
variable {w w1 : World} {base : Nat} {e : TypeId} {v : Value} {xs : List Value}
theorem OwnAt.nil (w : World) (base : Nat) (e : TypeId) : OwnAt w base e (.slice none 0 0) [] := ⟨none, 0, rfl, Nat.le_refl _, by omega, (fun _ h => by cases h), (fun h => absurd h (by omega)), (fun _ h => by cases h)⟩
theorem OwnAt.of_own {n : Nat} (h : w.ownsRow base e 1 v n xs) (h1 : ∀ u ∈ xs, u.oneCell' = true) : OwnAt w base e v xs := by
  obtain ⟨hl, h⟩ := h
  rw [Nat.mul_one] at hl
  rcases h with ⟨rfl, rfl⟩ | ⟨g, cap, cur, rfl, hb, hg, hn, hm, hcs, ht⟩
  · obtain rfl : xs = [] := List.eq_nil_of_length_eq_zero hl
    exact OwnAt.nil _ _ _
  · subst hl
    refine ⟨_, cap, rfl, hn, by simpa [maxLen] using hm, h1, fun _ => ⟨g, 0, cur, rfl, hb, hg, by omega, fun j u hj => ?_⟩, fun ad hA => by cases hA; exact ⟨hb, blk_lt hg⟩⟩
    rw [Nat.mul_one] at ht
    have hj' := (List.getElem?_eq_some_iff.1 hj).1
    have h2 : (cur.toList.take xs.length)[j]? = some u := by rw [ht]; exact hj
    rw [List.getElem?_take_of_lt hj', Array.getElem?_toList] at h2
    rw [Nat.zero_add]; exact h2
theorem OwnAt.slice (h : OwnAt w base e v xs) : ∃ A c, v = .slice A xs.length c ∧ xs.length ≤ c ∧ c ≤ 9223372036854775807 := by
  obtain ⟨A, c, h1, h2, h3, _⟩ := h
  exact ⟨A, c, h1, h2, h3⟩
theorem OwnAt.cells {A : Option Addr} {n c : Nat} (h : OwnAt w base e (.slice A n c) xs) (hp : 0 < xs.length) : ∃ ad : Addr, A = some ad ∧ base ≤ ad.block ∧ ∀ j u, xs[j]? = some u → w.cell? (ad.add j) = some u := by
  obtain ⟨A', c', hv, h2, _, _, h5, _⟩ := h
  cases hv
  obtain ⟨b, off, cs, rfl, hb, hg, hfit, hx⟩ := h5 (by omega)
  refine ⟨_, rfl, hb, fun j u hj => ?_⟩
  rw [show (⟨b, off, none⟩ : Addr).add j = ⟨b, off + j, none⟩ by unfold Addr.add; split <;> simp_all]
  exact (blk_cell hg (off + j)).trans (hx j u hj)
theorem OwnAt.base_le (h : OwnAt w base e v xs) (k : Nat) (hk : v.ownBlock = some k) : base ≤ k := by
  obtain ⟨A, c, rfl, _, _, _, _, h6⟩ := h
  cases A with
  | none => cases hk
  | some ad => cases hk; exact (h6 ad rfl).1
theorem OwnAt.lt (h : OwnAt w base e v xs) (k : Nat) (hk : v.ownBlock = some k) : k < w.heap.size := by
  obtain ⟨A, c, rfl, _, _, _, _, h6⟩ := h
  cases A with
  | none => cases hk
  | some ad => cases hk; exact (h6 ad rfl).2
theorem OwnAt.lower (h : OwnAt w base e v xs) {base' : Nat} (hb : base' ≤ base) : OwnAt w base' e v xs := by
  obtain ⟨A, c, h1, h2, h3, h4, h5, h6⟩ := h
  refine ⟨A, c, h1, h2, h3, h4, fun hc => ?_, fun ad hA => ⟨Nat.le_trans hb (h6 ad hA).1, (h6 ad hA).2⟩⟩
  obtain ⟨b, off, cs, hA, hbb, r⟩ := h5 hc
  exact ⟨b, off, cs, hA, Nat.le_trans hb hbb, r⟩
/-- Its block stands as it was. -/
theorem OwnAt.carry (h : OwnAt w base e v xs) (hs : w.heap.size ≤ w1.heap.size) (hk : ∀ k, v.ownBlock = some k → w1.heap[k]? = w.heap[k]?) : OwnAt w1 base e v xs := by
  obtain ⟨A, c, rfl, h2, h3, h4, h5, h6⟩ := h
  refine ⟨A, c, rfl, h2, h3, h4, fun hc => ?_, fun ad hA => ⟨(h6 ad hA).1, Nat.lt_of_lt_of_le (h6 ad hA).2 hs⟩⟩
  obtain ⟨b, off, cs, hA, hbb, hg, r⟩ := h5 hc
  subst hA
  exact ⟨b, off, cs, rfl, hbb, (hk b rfl).trans hg, r⟩
theorem OwnAt.below (h : OwnAt w base e v xs) (hb : Below w.heap.size w w1) : OwnAt w1 base e v xs := h.carry hb.size (fun k hk => hb.block k (h.lt k hk))
theorem OwnAt.drewN (h : OwnAt w base e v xs) (n : Nat) : OwnAt (w.drewN n) base e v xs := h
theorem OwnAt.alloc (h : OwnAt w base e v xs) (o : Obj) : OwnAt (w.alloc o) base e v xs := h.below ((Below.refl _ _).alloc (Nat.le_refl _) o)
theorem OwnAt.setCell (h : OwnAt w base e v xs) {p : Addr} (hne : v.ownBlock ≠ some p.block) (u : Value) : OwnAt (w.setCell p u) base e v xs :=
  h.carry (by simp [World.setCell]) (fun k hk => heap_setCell_other w p k u (fun he => hne (by rw [hk, he])))
theorem OwnAt.keep {g : Nat} (h : OwnAt w base e v xs) (hk : KeepBut w w1 g none) (hne : v.ownBlock ≠ some g) : OwnAt w1 base e v xs :=
  h.carry hk.1 (fun k hv => hk.2 k (h.lt k hv) (fun he => hne (by rw [hv, he])) (by simp))
/-- What is left when the first n are cut off. -/
theorem OwnAt.drop {A : Option Addr} {m c : Nat} (h : OwnAt w base e (.slice A m c) xs) (n : Nat) (hn : n ≤ xs.length) :
    OwnAt w base e (.slice (if c = n then A else A.map (·.add n)) (m - n) (c - n)) (xs.drop n) := by
  obtain ⟨A', c', hv, h2, h3, h4, h5, h6⟩ := h
  cases hv
  refine ⟨_, _, by rw [List.length_drop], by rw [List.length_drop]; omega, by omega, fun u hu => h4 u (List.mem_of_mem_drop hu), fun hc => ?_, fun ad hA => ?_⟩
  · have hne : ¬ c = n := by omega
    obtain ⟨b, off, cs, rfl, hbb, hg, hfit, hx⟩ := h5 (by omega)
    rw [if_neg hne]
    refine ⟨b, off + n, cs, ?_, hbb, hg, by omega, fun j u hj => ?_⟩
    · simp only [Option.map_some]
      unfold Addr.add; split
      · rename_i h0; simp [h0]
      · rfl
    · rw [List.getElem?_drop] at hj
      rw [Nat.add_assoc]; exact hx _ _ hj
  · by_cases hcn : c = n
    · rw [if_pos hcn] at hA
      exact h6 ad hA
    · rw [if_neg hcn] at hA
      obtain ⟨a0, rfl, rfl⟩ := Option.map_eq_some_iff.mp hA
      have := h6 a0 rfl
      unfold Addr.add; split <;> exact this
/-- Appending. -/
theorem run_append_at {P : Program} (t tx ty : TypeId) (e : TypeId) (i : TypeInfo) (z : Value) (bytes : Nat) (ht : P.underlying t = some (.slice e)) (hi : P.info? e = some i) (hz : i.zero = some z) (hz1 : z.cells.size = 1)
    (hs1 : i.size = 1) (hby : i.bytes = bytes) (h : OwnAt w base e v xs) (x : Value) (news : List Value) (hx : Src P 1 tx x news.length news w) (hx1 : ∀ u ∈ news, u.oneCell' = true)
    (hb : (xs.length + news.length) * bytes ≤ 140737488355328) (hb0 : 0 < bytes) (hbase : base ≤ w.heap.size) :
    ∃ v' w', (Builtin.append_ #[t, tx] ty #[v, x]).run P w = .ok v' w' ∧ OwnAt w' base e v' (xs ++ news) ∧ w.grownBy w' v.ownBlock ∧ (v'.ownBlock = v.ownBlock ∨ ∃ b, v'.ownBlock = some b ∧ w.heap.size ≤ b) := by
  have hall : ∀ u ∈ xs ++ news, u.oneCell' = true := fun u hu => by
    rcases List.mem_append.1 hu with hu | hu
    · obtain ⟨_, _, _, _, _, h4, _⟩ := h; exact h4 u hu
    · exact hx1 u hu
  have hle : xs.length + news.length ≤ 140737488355328 := Nat.le_trans (Nat.le_mul_of_pos_right _ hb0) hb
  have h' := h
  obtain ⟨A, c, rfl, h2, h3, h4, h5, h6⟩ := h
  by_cases hroom : xs.length + news.length ≤ c
  · by_cases hc : 0 < c
    · obtain ⟨b, off, cs, rfl, hbb, hg, hfit, hcell⟩ := h5 hc
      have hcl : ∀ j, j < news.length → (w.cell? ⟨b, off + xs.length * 1 + j, none⟩).isSome = true := fun j hj => by
        rw [blk_cell hg]; simp; omega
      have hfr : ∀ j, j < news.length → w.frozen? ⟨b, off + xs.length * 1 + j, none⟩ = false := fun j hj => blk_frozen hg _
      have hr := run_append_room_src (P := P) w t tx ty e i ht hi b off xs.length c x news.length news (by rw [hs1]; exact hx) hroom (by rw [hs1]; exact hcl) (by rw [hs1]; exact hfr)
      rw [hs1, Nat.mul_one] at hr
      -- the block behind the stores
      have hset : ∀ (l : List Value) (o : Nat) (w : World) (cs : Array Value), w.heap[b]? = some (.cells cs e (0, 0)) → o + l.length ≤ cs.size →
          ∃ cs', (w.setCells b o l).heap[b]? = some (.cells cs' e (0, 0)) ∧ cs'.size = cs.size ∧ (∀ j, j < o → cs'[j]? = cs[j]?) ∧ (∀ j u, l[j]? = some u → cs'[o + j]? = some u) ∧ (w.setCells b o l).heap.size = w.heap.size ∧
            (∀ k, k ≠ b → (w.setCells b o l).heap[k]? = w.heap[k]?) ∧ (w.setCells b o l).os = w.os ∧ (w.setCells b o l).tape = w.tape ∧ (w.setCells b o l).output = w.output := by
        intro l
        induction l with
        | nil => intro o w cs hg _; exact ⟨cs, hg, rfl, (fun _ _ => rfl), (fun _ _ hj => by cases hj), rfl, (fun _ _ => rfl), rfl, rfl, rfl⟩
        | cons u l ih =>
          intro o w cs hg hf
          have h1 := blk_set hg o u
          obtain ⟨cs', k1, k2, k3, k4, k5, k6, k7, k8, k9⟩ := ih (o + 1) (w.setCell ⟨b, o, none⟩ u) (cs.setIfInBounds o u) h1 (by simp only [List.length_cons] at hf; simp; omega)
          refine ⟨cs', k1, by rw [k2]; simp, fun j hj => ?_, fun j x hj => ?_, by rw [World.setCells, k5]; simp [World.setCell], fun k hk => ?_, k7, k8, k9⟩
          · rw [k3 j (by omega), Array.getElem?_setIfInBounds_ne (by omega)]
          · cases j with
            | zero =>
              simp only [List.getElem?_cons_zero, Option.some.injEq] at hj
              subst hj
              rw [Nat.add_zero, k3 o (by omega)]
              have hf' : o + (l.length + 1) ≤ cs.size := hf
              rw [Array.getElem?_setIfInBounds_self_of_lt (by omega)]
            | succ j =>
              rw [List.getElem?_cons_succ] at hj
              rw [show o + (j + 1) = o + 1 + j by omega]; exact k4 j x hj
          · rw [World.setCells, k6 k hk]; exact heap_setCell_other w ⟨b, o, none⟩ k u hk
      obtain ⟨cs', k1, k2, k3, k4, k5, k6, k7, k8, k9⟩ := hset news (off + xs.length) w cs hg (by omega)
      refine ⟨_, _, hr, ⟨_, c, by rw [List.length_append], by rw [List.length_append]; exact hroom, h3, hall, fun _ => ⟨b, off, cs', rfl, hbb, k1, by omega, fun j u hj => ?_⟩, fun ad hA => by cases hA; exact ⟨hbb, by rw [k5]; exact blk_lt hg⟩⟩, ⟨k7, k8, k9, by omega, fun k _ hk => k6 k (fun he => hk (by simp [Value.ownBlock, he]))⟩, .inl rfl⟩
      by_cases hjx : j < xs.length
      · rw [List.getElem?_append_left hjx] at hj
        rw [k3 _ (by omega)]; exact hcell j u hj
      · rw [List.getElem?_append_right (by omega)] at hj
        have := k4 _ _ hj
        rwa [show off + xs.length + (j - xs.length) = off + j by omega] at this
    · have hn0 : news = [] := List.eq_nil_of_length_eq_zero (by omega)
      have hx0 : xs = [] := List.eq_nil_of_length_eq_zero (by omega)
      obtain rfl : c = 0 := by omega
      subst hn0; subst hx0
      refine ⟨.slice A 0 0, w, ?_, by simpa using h', ⟨rfl, rfl, rfl, Nat.le_refl _, fun _ _ _ => rfl⟩, .inl rfl⟩
      have hcs := hx.cells
      have hln := hx.len
      simp only [List.length_nil] at hcs hln
      rcases hx.kind with ⟨e', hk⟩ | hk <;> cases A <;> simp [Builtin.append_, run_underlying ht, run_underlying hk, sizeOf, typeInfo, hi, hs1, hln, hcs, storeCells]
  · have hold : (Builtin.firstCells i.size xs.length (.slice A xs.length c)).run P w.drew = .ok xs.toArray w.drew := by
      rw [hs1]
      by_cases hx0 : 0 < xs.length
      · obtain ⟨ad, rfl, _, hc⟩ := h'.cells hx0
        exact run_firstCells_some w.drew 1 xs.length ad xs.length c xs (by simp) (fun j u hj => hc j u hj)
      · have hx0 : xs = [] := List.eq_nil_of_length_eq_zero (by omega)
        subst hx0
        cases A with
        | none => exact run_firstCells_none w.drew 1 0 0 c
        | some ad => exact run_firstCells_some w.drew 1 0 ad 0 c [] (by simp) (fun j u hj => by cases hj)
    have hr := run_append_grow_src (P := P) w t tx ty e i z ht hi hz A xs.length c xs hold x news.length news (by rw [hs1]; exact hx) (by omega) (by omega) (by rw [hby]; exact growslice_fits (by omega) hb)
    have hge := grownCap_ge w (xs.length + news.length) c e
    have hcm : grownCap w (xs.length + news.length) c e ≤ maxLen := grownCap_le_maxLen w (xs.length + news.length) c e (by simp only [maxLen]; omega)
    refine ⟨_, _, hr, ⟨_, _, by rw [List.length_append], by rw [List.length_append]; exact hge, by simpa [maxLen] using hcm, hall, fun _ => ⟨w.heap.size, 0, _, rfl, hbase, heap_alloc_new w.drew _, ?_, fun j u hj => ?_⟩, fun ad hA => by cases hA; exact ⟨hbase, by simp⟩⟩,
      ⟨rfl, rfl, rfl, by simp, fun k hk _ => Below.heap_alloc w.drew _ k hk⟩, .inr ⟨w.heap.size, rfl, Nat.le_refl _⟩⟩
    · simp only [Array.size_append, List.size_toArray, size_zeroCells, hz1, List.length_append]
      omega
    · rw [Nat.zero_add, Array.getElem?_append_left (by simpa using (List.getElem?_eq_some_iff.1 hj).1)]
      simpa using hj
theorem nums_one (k : IntKind) (xs : List Int) : ∀ u ∈ nums k xs, u.oneCell' = true := fun u hu => by
  obtain ⟨x, _, rfl⟩ := List.mem_map.1 hu
  rfl
theorem nums_get {k : IntKind} {xs : List Int} {j : Nat} {u : Value} (h : (nums k xs)[j]? = some u) : j < xs.length ∧ u = .int k (xs.getD j 0) := by
  unfold nums at h
  rw [List.getElem?_map] at h
  obtain ⟨x, hx, rfl⟩ := Option.map_eq_some_iff.mp h
  exact ⟨(List.getElem?_eq_some_iff.1 hx).1, by rw [List.getD_eq_getElem?_getD, hx]; rfl⟩
theorem src_of {P : Program} {k : IntKind} {A : Option Addr} {c : Nat} {p : List Int} {tx e' : TypeId} (hk : P.underlying tx = some (.slice e')) (h : Kd.C (Kd.int k) w A p.length p) : Src P 1 tx (.slice A p.length c) (nums k p).length (nums k p) w := by
  rw [nums_length]
  by_cases hp : 0 < p.length
  · have key : ∀ j, j < p.length → ∃ ad, A = some ad ∧ w.cell? (ad.add j) = some (.int k (p.getD j 0)) := fun j hj => by
      obtain ⟨ad, e, hc⟩ := Kd.at_int h (j : Int) (by omega) (by omega)
      exact ⟨ad, e, hc⟩
    obtain ⟨ad, rfl, _⟩ := key 0 hp
    refine Src.ofSlice w hk ad p.length c (nums k p) (by rw [nums_length]; simp) (fun j u hj => ?_) (nums_one k p)
    obtain ⟨hj', rfl⟩ := nums_get hj
    obtain ⟨ad', e, hc⟩ := key j hj'
    cases e
    exact hc
  · have hp0 : p = [] := List.eq_nil_of_length_eq_zero (by omega)
    subst hp0
    cases A with
    | none => exact Src.ofNil w hk c
    | some ad => exact Src.ofSlice w hk ad 0 c [] (by simp) (fun j u hj => by cases hj) (fun u hu => by cases hu)
/-- The operation, for the walk. -/
theorem wpList_append_at {P : Program} {ops : Array Oper} {rest : List Oper} {o : Oper} {a : Act} {Q : Exit → Act → World → Prop} (hgd : o.guard = none) (sl x : Operand) (t tx : TypeId)
    (ho : o.op = .call { callee := .builtin .append, args := #[sl, x], argTypes := #[t, tx] })
    (e : TypeId) (i : TypeInfo) (z : Value) (bytes : Nat) (ht : P.underlying t = some (.slice e)) (hi : P.info? e = some i) (hz : i.zero = some z) (hz1 : z.cells.size = 1)
    (hs1 : i.size = 1) (hby : i.bytes = bytes) (hs : a.eval sl = v) (h : OwnAt w base e v xs) (X : Value) (hX : a.eval x = X) (news : List Value) (hx : Src P 1 tx X news.length news w) (hx1 : ∀ u ∈ news, u.oneCell' = true)
    (hb : (xs.length + news.length) * bytes ≤ 140737488355328) (hb0 : 0 < bytes) (hbase : base ≤ w.heap.size)
    (hK : ∀ v' w', OwnAt w' base e v' (xs ++ news) → w.grownBy w' v.ownBlock → (v'.ownBlock = v.ownBlock ∨ ∃ b, v'.ownBlock = some b ∧ w.heap.size ≤ b) → wpList P ops Q rest (a.put o.dst v') w') : wpList P ops Q (o :: rest) a w := by
  refine wpList_plain hgd fun K hK' => ?_
  obtain ⟨v', w', hr, h2, h3, h4⟩ := run_append_at (P := P) t tx o.type e i z bytes ht hi hz hz1 hs1 hby h X news hx hx1 hb hb0 hbase
  unfold Oper.wp execOp
  simp only [ho, resolve, invoke, builtin, Sem.run_bind, Sem.run_pure, Result.andThen_ok, List.map_toArray, List.map_cons, List.map_nil, hs, hX, hr]
  exact hK' _ _ (hK v' w' h2 h3 h4)
/-- The same as a region's step. -/
theorem append_step {P : Program} {ops : Array Oper} {o : Oper} {a : Act} {N : Option Tmp} {Q : Exit → Act → World → Prop} {K : Act → World → Prop} (hw : Region.wanted o (yielded ops a.tmps) = true) (hN : o.dst = N) (sl x : Operand) (t tx : TypeId)
    (ho : o.op = .call { callee := .builtin .append, args := #[sl, x], argTypes := #[t, tx] })
    (e : TypeId) (i : TypeInfo) (z : Value) (bytes : Nat) (ht : P.underlying t = some (.slice e)) (hi : P.info? e = some i) (hz : i.zero = some z) (hz1 : z.cells.size = 1)
    (hs1 : i.size = 1) (hby : i.bytes = bytes) (hs : a.eval sl = v) (h : OwnAt w base e v xs) (X : Value) (hX : a.eval x = X) (news : List Value) (hx : Src P 1 tx X news.length news w) (hx1 : ∀ u ∈ news, u.oneCell' = true)
    (hb : (xs.length + news.length) * bytes ≤ 140737488355328) (hb0 : 0 < bytes) (hbase : base ≤ w.heap.size)
    (hK : ∀ v' w', OwnAt w' base e v' (xs ++ news) → w.grownBy w' v.ownBlock → (v'.ownBlock = v.ownBlock ∨ ∃ b, v'.ownBlock = some b ∧ w.heap.size ≤ b) → K (a.put N v') w') :
    if Region.wanted o (yielded ops a.tmps) = true then Oper.wp P o a w K Q else K (a.put N undef) w := by
  rw [if_pos hw]
  subst hN
  obtain ⟨v', w', hr, h2, h3, h4⟩ := run_append_at (P := P) t tx o.type e i z bytes ht hi hz hz1 hs1 hby h X news hx hx1 hb hb0 hbase
  unfold Oper.wp execOp
  simp only [ho, resolve, invoke, builtin, Sem.run_bind, Sem.run_pure, Result.andThen_ok, List.map_toArray, List.map_cons, List.map_nil, hs, hX, hr]
  exact hK v' w' h2 h3 h4
theorem src_own {P : Program} {k : IntKind} {A : Option Addr} {n c : Nat} {r : List Int} {tx e' : TypeId} (hk : P.underlying tx = some (.slice e')) (h : OwnAt w base e (.slice A n c) (nums k r)) : Src P 1 tx (.slice A n c) (nums k r).length (nums k r) w := by
  obtain ⟨A', c', hv, _⟩ := h.slice
  cases hv
  by_cases hp : 0 < (nums k r).length
  · obtain ⟨ad, rfl, _, hc⟩ := h.cells hp
    exact Src.ofSlice w hk ad _ c (nums k r) (by simp) (fun j u hj => hc j u hj) (nums_one k r)
  · have hp0 : nums k r = [] := List.eq_nil_of_length_eq_zero (by omega)
    rw [hp0]
    cases A with
    | none => exact Src.ofNil w hk c
    | some ad => exact Src.ofSlice w hk ad 0 c [] (by simp) (fun j u hj => by cases hj) (fun u hu => by cases hu)
/-- A row that was just built of some numbers, as what is appended. -/
theorem src_new {P : Program} {cs : Array Value} {b : Nat} {news : List Value} {tx e' : TypeId} (hk : P.underlying tx = some (.slice e')) (hg : w.heap[b]? = some (.cells cs e (0, 0))) (hn : news = cs.toList) (h1 : ∀ u ∈ news, u.oneCell' = true) :
    Src P 1 tx (.slice (some ⟨b, 0, none⟩) news.length news.length) news.length news w := by
  refine Src.ofSlice w hk ⟨b, 0, none⟩ news.length news.length news (by simp) (fun j u hj => ?_) h1
  rw [add_plain, blk_cell hg j]
  rw [hn] at hj
  simpa using hj
theorem src_byte {P : Program} {tx e' : TypeId} (hk : P.underlying tx = some (.slice e')) (k : IntKind) (x : Int) (w : World) (e : TypeId) : Src P 1 tx (.slice (some ⟨w.heap.size, 0, none⟩) 1 1) (nums k [x]).length (nums k [x]) (w.alloc (.cells #[.int k x] e)) :=
  src_new hk (blk_new w _) rfl (nums_one k [x])
end
end Go.Proofs.Ytbemfgpdfacdpaa.QT
