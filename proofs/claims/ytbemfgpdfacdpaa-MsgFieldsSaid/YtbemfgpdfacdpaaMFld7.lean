/- 8 texts of the proof, put together, less what is not used; what a tool printed stands among them. -/
import Derived.StillTail
import Derived.Deep.QuietTactic
import Derived.BigQuiet
import Derived.Laws.CopyOwn
import Derived.Deep.AppendSrc
import Derived.Laws.AppendOwn
import Derived.Laws.IdiomCopy
import Derived.Test.YtbemfgpdfacdpaaProg
import Derived.Test.YtbemfgpdfacdpaaMFld6
namespace Go.Proofs.Ytbemfgpdfacdpaa.QT
open Go
section
variable {P : Program} {ops : Array Oper} {md : Region.Mode} {C : World → Prop}
/-- Whatever order is picked: the first n operations, each quiet; then L. -/
def anyQ (P : Program) (md : Region.Mode) (ops : Array Oper) (C : World → Prop) (n : Nat) (L : Array Bool → Act → Prop) : Nat → Array Bool → Act → Prop
  | 0, listed, a => L listed a
  | f + 1, listed, a => Region.ready md ops listed ≠ [] ∧ ∀ i ∈ Region.ready md ops listed, i < n ∧ qOp P ops C i (anyQ P md ops C n L f (listed.setIfInBounds i true)) a
theorem any_of_head {n g : Nat} {L : Array Bool → Act → Prop} {Q' : Exit → Act → World → Prop} (hL : ∀ listed a w, C w → L listed a → wpAny P md ops Q' g listed a w) :
    ∀ (f : Nat) (listed : Array Bool) (a : Act) (w : World), C w → anyQ P md ops C n L f listed a → wpAny P md ops Q' (f + g) listed a w
  | 0, listed, a, w, hw, h => by rw [Nat.zero_add]; exact hL _ _ _ hw h
  | f + 1, listed, a, w, hw, h => by
    rw [show f + 1 + g = (f + g) + 1 by omega]
    exact ⟨fun h0 => absurd h0 h.1, fun i hi => wpOp_of_qOp hw (fun a' w' hw' h' => any_of_head hL f _ a' w' hw' h') (h.2 i hi).2⟩
theorem first_ {n i : Nat} {oi : Oper} {v : Value} {L : Array Bool → Act → Prop} (hi : ops[i]? = some oi) (hsel : ∀ (j : Nat) (o : Oper) cs b, ops[j]? = some o → o.op ≠ .select cs b)
    (hs : Region.sinkB md ops n = true) (hc : Region.chainB md ops n = true) (hn : n < ops.size) (hin : i < n)
    (hdone : ∀ listed a, L listed a → ∀ j ∈ Region.ready md ops listed, n ≤ j) :
    ∀ (f : Nat) (listed : Array Bool) (a : Act), HeadInv md ops n listed →
      (∀ j oj, ops[j]? = some oj → j ≠ i → listed.getD j true = false → (∀ e ∈ oj.after, Region.binds md e = true → e.on ≠ i) → oi.apart ops oj = true) →
      i ∈ Region.ready md ops listed → YieldsIn P ops C oi v a →
      anyQ P md ops C n L f (listed.setIfInBounds i true) (a.put oi.dst v) → anyQ P md ops C n L (f + 1) listed a := by
  intro f
  induction f with
  | zero =>
    intro listed a inv _ hr hy H
    have hun := (mem_ready.1 hr).1
    refine ⟨fun h => (by rw [h] at hr; cases hr), fun j hj => ?_⟩
    have hjn : j < n := by
      rcases Nat.lt_or_ge j n with h | h
      · exact h
      · exact absurd hj (tail_waits hs hc hn inv _ i rfl hin hun j h)
    refine ⟨hjn, ?_⟩
    by_cases hji : j = i
    · subst hji; exact hy.qOp hi H
    · have := hdone _ _ H j (ready_mono hj hji)
      omega
  | succ f ih =>
    intro listed a inv hfree hr hy H
    have hun := (mem_ready.1 hr).1
    refine ⟨fun h => (by rw [h] at hr; cases hr), fun j hj => ?_⟩
    have hjn : j < n := by
      rcases Nat.lt_or_ge j n with h | h
      · exact h
      · exact absurd hj (tail_waits hs hc hn inv _ i rfl hin hun j h)
    refine ⟨hjn, ?_⟩
    by_cases hji : j = i
    · subst hji; exact hy.qOp hi H
    · have h1 := (H.2 j (ready_mono hj hji)).2
      obtain ⟨hjun, oj, hoj, hall⟩ := mem_ready.1 hj
      have hnot : ∀ e ∈ oj.after, Region.binds md e = true → e.on ≠ i := fun e he hb heq => by
        have h1 := hall e he hb
        rw [heq, getD_both hun] at h1
        cases h1
      have h2 := qOp_put hoj (hfree j oj hoj hji hjun hnot) (fun cs b => hsel i oi cs b hi) (fun cs b => hsel j oj cs b hoj) hy h1
      have hfree' : ∀ k ok, ops[k]? = some ok → k ≠ i → (listed.setIfInBounds j true).getD k true = false →
          (∀ e ∈ ok.after, Region.binds md e = true → e.on ≠ i) → oi.apart ops ok = true := fun k ok hk hki hun hno => by
        refine hfree k ok hk hki ?_ hno
        by_cases hjk : j = k
        · subst hjk; exact hjun
        · rw [getD_set_ne true hjk] at hun; exact hun
      refine qOp_mono (fun a' h3 => ih (listed.setIfInBounds j true) a' (inv.set hj hjn) hfree' (ready_mono hr (Ne.symm hji)) h3.1 ?_) h2
      rw [Array.setIfInBounds_comm _ _ hji]
      exact h3.2
theorem lex_ {n g : Nat} {Lq : Act → Prop} (hsel : Region.noSelect ops = true) (hs : Region.sinkB md ops n = true) (hc : Region.chainB md ops n = true) (hn : n < ops.size) :
    ∀ (l : List Oper) (k : Nat) (listed : Array Bool) (a : Act), (∀ j, j < l.length → l[j]? = ops[k + j]?) → k + l.length = n → HeadInv md ops n listed →
    Region.lexHead md ops g l.length k listed = true → wpQuiet P ops C Lq l a →
    anyQ P md ops C n (fun listed' a' => Region.seqB md ops g n listed' = true ∧ Lq a') l.length listed a
  | [], k, listed, a, _, hk, _, hB, h => by
    have : k = n := by simpa using hk
    subst this
    exact ⟨by simpa [Region.lexHead] using hB, h⟩
  | o :: l, k, listed, a, hl, hk, inv, hB, h => by
    have h0 : ops[k]? = some o := by simpa using (hl 0 (by simp)).symm
    simp only [List.length_cons, Region.lexHead, Bool.and_eq_true] at hB
    obtain ⟨⟨hr, hf⟩, hB'⟩ := hB
    have hkn : k < n := by simp only [List.length_cons] at hk; omega
    have hr' : k ∈ Region.ready md ops listed := by simpa using hr
    have hst : qOp P ops C k (wpQuiet P ops C Lq l) a := by unfold qOp; simp only [h0]; exact h
    obtain ⟨v, hy, hK⟩ := yieldsIn_of_qOp h0 hst
    exact first_ h0 (Region.noSelect_spec hsel) hs hc hn hkn (fun listed' a' hL => seqB_ready hL.1) l.length listed a inv (Region.free_spec h0 hf) hr' hy
      (lex_ hsel hs hc hn l (k + 1) _ _ (fun j hj => by have := hl (j + 1) (by simp; omega); simpa [Nat.add_assoc, Nat.add_comm 1 j] using this) (by simp only [List.length_cons] at hk; omega) (inv.set hr' hkn) hB' hK)
/-- The region: the first n operations quiet, the rest behind them, in the world after some draws. -/
theorem region {id : Nat} {Q : Exit → Act → World → Prop} {a : Act} {w : World} {l : List Oper} (n : Nat) (hm : P.follows .mixedOrders = true) (hB : Region.lexTailB .any l.toArray n = true)
    (h : wpQuiet P l.toArray (fun w' => ∃ m, w' = w.drewN m) (fun a' => ∀ m, wpList P l.toArray Q (l.drop n) a' (w.drewN m)) (l.take n) a) : (Code.region id l.toArray true).wp P Q a w := by
  simp only [Region.lexTailB, Bool.and_eq_true, decide_eq_true_eq] at hB
  obtain ⟨⟨⟨⟨hsel, hn⟩, hs⟩, hc⟩, hlex⟩ := hB
  have hn' : n < l.length := by simpa using hn
  have htl : (l.take n).length = n := by simp; omega
  have hdl : (l.drop n).length = l.toArray.size - n := by simp
  have inv0 : HeadInv .any l.toArray n (Array.replicate l.toArray.size false) :=
    ⟨by simp, fun j oj _ hl => (by rw [getD_replicate_false] at hl; cases hl), fun t _ ht => getD_in (by simpa using ht) (getD_replicate_false _ _)⟩
  have H := lex_ (md := .any) (g := l.toArray.size - n) hsel hs hc hn (l.take n) 0 _ a (fun j hj => by
    have hj' : j < n := by rw [htl] at hj; exact hj
    simp [hj']) (by simpa using htl) inv0 (by rw [htl]; exact hlex) h
  refine wp_region_any hm ?_
  have := any_of_head (Q' := Q) (g := l.toArray.size - n) (fun listed a' w' hw' hL => by
    obtain ⟨m, rfl⟩ := hw'
    have := wpAny_of_seq (md := .any) (Q' := Q) (l.drop n) n listed a' (w.drewN m) (fun j => by simp [List.getElem?_drop]) (by rw [hdl]; exact hL.1) (hL.2 m)
    rwa [hdl] at this) _ _ _ _ (⟨1, rfl⟩ : ∃ m, ({ w with drawn := w.drawn + 1 } : World) = w.drewN m) H
  rw [htl, show n + (l.toArray.size - n) = l.toArray.size by omega] at this
  exact this
end
end Go.Proofs.Ytbemfgpdfacdpaa.QT
namespace Go.Proofs.Ytbemfgpdfacdpaa.QT
open Go Go.RowKit Go.Proofs.YtbemfgpdfacdpaaW.PrintWords Go.Proofs.YtbemfgpdfacdpaaW.PrintLast
def Fresh (N : Nat) (w w' : World) (L : List (Bool × Nat × Nat × Array Value)) : Prop :=
  Below N w w' ∧ (∀ (k : Nat) (x : Bool × Nat × Nat × Array Value), L[k]? = some x → x.1 = true → N ≤ x.2.1 ∧ w'.heap[x.2.1]? = some (.cells x.2.2.2 x.2.2.1 (0, 0))) ∧
    ∀ (j k : Nat) (x y : Bool × Nat × Nat × Array Value), L[j]? = some x → L[k]? = some y → x.1 = true → y.1 = true → j ≠ k → x.2.1 ≠ y.2.1
section
variable {N : Nat} {w w1 : World} {L : List (Bool × Nat × Nat × Array Value)}
theorem Fresh.drew (h : Fresh N w w1 L) (n : Nat) : Fresh N w (w1.drewN n) L := ⟨pw_below_drewN h.1 n, h.2.1, h.2.2⟩
theorem Fresh.below {w2 : World} (h : Fresh N w w1 L) (hN : N ≤ w.heap.size) (hb : Below w1.heap.size w1 w2) : Fresh N w w2 L :=
  ⟨h.1.trans (hb.mono (Nat.le_trans hN h.1.size)), fun k x hx h1 => ⟨(h.2.1 k x hx h1).1, blk_below (h.2.1 k x hx h1).2 hb⟩, h.2.2⟩
theorem Fresh.alloc (h : Fresh N w w1 L) (hN : N ≤ w.heap.size) (k : Nat) {x : Bool × Nat × Nat × Array Value} (hx : L[k]? = some x) (cs : Array Value) (hcs : x.2.2.2 = cs) :
    Fresh N w (w1.alloc (.cells cs x.2.2.1)) (L.set k (true, w1.heap.size, x.2.2.1, x.2.2.2)) := by
  subst hcs
  have hk : k < L.length := (List.getElem?_eq_some_iff.1 hx).1
  refine ⟨h.1.alloc (Nat.le_trans hN h.1.size) _, fun j y hy h1 => ?_, fun i j y z hy hz h1 h2 hne => ?_⟩
  · by_cases hjk : k = j
    · subst hjk
      rw [List.getElem?_set_self hk] at hy
      cases hy
      exact ⟨Nat.le_trans hN h.1.size, blk_new _ _⟩
    · rw [List.getElem?_set_ne hjk] at hy
      exact ⟨(h.2.1 j y hy h1).1, blk_alloc (h.2.1 j y hy h1).2 _⟩
  · by_cases hik : k = i
    · subst hik
      rw [List.getElem?_set_self hk] at hy
      cases hy
      rw [List.getElem?_set_ne hne] at hz
      exact Nat.ne_of_gt (blk_lt (h.2.1 j z hz h2).2)
    · rw [List.getElem?_set_ne hik] at hy
      by_cases hjk : k = j
      · subst hjk
        rw [List.getElem?_set_self hk] at hz
        cases hz
        exact Nat.ne_of_lt (blk_lt (h.2.1 i y hy h1).2)
      · rw [List.getElem?_set_ne hjk] at hz
        exact h.2.2 i j y z hy hz h1 h2 hne
theorem Fresh.store (h : Fresh N w w1 L) (k : Nat) {x : Bool × Nat × Nat × Array Value} (hx : L[k]? = some x) (h0 : x.1 = true) (cs : Array Value) :
    Fresh N w (w1.setRow x.2.1 cs) (L.set k (x.1, x.2.1, x.2.2.1, cs)) := by
  have hk : k < L.length := (List.getElem?_eq_some_iff.1 hx).1
  have hg := h.2.1 k x hx h0
  refine ⟨below_setRow h.1 hg.1 cs, fun j y hy h1 => ?_, fun i j y z hy hz h1 h2 hne => ?_⟩
  · by_cases hjk : k = j
    · subst hjk
      rw [List.getElem?_set_self hk] at hy
      cases hy
      exact ⟨hg.1, setRow_heap w1 x.2.1 _ cs _ _ hg.2⟩
    · rw [List.getElem?_set_ne hjk] at hy
      refine ⟨(h.2.1 j y hy h1).1, ?_⟩
      rw [setRow_other w1 x.2.1 y.2.1 cs (h.2.2 j k y x hy hx h1 h0 (Ne.symm hjk))]
      exact (h.2.1 j y hy h1).2
  · have key : ∀ (i : Nat) (y : Bool × Nat × Nat × Array Value), (L.set k (x.1, x.2.1, x.2.2.1, cs))[i]? = some y → ∃ y0, L[i]? = some y0 ∧ y0.1 = y.1 ∧ y0.2.1 = y.2.1 := fun i y hy => by
      by_cases hik : k = i
      · subst hik
        rw [List.getElem?_set_self hk] at hy
        cases hy
        exact ⟨x, hx, rfl, rfl⟩
      · rw [List.getElem?_set_ne hik] at hy
        exact ⟨y, hy, rfl, rfl⟩
    obtain ⟨y0, hy0, e1, e2⟩ := key i y hy
    obtain ⟨z0, hz0, e3, e4⟩ := key j z hz
    rw [← e2, ← e4]
    exact h.2.2 i j y0 z0 hy0 hz0 (e1.trans h1) (e3.trans h2) hne
end
end Go.Proofs.Ytbemfgpdfacdpaa.QT
namespace Go.Proofs.Ytbemfgpdfacdpaa.QT
open Go Go.RowKit Go.Proofs.YtbemfgpdfacdpaaW.PrintWords Go.Proofs.YtbemfgpdfacdpaaW.PrintLast
/-- v reads as xs (elements of one cell), in a block from base on that nothing else is known to hold. -/
def OwnAt (w : World) (base : Nat) (e : TypeId) (v : Value) (xs : List Value) : Prop :=
  ∃ A c, v = .slice A xs.length c ∧ xs.length ≤ c ∧ c ≤ 9223372036854775807 ∧ (∀ u ∈ xs, u.oneCell' = true) ∧
    (0 < c → ∃ b off cs, A = some ⟨b, off, none⟩ ∧ base ≤ b ∧ w.heap[b]? = some (.cells cs e (0, 0)) ∧ off + c ≤ cs.size ∧ ∀ j u, xs[j]? = some u → cs[off + j]? = some u) ∧ (∀ ad, A = some ad → base ≤ ad.block ∧ ad.block < w.heap.size)
section
variable {w w1 : World} {base : Nat} {e : TypeId} {v : Value} {xs : List Value}
theorem OwnAt.nil (w : World) (base : Nat) (e : TypeId) : OwnAt w base e (.slice none 0 0) [] := ⟨none, 0, rfl, Nat.le_refl _, by omega, (fun _ h => by cases h), (fun h => absurd h (by omega)), (fun _ h => by cases h)⟩
theorem OwnAt.slice (h : OwnAt w base e v xs) : ∃ A c, v = .slice A xs.length c ∧ xs.length ≤ c ∧ c ≤ 9223372036854775807 := by
  obtain ⟨A, c, h1, h2, h3, _⟩ := h
  exact ⟨A, c, h1, h2, h3⟩
theorem OwnAt.cells {A : Option Addr} {n c : Nat} (h : OwnAt w base e (.slice A n c) xs) (hp : 0 < xs.length) : ∃ ad : Addr, A = some ad ∧ base ≤ ad.block ∧ ∀ j u, xs[j]? = some u → w.cell? (ad.add j) = some u := by
  obtain ⟨A', c', hv, h2, _, _, h5, _⟩ := h
  cases hv
  obtain ⟨b, off, cs, rfl, hb, hg, hfit, hx⟩ := h5 (by omega)
  refine ⟨_, rfl, hb, fun j u hj => ?_⟩
  rw [show (⟨b, off, none⟩ : Addr).add j = ⟨b, off + j, none⟩ by unfold Addr.add; split <;> simp_all]
  exact (blk_cell hg (off + j)).trans (hx j u hj)
theorem OwnAt.base_le (h : OwnAt w base e v xs) (k : Nat) (hk : v.ownBlock = some k) : base ≤ k := by
  obtain ⟨A, c, rfl, _, _, _, _, h6⟩ := h
  cases A with
  | none => cases hk
  | some ad => cases hk; exact (h6 ad rfl).1
theorem OwnAt.lt (h : OwnAt w base e v xs) (k : Nat) (hk : v.ownBlock = some k) : k < w.heap.size := by
  obtain ⟨A, c, rfl, _, _, _, _, h6⟩ := h
  cases A with
  | none => cases hk
  | some ad => cases hk; exact (h6 ad rfl).2
/-- Its block stands as it was. -/
theorem OwnAt.carry (h : OwnAt w base e v xs) (hs : w.heap.size ≤ w1.heap.size) (hk : ∀ k, v.ownBlock = some k → w1.heap[k]? = w.heap[k]?) : OwnAt w1 base e v xs := by
  obtain ⟨A, c, rfl, h2, h3, h4, h5, h6⟩ := h
  refine ⟨A, c, rfl, h2, h3, h4, fun hc => ?_, fun ad hA => ⟨(h6 ad hA).1, Nat.lt_of_lt_of_le (h6 ad hA).2 hs⟩⟩
  obtain ⟨b, off, cs, hA, hbb, hg, r⟩ := h5 hc
  subst hA
  exact ⟨b, off, cs, rfl, hbb, (hk b rfl).trans hg, r⟩
theorem OwnAt.below (h : OwnAt w base e v xs) (hb : Below w.heap.size w w1) : OwnAt w1 base e v xs := h.carry hb.size (fun k hk => hb.block k (h.lt k hk))
theorem OwnAt.drewN (h : OwnAt w base e v xs) (n : Nat) : OwnAt (w.drewN n) base e v xs := h
theorem OwnAt.alloc (h : OwnAt w base e v xs) (o : Obj) : OwnAt (w.alloc o) base e v xs := h.below ((Below.refl _ _).alloc (Nat.le_refl _) o)
theorem OwnAt.setCell (h : OwnAt w base e v xs) {p : Addr} (hne : v.ownBlock ≠ some p.block) (u : Value) : OwnAt (w.setCell p u) base e v xs :=
  h.carry (by simp [World.setCell]) (fun k hk => heap_setCell_other w p k u (fun he => hne (by rw [hk, he])))
/-- What is left when the first n are cut off. -/
theorem OwnAt.drop {A : Option Addr} {m c : Nat} (h : OwnAt w base e (.slice A m c) xs) (n : Nat) (hn : n ≤ xs.length) :
    OwnAt w base e (.slice (if c = n then A else A.map (·.add n)) (m - n) (c - n)) (xs.drop n) := by
  obtain ⟨A', c', hv, h2, h3, h4, h5, h6⟩ := h
  cases hv
  refine ⟨_, _, by rw [List.length_drop], by rw [List.length_drop]; omega, by omega, fun u hu => h4 u (List.mem_of_mem_drop hu), fun hc => ?_, fun ad hA => ?_⟩
  · have hne : ¬ c = n := by omega
    obtain ⟨b, off, cs, rfl, hbb, hg, hfit, hx⟩ := h5 (by omega)
    rw [if_neg hne]
    refine ⟨b, off + n, cs, ?_, hbb, hg, by omega, fun j u hj => ?_⟩
    · simp only [Option.map_some]
      unfold Addr.add; split
      · rename_i h0; simp [h0]
      · rfl
    · rw [List.getElem?_drop] at hj
      rw [Nat.add_assoc]; exact hx _ _ hj
  · by_cases hcn : c = n
    · rw [if_pos hcn] at hA
      exact h6 ad hA
    · rw [if_neg hcn] at hA
      obtain ⟨a0, rfl, rfl⟩ := Option.map_eq_some_iff.mp hA
      have := h6 a0 rfl
      unfold Addr.add; split <;> exact this
/-- Appending. -/
theorem run_append_at {P : Program} (t tx ty : TypeId) (e : TypeId) (i : TypeInfo) (z : Value) (bytes : Nat) (ht : P.underlying t = some (.slice e)) (hi : P.info? e = some i) (hz : i.zero = some z) (hz1 : z.cells.size = 1)
    (hs1 : i.size = 1) (hby : i.bytes = bytes) (h : OwnAt w base e v xs) (x : Value) (news : List Value) (hx : Src P 1 tx x news.length news w) (hx1 : ∀ u ∈ news, u.oneCell' = true)
    (hb : (xs.length + news.length) * bytes ≤ 140737488355328) (hb0 : 0 < bytes) (hbase : base ≤ w.heap.size) :
    ∃ v' w', (Builtin.append_ #[t, tx] ty #[v, x]).run P w = .ok v' w' ∧ OwnAt w' base e v' (xs ++ news) ∧ w.grownBy w' v.ownBlock ∧ (v'.ownBlock = v.ownBlock ∨ ∃ b, v'.ownBlock = some b ∧ w.heap.size ≤ b) := by
  have hall : ∀ u ∈ xs ++ news, u.oneCell' = true := fun u hu => by
    rcases List.mem_append.1 hu with hu | hu
    · obtain ⟨_, _, _, _, _, h4, _⟩ := h; exact h4 u hu
    · exact hx1 u hu
  have hle : xs.length + news.length ≤ 140737488355328 := Nat.le_trans (Nat.le_mul_of_pos_right _ hb0) hb
  have h' := h
  obtain ⟨A, c, rfl, h2, h3, h4, h5, h6⟩ := h
  by_cases hroom : xs.length + news.length ≤ c
  · by_cases hc : 0 < c
    · obtain ⟨b, off, cs, rfl, hbb, hg, hfit, hcell⟩ := h5 hc
      have hcl : ∀ j, j < news.length → (w.cell? ⟨b, off + xs.length * 1 + j, none⟩).isSome = true := fun j hj => by
        rw [blk_cell hg]; simp; omega
      have hfr : ∀ j, j < news.length → w.frozen? ⟨b, off + xs.length * 1 + j, none⟩ = false := fun j hj => blk_frozen hg _
      have hr := run_append_room_src (P := P) w t tx ty e i ht hi b off xs.length c x news.length news (by rw [hs1]; exact hx) hroom (by rw [hs1]; exact hcl) (by rw [hs1]; exact hfr)
      rw [hs1, Nat.mul_one] at hr
      -- the block behind the stores
      have hset : ∀ (l : List Value) (o : Nat) (w : World) (cs : Array Value), w.heap[b]? = some (.cells cs e (0, 0)) → o + l.length ≤ cs.size →
          ∃ cs', (w.setCells b o l).heap[b]? = some (.cells cs' e (0, 0)) ∧ cs'.size = cs.size ∧ (∀ j, j < o → cs'[j]? = cs[j]?) ∧ (∀ j u, l[j]? = some u → cs'[o + j]? = some u) ∧ (w.setCells b o l).heap.size = w.heap.size ∧
            (∀ k, k ≠ b → (w.setCells b o l).heap[k]? = w.heap[k]?) ∧ (w.setCells b o l).os = w.os ∧ (w.setCells b o l).tape = w.tape ∧ (w.setCells b o l).output = w.output := by
        intro l
        induction l with
        | nil => intro o w cs hg _; exact ⟨cs, hg, rfl, (fun _ _ => rfl), (fun _ _ hj => by cases hj), rfl, (fun _ _ => rfl), rfl, rfl, rfl⟩
        | cons u l ih =>
          intro o w cs hg hf
          have h1 := blk_set hg o u
          obtain ⟨cs', k1, k2, k3, k4, k5, k6, k7, k8, k9⟩ := ih (o + 1) (w.setCell ⟨b, o, none⟩ u) (cs.setIfInBounds o u) h1 (by simp only [List.length_cons] at hf; simp; omega)
          refine ⟨cs', k1, by rw [k2]; simp, fun j hj => ?_, fun j x hj => ?_, by rw [World.setCells, k5]; simp [World.setCell], fun k hk => ?_, k7, k8, k9⟩
          · rw [k3 j (by omega), Array.getElem?_setIfInBounds_ne (by omega)]
          · cases j with
            | zero =>
              simp only [List.getElem?_cons_zero, Option.some.injEq] at hj
              subst hj
              rw [Nat.add_zero, k3 o (by omega)]
              have hf' : o + (l.length + 1) ≤ cs.size := hf
              rw [Array.getElem?_setIfInBounds_self_of_lt (by omega)]
            | succ j =>
              rw [List.getElem?_cons_succ] at hj
              rw [show o + (j + 1) = o + 1 + j by omega]; exact k4 j x hj
          · rw [World.setCells, k6 k hk]; exact heap_setCell_other w ⟨b, o, none⟩ k u hk
      obtain ⟨cs', k1, k2, k3, k4, k5, k6, k7, k8, k9⟩ := hset news (off + xs.length) w cs hg (by omega)
      refine ⟨_, _, hr, ⟨_, c, by rw [List.length_append], by rw [List.length_append]; exact hroom, h3, hall, fun _ => ⟨b, off, cs', rfl, hbb, k1, by omega, fun j u hj => ?_⟩, fun ad hA => by cases hA; exact ⟨hbb, by rw [k5]; exact blk_lt hg⟩⟩, ⟨k7, k8, k9, by omega, fun k _ hk => k6 k (fun he => hk (by simp [Value.ownBlock, he]))⟩, .inl rfl⟩
      by_cases hjx : j < xs.length
      · rw [List.getElem?_append_left hjx] at hj
        rw [k3 _ (by omega)]; exact hcell j u hj
      · rw [List.getElem?_append_right (by omega)] at hj
        have := k4 _ _ hj
        rwa [show off + xs.length + (j - xs.length) = off + j by omega] at this
    · have hn0 : news = [] := List.eq_nil_of_length_eq_zero (by omega)
      have hx0 : xs = [] := List.eq_nil_of_length_eq_zero (by omega)
      obtain rfl : c = 0 := by omega
      subst hn0; subst hx0
      refine ⟨.slice A 0 0, w, ?_, by simpa using h', ⟨rfl, rfl, rfl, Nat.le_refl _, fun _ _ _ => rfl⟩, .inl rfl⟩
      have hcs := hx.cells
      have hln := hx.len
      simp only [List.length_nil] at hcs hln
      rcases hx.kind with ⟨e', hk⟩ | hk <;> cases A <;> simp [Builtin.append_, run_underlying ht, run_underlying hk, sizeOf, typeInfo, hi, hs1, hln, hcs, storeCells]
  · have hold : (Builtin.firstCells i.size xs.length (.slice A xs.length c)).run P w.drew = .ok xs.toArray w.drew := by
      rw [hs1]
      by_cases hx0 : 0 < xs.length
      · obtain ⟨ad, rfl, _, hc⟩ := h'.cells hx0
        exact run_firstCells_some w.drew 1 xs.length ad xs.length c xs (by simp) (fun j u hj => hc j u hj)
      · have hx0 : xs = [] := List.eq_nil_of_length_eq_zero (by omega)
        subst hx0
        cases A with
        | none => exact run_firstCells_none w.drew 1 0 0 c
        | some ad => exact run_firstCells_some w.drew 1 0 ad 0 c [] (by simp) (fun j u hj => by cases hj)
    have hr := run_append_grow_src (P := P) w t tx ty e i z ht hi hz A xs.length c xs hold x news.length news (by rw [hs1]; exact hx) (by omega) (by omega) (by rw [hby]; exact growslice_fits (by omega) hb)
    have hge := grownCap_ge w (xs.length + news.length) c e
    have hcm : grownCap w (xs.length + news.length) c e ≤ maxLen := grownCap_le_maxLen w (xs.length + news.length) c e (by simp only [maxLen]; omega)
    refine ⟨_, _, hr, ⟨_, _, by rw [List.length_append], by rw [List.length_append]; exact hge, by simpa [maxLen] using hcm, hall, fun _ => ⟨w.heap.size, 0, _, rfl, hbase, heap_alloc_new w.drew _, ?_, fun j u hj => ?_⟩, fun ad hA => by cases hA; exact ⟨hbase, by simp⟩⟩,
      ⟨rfl, rfl, rfl, by simp, fun k hk _ => Below.heap_alloc w.drew _ k hk⟩, .inr ⟨w.heap.size, rfl, Nat.le_refl _⟩⟩
    · simp only [Array.size_append, List.size_toArray, size_zeroCells, hz1, List.length_append]
      omega
    · rw [Nat.zero_add, Array.getElem?_append_left (by simpa using (List.getElem?_eq_some_iff.1 hj).1)]
      simpa using hj
theorem nums_one (k : IntKind) (xs : List Int) : ∀ u ∈ nums k xs, u.oneCell' = true := fun u hu => by
  obtain ⟨x, _, rfl⟩ := List.mem_map.1 hu
  rfl
/-- The operation, for the walk. -/
theorem wpList_append_at {P : Program} {ops : Array Oper} {rest : List Oper} {o : Oper} {a : Act} {Q : Exit → Act → World → Prop} (hgd : o.guard = none) (sl x : Operand) (t tx : TypeId)
    (ho : o.op = .call { callee := .builtin .append, args := #[sl, x], argTypes := #[t, tx] })
    (e : TypeId) (i : TypeInfo) (z : Value) (bytes : Nat) (ht : P.underlying t = some (.slice e)) (hi : P.info? e = some i) (hz : i.zero = some z) (hz1 : z.cells.size = 1)
    (hs1 : i.size = 1) (hby : i.bytes = bytes) (hs : a.eval sl = v) (h : OwnAt w base e v xs) (X : Value) (hX : a.eval x = X) (news : List Value) (hx : Src P 1 tx X news.length news w) (hx1 : ∀ u ∈ news, u.oneCell' = true)
    (hb : (xs.length + news.length) * bytes ≤ 140737488355328) (hb0 : 0 < bytes) (hbase : base ≤ w.heap.size)
    (hK : ∀ v' w', OwnAt w' base e v' (xs ++ news) → w.grownBy w' v.ownBlock → (v'.ownBlock = v.ownBlock ∨ ∃ b, v'.ownBlock = some b ∧ w.heap.size ≤ b) → wpList P ops Q rest (a.put o.dst v') w') : wpList P ops Q (o :: rest) a w := by
  refine wpList_plain hgd fun K hK' => ?_
  obtain ⟨v', w', hr, h2, h3, h4⟩ := run_append_at (P := P) t tx o.type e i z bytes ht hi hz hz1 hs1 hby h X news hx hx1 hb hb0 hbase
  unfold Oper.wp execOp
  simp only [ho, resolve, invoke, builtin, Sem.run_bind, Sem.run_pure, Result.andThen_ok, List.map_toArray, List.map_cons, List.map_nil, hs, hX, hr]
  exact hK' _ _ (hK v' w' h2 h3 h4)
/-- The same as a region's step. -/
theorem append_step {P : Program} {ops : Array Oper} {o : Oper} {a : Act} {N : Option Tmp} {Q : Exit → Act → World → Prop} {K : Act → World → Prop} (hw : Region.wanted o (yielded ops a.tmps) = true) (hN : o.dst = N) (sl x : Operand) (t tx : TypeId)
    (ho : o.op = .call { callee := .builtin .append, args := #[sl, x], argTypes := #[t, tx] })
    (e : TypeId) (i : TypeInfo) (z : Value) (bytes : Nat) (ht : P.underlying t = some (.slice e)) (hi : P.info? e = some i) (hz : i.zero = some z) (hz1 : z.cells.size = 1)
    (hs1 : i.size = 1) (hby : i.bytes = bytes) (hs : a.eval sl = v) (h : OwnAt w base e v xs) (X : Value) (hX : a.eval x = X) (news : List Value) (hx : Src P 1 tx X news.length news w) (hx1 : ∀ u ∈ news, u.oneCell' = true)
    (hb : (xs.length + news.length) * bytes ≤ 140737488355328) (hb0 : 0 < bytes) (hbase : base ≤ w.heap.size)
    (hK : ∀ v' w', OwnAt w' base e v' (xs ++ news) → w.grownBy w' v.ownBlock → (v'.ownBlock = v.ownBlock ∨ ∃ b, v'.ownBlock = some b ∧ w.heap.size ≤ b) → K (a.put N v') w') :
    if Region.wanted o (yielded ops a.tmps) = true then Oper.wp P o a w K Q else K (a.put N undef) w := by
  rw [if_pos hw]
  subst hN
  obtain ⟨v', w', hr, h2, h3, h4⟩ := run_append_at (P := P) t tx o.type e i z bytes ht hi hz hz1 hs1 hby h X news hx hx1 hb hb0 hbase
  unfold Oper.wp execOp
  simp only [ho, resolve, invoke, builtin, Sem.run_bind, Sem.run_pure, Result.andThen_ok, List.map_toArray, List.map_cons, List.map_nil, hs, hX, hr]
  exact hK v' w' h2 h3 h4
/-- A row that was just built of some numbers, as what is appended. -/
theorem src_new {P : Program} {cs : Array Value} {b : Nat} {news : List Value} {tx e' : TypeId} (hk : P.underlying tx = some (.slice e')) (hg : w.heap[b]? = some (.cells cs e (0, 0))) (hn : news = cs.toList) (h1 : ∀ u ∈ news, u.oneCell' = true) :
    Src P 1 tx (.slice (some ⟨b, 0, none⟩) news.length news.length) news.length news w := by
  refine Src.ofSlice w hk ⟨b, 0, none⟩ news.length news.length news (by simp) (fun j u hj => ?_) h1
  rw [add_plain, blk_cell hg j]
  rw [hn] at hj
  simpa using hj
theorem src_byte {P : Program} {tx e' : TypeId} (hk : P.underlying tx = some (.slice e')) (k : IntKind) (x : Int) (w : World) (e : TypeId) : Src P 1 tx (.slice (some ⟨w.heap.size, 0, none⟩) 1 1) (nums k [x]).length (nums k [x]) (w.alloc (.cells #[.int k x] e)) :=
  src_new hk (blk_new w _) rfl (nums_one k [x])
end
end Go.Proofs.Ytbemfgpdfacdpaa.QT
namespace Go.Proofs.Ytbemfgpdfacdpaa.Ms
open Go.RowKit Go.Proofs.YtbemfgpdfacdpaaW.PrintWords Go.Proofs.YtbemfgpdfacdpaaW.PrintLast Go.Proofs.YtbemfgpdfacdpaaW.PrintMore
set_option linter.unusedVariables false
set_option linter.unusedSimpArgs false
def takeP (l : List Int) (bad : Bool) (n : Nat) : List Int × List Int × Bool := if bad = true ∨ l.length < n then ([], l, true) else (l.take n, l.drop n, false)
/-- The reader at block g: the bytes that are left (they lie in w0), whether they are none. -/
def Rd (w0 w : World) (g : Nat) (l : List Int) (bad : Bool) : Prop :=
  ∃ A n c, w.heap[g]? = some (.cells #[.slice A n c, .bool bad] 66 (0, 0)) ∧ n = l.length ∧ n ≤ c ∧ (Kd.int .u8).C w0 A l.length l ∧ l.length ≤ 140737488351232
theorem Rd.set {w0 w : World} {g : Nat} {l : List Int} {bad : Bool} (h : Rd w0 w g l bad) : Rd w0 (w.setCell ⟨g, 1, none⟩ (.bool true)) g l true := by
  obtain ⟨A, n, c, h1, h2⟩ := h
  exact ⟨A, n, c, blk_set h1 1 _, h2⟩
/-- What a cut from the front leaves. -/
theorem C_rest {w : World} {A : Option Addr} {l : List Int} {c n : Nat} (h : (Kd.int .u8).C w A l.length l) (hn : n ≤ l.length) (hc : l.length ≤ c) : (Kd.int .u8).C w (A.map (·.add n)) (l.drop n).length (l.drop n) := by
  by_cases he : c = n
  · have : l.drop n = [] := List.drop_eq_nil_of_le (by omega)
    rw [this]
    exact ⟨rfl, by simp, fun h => absurd h (Nat.lt_irrefl 0)⟩
  · have := Kd.C_drop h hn hc
    rw [if_neg he] at this
    simpa [show (Kd.int .u8).sz = 1 from rfl] using this
def TakeQ (w0 w : World) (g : Nat) (r : List Int × List Int × Bool) (e : Ending) (w' : World) : Prop :=
  ∃ A c, e = .returned (.slice A r.1.length c) ∧ r.1.length ≤ c ∧ (Kd.int .u8).C w0 A r.1.length r.1 ∧ Rd w0 w' g r.2.1 r.2.2 ∧ Kept w w' (fun k => k = g) ∧ Below w0.heap.size w0 w'
theorem takeP_yes {l : List Int} {bad : Bool} {n : Nat} (h : bad = true ∨ l.length < n) : takeP l bad n = ([], l, true) := if_pos h
theorem takeP_no {l : List Int} {n : Nat} (h : n ≤ l.length) : takeP l false n = (l.take n, l.drop n, false) := if_neg (by simp; omega)
set_option maxHeartbeats 1000000 in
set_option maxRecDepth 100000 in
theorem take_calls (w0 w : World) (g : Nat) (l : List Int) (bad : Bool) (n : Nat) (hB : Below w0.heap.size w0 w) (hg : w0.heap.size ≤ g) (h : Rd w0 w g l bad) :
    Calls Try.prog 43 #[.pointer (some ⟨g, 0, none⟩), .int .i64 n] w (TakeQ w0 w g (takeP l bad n)) := by
  have HR := Aside0.mk h
  obtain ⟨A, k, c, hb, hk, hkc, hC, hl⟩ := h
  have m0 : w.cell? ⟨g, 0, none⟩ = some (.slice A k c) := blk_cell hb 0
  have m1 : w.cell? ⟨g, 1, none⟩ = some (.bool bad) := blk_cell hb 1
  have f0 := blk_frozen hb 0
  have f1 := blk_frozen hb 1
  have HB := Aside0.mk hB
  have HG := Aside0.mk hg
  have HC := Aside0.mk hC
  have HK := Aside0.mk hk
  have HL := Aside0.mk hl
  have Hb := Aside0.mk hb
  obtain ⟨r, hr⟩ : ∃ r, r = takeP l bad n := ⟨_, rfl⟩
  rw [← hr]
  have Hr := Aside0.mk hr
  clear hC hk hl hB hg hb hr
  by_cases hbad : bad = true ∨ l.length < n
  · have HE : Aside0 (r = ([], l, true)) := ⟨by rw [Hr.out]; exact takeP_yes hbad⟩
    have fin : TakeQ w0 w g r (.returned (.slice none 0 0)) (w.setCell ⟨g, 1, none⟩ (.bool true)) := by
      rw [HE.out]
      exact ⟨none, 0, rfl, Nat.le_refl _, Kd.C_nil _ _, HR.out.set, Kept.setCell (S := fun k => k = g) (p := ⟨g, 1, none⟩) (Kept.refl _ _) (.inl rfl) _, HB.out.setCell HG.out _⟩
    have FIN := Aside0.mk fin
    clear fin
    cases bad
    · have e2 : decide (k < n) = true := decide_eq_true (by have := HK.out; simp at hbad; omega)
      clear hbad
      go_enter Try.func43, Try.ntmps43
      go_wp2
      go_ret
      exact FIN.out
    · clear hbad
      go_enter Try.func43, Try.ntmps43
      go_wp2
      go_ret
      exact FIN.out
  · have hbad : bad = false ∧ n ≤ l.length := by cases bad <;> simp_all
    obtain ⟨rfl, hn⟩ := hbad
    have HE : Aside0 (r = (l.take n, l.drop n, false)) := ⟨by rw [Hr.out]; exact takeP_no hn⟩
    have e2 : decide (k < n) = false := decide_eq_false (by have := HK.out; omega)
    have hn' : n ≤ k := by rw [HK.out]; exact hn
    have hnc : n ≤ c := Nat.le_trans hn' hkc
    have fin : ∀ B c', (Kd.int .u8).C w0 B (l.drop n).length (l.drop n) → k - n ≤ c' → TakeQ w0 w g r (.returned (.slice A n c)) (w.setCell ⟨g, 0, none⟩ (.slice B (k - n) c')) := by
      intro B c' hB hc'
      rw [HE.out]
      have h1 : (l.take n).length = n := by rw [List.length_take]; omega
      refine ⟨A, c, by rw [h1], by rw [h1]; exact hnc, Kd.C_take HC.out hn, ⟨_, _, _, blk_set Hb.out 0 _, by rw [List.length_drop, ← HK.out], hc', hB, by have := HL.out; rw [List.length_drop]; omega⟩, Kept.setCell (S := fun k => k = g) (p := ⟨g, 0, none⟩) (Kept.refl _ _) (.inl rfl) _, HB.out.setCell HG.out _⟩
    have hr0 := C_rest HC.out hn (by rw [← HK.out]; exact hkc)
    have FIN := Aside0.mk fin
    have HR0 := Aside0.mk hr0
    clear fin hr0
    by_cases hcn : c = n
    · have hz : l.drop n = [] := List.drop_eq_nil_of_le (by rw [← HK.out]; omega)
      have HZ : Aside0 ((Kd.int .u8).C w0 A (l.drop n).length (l.drop n)) := ⟨by rw [hz]; exact ⟨rfl, by simp, fun h => absurd h (Nat.lt_irrefl 0)⟩⟩
      obtain rfl : k = n := by omega
      subst hcn
      clear hz
      go_enter Try.func43, Try.ntmps43
      go_wp2
      go_ret
      have q := FIN.out A 0 HZ.out (by omega)
      rw [Nat.sub_self] at q
      exact q
    · go_enter Try.func43, Try.ntmps43
      go_wp2
      go_ret
      exact FIN.out _ _ HR0.out (by omega)
theorem takeP_len {l : List Int} {bad : Bool} {n m : Nat} (h : n ≤ m) : (takeP l bad n).1.length ≤ m := by
  unfold takeP
  split
  · simp
  · simp; omega
theorem takeP_bytes {l : List Int} {bad : Bool} {n : Nat} (h : ∀ x ∈ l, 0 ≤ x ∧ x ≤ 255) : ∀ x ∈ (takeP l bad n).1, 0 ≤ x ∧ x ≤ 255 := by
  unfold takeP
  split
  · simp
  · exact fun x hx => h x (List.mem_of_mem_take hx)
/-- The number that bytes are, the greatest first. -/
def beV (l : List Int) : Nat := l.foldl (fun v x => v * 256 + x.toNat) 0
theorem beV_snoc (l : List Int) (x : Int) : beV (l ++ [x]) = beV l * 256 + x.toNat := by simp [beV, List.foldl_append]
theorem beV_take (l : List Int) (i : Nat) (h : i < l.length) : beV (l.take (i + 1)) = beV (l.take i) * 256 + (l.getD i 0).toNat := by
  rw [List.take_succ_eq_append_getElem h, beV_snoc]
  simp [h]
theorem foldl_lt : ∀ (l : List Int) (a : Nat), (∀ x ∈ l, 0 ≤ x ∧ x ≤ 255) → l.foldl (fun v x => v * 256 + x.toNat) a < (a + 1) * 256 ^ l.length
  | [], a, h => by simp
  | x :: l, a, h => by
    rw [List.foldl_cons, List.length_cons, Nat.pow_succ]
    have h1 := foldl_lt l (a * 256 + x.toNat) (fun y hy => h y (List.mem_cons_of_mem _ hy))
    have h2 := h x List.mem_cons_self
    refine Nat.lt_of_lt_of_le h1 ?_
    rw [Nat.mul_comm (256 ^ l.length) 256, ← Nat.mul_assoc]
    exact Nat.mul_le_mul_right _ (by omega)
theorem beV_lt (l : List Int) (hb : ∀ x ∈ l, 0 ≤ x ∧ x ≤ 255) : beV l < 256 ^ l.length := by
  have := foldl_lt l 0 hb
  simpa [beV] using this
theorem wraps_u64 (n : Int) (h₀ : 0 ≤ n) (h₁ : n < 2 ^ 64) : IntKind.u64.wrap n = n := by
  simp [IntKind.wrap, IntKind.signed, IntKind.bits]
  omega
theorem or_low (v x : Int) (h0 : 0 ≤ v) (h1 : v < 72057594037927936) (x0 : 0 ≤ x) (x1 : x ≤ 255) : bits .or .u64 (IntKind.u64.wrap (v * 256)) (IntKind.u64.wrap x) = v * 256 + x := by
  rw [wraps_u64 _ (by omega) (by omega), wraps_u64 _ (by omega) (by omega)]
  exact bits_join .u64 64 (by decide) wraps_u64 8 (v * 256) x (by omega) (by omega) (by omega) x0 (by omega) (by omega)
def numP (l : List Int) (bad : Bool) (size most : Nat) : Nat × List Int × Bool :=
  if most < beV (takeP l bad size).1 then (0, (takeP l bad size).2.1, true) else (beV (takeP l bad size).1, (takeP l bad size).2.1, (takeP l bad size).2.2)
def NumQ (w0 w : World) (g : Nat) (r : Nat × List Int × Bool) (e : Ending) (w' : World) : Prop :=
  e = .returned (.int .i64 r.1) ∧ Rd w0 w' g r.2.1 r.2.2 ∧ Kept w w' (fun k => k = g) ∧ Below w0.heap.size w0 w'
set_option maxHeartbeats 1000000 in
set_option maxRecDepth 100000 in
theorem rnum_calls (w0 w : World) (g : Nat) (l : List Int) (bad : Bool) (size most : Nat) (hB : Below w0.heap.size w0 w) (hg : w0.heap.size ≤ g) (h : Rd w0 w g l bad) (hby : ∀ x ∈ l, 0 ≤ x ∧ x ≤ 255) (hs : size ≤ 8) (hm : most ≤ 9223372036854775807) :
    Calls Try.prog 29 #[.pointer (some ⟨g, 0, none⟩), .int .i64 size, .int .i64 most] w (NumQ w0 w g (numP l bad size most)) := by
  have HR := Aside0.mk h
  have HB := Aside0.mk hB
  have HG := Aside0.mk hg
  have HBY := Aside0.mk hby
  have HS := Aside0.mk hs
  have HM := Aside0.mk hm
  obtain ⟨t, ht⟩ : ∃ t, t = takeP l bad size := ⟨_, rfl⟩
  obtain ⟨r, hr⟩ : ∃ r, r = numP l bad size most := ⟨_, rfl⟩
  rw [← hr]
  have Hr := Aside0.mk hr
  have Ht := Aside0.mk ht
  clear h hB hg hby hs hm ht hr
  go_enter Try.func29, Try.ntmps29
  go_wp2_with fail
  refine (take_calls w0 w g l bad size HB.out HG.out HR.out).mono ?_
  rw [← Ht.out]
  rintro e w1 ⟨A, c, rfl, hc, hC, hR, hK, hb⟩
  have HC := Aside0.mk hC
  have HR1 := Aside0.mk hR
  have HK1 := Aside0.mk hK
  have HB1 := Aside0.mk hb
  obtain ⟨n, hn⟩ : ∃ n, n = t.1.length := ⟨_, rfl⟩
  rw [← hn] at hc ⊢
  have HN := Aside0.mk hn
  clear hC hR hK hb hn
  have hn8 : n ≤ 8 := by rw [HN.out, Ht.out]; exact takeP_len HS.out
  have htb : ∀ x ∈ t.1, 0 ≤ x ∧ x ≤ 255 := by rw [Ht.out]; exact takeP_bytes HBY.out
  have HTB := Aside0.mk htb
  clear htb
  go_wp2_with fail
  go_loopg [7, 14] 8 (fun gk v7 v14 wr => ∃ (i : Nat) (v : Int), v7 = .int .u64 v ∧ v14 = .int .i64 i ∧ Aside0 (v = ((beV (t.1.take i) : Nat) : Int)) ∧ Aside0 (i ≤ n) ∧ Aside0 (n - i ≤ gk) ∧ Aside0 (wr = w1))
  case atStart => exact ⟨0, 0, rfl, rfl, ⟨rfl⟩, ⟨by omega⟩, ⟨by omega⟩, ⟨rfl⟩⟩
  case round =>
    obtain ⟨i, v, rfl, rfl, HV, HI, HGK, HW⟩ := hrel
    obtain rfl := HW.out
    have hi := HI.out
    by_cases hlt : i < n
    · have l1 : decide (i < n) = true := decide_eq_true hlt
      have l2 : (i : Int) < (n : Int) := by omega
      obtain ⟨ad, hA1, hcell⟩ := Kd.at_int HC.out (i : Int) (by omega) (by rw [← HN.out]; omega)
      subst hA1
      have hc2 : wr.cell? (ad.add i) = some (.int .u8 (t.1.getD i 0)) := (HB1.out.cell (World.block_lt_of_cell? _ _ hcell)).trans hcell
      obtain ⟨x, hx⟩ : ∃ x, x = t.1.getD i 0 := ⟨_, rfl⟩
      rw [← hx] at hc2
      have hxb : 0 ≤ x ∧ x ≤ 255 := by
        rw [hx, List.getD_eq_getElem?_getD, List.getElem?_eq_getElem (by rw [← HN.out]; exact hlt)]
        exact HTB.out _ (List.getElem_mem _)
      have hv : 0 ≤ v ∧ v < 72057594037927936 := by
        have h1 := beV_lt (t.1.take i) (fun y hy => HTB.out y (List.mem_of_mem_take hy))
        have h2 : (256 : Nat) ^ (t.1.take i).length ≤ 256 ^ 7 := Nat.pow_le_pow_right (by decide) (by rw [List.length_take]; omega)
        rw [HV.out]
        have h3 : (256 : Nat) ^ 7 = 72057594037927936 := by decide
        omega
      have ho := or_low v x hv.1 hv.2 hxb.1 hxb.2
      have HX := Aside0.mk hx
      have HXB := Aside0.mk hxb
      clear hx hxb hv hcell
      go_wp2
      go_roundg (n - (i + 1))
      case measure => have := HGK.out; omega
      case rel =>
        refine ⟨i + 1, v * 256 + x, by first | rfl | rw [ho], by go_num, ⟨?_⟩, ⟨by omega⟩, ⟨Nat.le_refl _⟩, ⟨rfl⟩⟩
        rw [beV_take _ _ (by rw [← HN.out]; exact hlt), ← HX.out, ← HV.out.symm]
        have h1 := HXB.out
        have h2 := HV.out
        omega
    · have l1 : decide (i < n) = false := decide_eq_false hlt
      have hin : t.1.take i = t.1 := List.take_of_length_le (by rw [← HN.out]; omega)
      have hv : v = ((beV t.1 : Nat) : Int) := by rw [HV.out, hin]
      have hmw : IntKind.u64.wrap (most : Int) = most := wraps_u64 _ (by omega) (by have := HM.out; omega)
      have hr1 : r = if most < beV t.1 then (0, t.2.1, true) else (beV t.1, t.2.1, t.2.2) := by rw [Hr.out, numP, ← Ht.out]
      by_cases hbig : most < beV t.1
      · rw [if_pos hbig] at hr1
        have l3 : decide ((most : Int) < v) = true := decide_eq_true (by omega)
        have fin : NumQ w0 w g r (.returned (.int .i64 0)) (wr.setCell ⟨g, 1, none⟩ (.bool true)) := by
          rw [hr1]
          exact ⟨rfl, HR1.out.set, HK1.out.setCell (p := ⟨g, 1, none⟩) (.inl rfl) _, HB1.out.setCell HG.out _⟩
        have FIN := Aside0.mk fin
        obtain ⟨A', k', c', hb', _⟩ := HR1.out
        have f1 := blk_frozen hb' 1
        have m1 : wr.cell? ⟨g, 1, none⟩ = some (.bool t.2.2) := blk_cell hb' 1
        clear hr1 fin hin hv hb'
        go_wp2
        go_ret
        exact FIN.out
      · rw [if_neg hbig] at hr1
        have l3 : decide ((most : Int) < v) = false := decide_eq_false (by omega)
        have hvw : IntKind.i64.wrap v = v := by rw [IntKind.wrap_i64]; have := HM.out; omega
        have fin : NumQ w0 w g r (.returned (.int .i64 v)) wr := by
          rw [hr1, hv]
          exact ⟨rfl, HR1.out, HK1.out, HB1.out⟩
        have FIN := Aside0.mk fin
        clear hr1 fin hin hv
        go_wp2
        go_ret
        exact FIN.out
end Go.Proofs.Ytbemfgpdfacdpaa.Ms
namespace Go.Proofs.Ytbemfgpdfacdpaa.Ms
open Go.RowKit Go.Proofs.YtbemfgpdfacdpaaW.PrintWords Go.Proofs.YtbemfgpdfacdpaaW.PrintLast Go.Proofs.YtbemfgpdfacdpaaW.PrintMore
open Go.Proofs.Ytbemfgpdfacdpaa.QT (OwnAt)
set_option linter.unusedVariables false
set_option linter.unusedSimpArgs false
/-- What a writer's call keeps: what is elder than its block, and what is no row of bytes. -/
structure WK (w w' : World) (g : Nat) : Prop where
  os : w'.os = w.os
  tape : w'.tape = w.tape
  output : w'.output = w.output
  size : w.heap.size ≤ w'.heap.size
  block : ∀ k, k < w.heap.size → k ≠ g → (k < g ∨ ∃ cs t fr, w.heap[k]? = some (.cells cs t fr) ∧ t ≠ 5) → w'.heap[k]? = w.heap[k]?
theorem WK.refl (w : World) (g : Nat) : WK w w g := ⟨rfl, rfl, rfl, Nat.le_refl _, fun _ _ _ _ => rfl⟩
theorem WK.trans {w w1 w2 : World} {g : Nat} (h : WK w w1 g) (k : WK w1 w2 g) : WK w w2 g :=
  ⟨k.os.trans h.os, k.tape.trans h.tape, k.output.trans h.output, Nat.le_trans h.size k.size, fun i hi hg hc => by
    have h1 := h.block i hi hg hc
    refine (k.block i (Nat.lt_of_lt_of_le hi h.size) hg ?_).trans h1
    rcases hc with hc | ⟨cs, t, fr, h2, h3⟩
    · exact .inl hc
    · exact .inr ⟨cs, t, fr, h1.trans h2, h3⟩⟩
theorem WK.of_below {w w' : World} {g : Nat} (h : Below w.heap.size w w') : WK w w' g := ⟨h.os, h.tape, h.output, h.size, fun i hi _ _ => h.block i hi⟩
theorem WK.alloc {w w' : World} {g : Nat} (h : WK w w' g) (o : Obj) : WK w (w'.alloc o) g := h.trans (.of_below (below_alloc (Below.refl _ _) o))
theorem WK.drewN {w w' : World} {g : Nat} (h : WK w w' g) (n : Nat) : WK w (w'.drewN n) g := h.trans (.of_below (pw_below_drewN (Below.refl _ _) n))
theorem WK.set {w w' : World} {g : Nat} (h : WK w w' g) (j : Nat) (u : Value) : WK w (w'.setCell ⟨g, j, none⟩ u) g :=
  h.trans ⟨rfl, rfl, rfl, by simp [World.setCell], fun i _ hg _ => Below.heap_setCell w' ⟨g, j, none⟩ u i hg⟩
theorem WK.below {w w' : World} {g : Nat} (h : WK w w' g) (hg : g ≤ w.heap.size) : Below g w w' := ⟨h.os, h.tape, h.output, h.size, fun i hi => h.block i (by omega) (by omega) (.inl hi)⟩
theorem WK.blk {w w' : World} {g k : Nat} {cs : Array Value} {t : TypeId} {fr : Nat × Nat} (h : WK w w' g) (hk : w.heap[k]? = some (.cells cs t fr)) (hne : k ≠ g) (ht : t ≠ 5) : w'.heap[k]? = some (.cells cs t fr) :=
  (h.block k (blk_lt hk) hne (.inr ⟨cs, t, fr, hk, ht⟩)).trans hk
theorem WK.grown {w w' : World} {g : Nat} {A : Option Addr} {n c : Nat} {xs : List Value} (hO : OwnAt w (g + 1) 5 (.slice A n c) xs) (hA : xs = [] → A = none) (hg : w.grownBy w' (Value.slice A n c).ownBlock) : WK w w' g :=
  ⟨hg.os, hg.tape, hg.output, hg.size, fun i hi hne hc => hg.block i hi (fun he => by
    have h1 := hO.base_le i he.symm
    rcases hc with hc | ⟨cs, t, fr, h2, h3⟩
    · omega
    · obtain ⟨A', c', hv, h4, _, _, h5, h6⟩ := hO
      cases hv
      cases xs with
      | nil => rw [hA rfl] at he; cases he
      | cons x xs =>
        obtain ⟨b, off, cs', hA', _, h7, _⟩ := h5 (Nat.lt_of_lt_of_le (Nat.succ_pos _) h4)
        rw [hA'] at he
        cases he
        rw [h7] at h2
        cases h2
        exact h3 rfl)⟩
def wnum (v : Int) : Nat → List Int
  | 0 => []
  | i + 1 => (v % 18446744073709551616 / 256 ^ i) % 256 :: wnum v i
/-- The writer at block g: its bytes (of its own), whether it is bad. -/
def Wr (w : World) (g : Nat) (l : List Int) (bad : Bool) : Prop :=
  ∃ A n c, w.heap[g]? = some (.cells #[.slice A n c, .bool bad] 51 (0, 0)) ∧ n = l.length ∧ (l = [] → A = none) ∧ OwnAt w (g + 1) 5 (.slice A n c) (nums .u8 l)
theorem infoB : (Try.prog.info? 5).map (fun i => (i.zero, i.size, i.bytes)) = some (some (.int .u8 0), 1, 1) := by kernel_rfl
theorem info_parts {P : Program} {e : TypeId} {z : Value} {s b : Nat} (h : (P.info? e).map (fun i => (i.zero, i.size, i.bytes)) = some (some z, s, b)) : ∃ i, P.info? e = some i ∧ i.zero = some z ∧ i.size = s ∧ i.bytes = b := by
  cases hi : P.info? e with
  | none => rw [hi] at h; cases h
  | some i => rw [hi] at h; simp only [Option.map_some, Option.some.injEq, Prod.mk.injEq] at h; exact ⟨i, rfl, h.1, h.2.1, h.2.2⟩
theorem shr_run (v : Int) (j : Nat) (hj : j ≤ 7) (w : World) : (Op.shift BinOp.shr IntKind.u64 (IntKind.u64.wrap v) IntKind.i64 (wrap64 (8 * (j : Int)))).run Try.prog w = .ok (.int .u64 (v % 18446744073709551616 / 256 ^ j)) w := by
  have e1 : wrap64 (8 * (j : Int)) = 8 * (j : Int) := by unfold wrap64; omega
  have e2 : IntKind.u64.wrap v = v % 18446744073709551616 := by simp [IntKind.wrap, IntKind.signed, IntKind.bits]
  rw [e1, e2]
  unfold Op.shift
  rw [if_neg (by omega)]
  have e3 : min (8 * (j : Int)).toNat IntKind.u64.bits = 8 * j := by
    rw [show (8 * (j : Int)).toNat = 8 * j by omega, show IntKind.u64.bits = 64 from rfl]
    omega
  simp only [e3]
  have e4 : (v % 18446744073709551616).fdiv (2 ^ (8 * j)) = v % 18446744073709551616 / 256 ^ j := by
    rw [Int.fdiv_eq_ediv_of_nonneg _ (Int.pow_nonneg (by decide)), Int.pow_mul]
    rfl
  rw [e4]
  rfl
theorem byte_run (x : Int) (w : World) : (convert 61 5 (.int .u64 x)).run Try.prog w = .ok (.int .u8 (x % 256)) w := by
  have e : ∀ x, IntKind.u8.wrap x = x % 256 := fun x => by simp [IntKind.wrap, IntKind.signed, IntKind.bits]
  go_simp
theorem wnum_length (v : Int) : ∀ n, (wnum v n).length = n
  | 0 => rfl
  | n + 1 => by rw [wnum, List.length_cons, wnum_length v n]
def wn3.T3 : Bool × List (List Nat × List Nat) := (true, [([], []), ([], []), ([1], [1]), ([2], [2]), ([3], [3]), ([], []), ([5], [5]), ([], []), ([7], [7]), ([6, 8], [6, 8]), ([9], [9]), ([10], [10]), ([4, 11], [4, 11]), ([0, 0, 1, 2, 3, 4, 5, 6, 7, 8, 9, 10, 11, 12], [0]), ([13, 0, 1, 2, 3, 4, 5, 6, 7, 8, 9, 10, 11, 12], [13]), ([14, 12, 12, 0, 1, 2, 3, 4, 5, 6, 7, 8, 9, 10, 11, 12], [12, 14])])
def wn3.B3 : List Nat := [0, 0, 2, 6, 14, 0, 32, 0, 128, 480, 992, 2016, 4094, 8191, 16383, 32767]
theorem wn3.tab3 : rtab .any (opsOf Try.f17 3) = wn3.T3 := by kernel_rfl
theorem wn3.bits3 : waitsOk wn3.T3.2 wn3.B3 = true := by kernel_rfl
set_option maxHeartbeats 1000000 in
set_option maxRecDepth 100000 in
theorem wnum_calls (w : World) (g : Nat) (l : List Int) (bad : Bool) (v : Int) (size : Nat) (h : Wr w g l bad) (hs : size ≤ 8) (hl : l.length ≤ 140737488350000) :
    Calls Try.prog 17 #[.pointer (some ⟨g, 0, none⟩), .int .i64 v, .int .i64 size] w fun e w' => e = .returned (.tuple #[]) ∧ Wr w' g (l ++ wnum v size) bad ∧ WK w w' g := by
  have HR := Aside0.mk h
  have HS := Aside0.mk hs
  have HL := Aside0.mk hl
  clear h hs hl
  go_enter Try.func17, Try.ntmps17
  have hs8 := HS.out
  go_wp2_with fail
  go_loopg [6] 8 (fun gk v6 wr => ∃ (k : Nat) (acc : List Int), v6 = .int .i64 ((k : Int) - 1) ∧ Aside0 (k ≤ 8) ∧ Aside0 (k ≤ gk) ∧ Aside0 (acc ++ wnum v k = l ++ wnum v size) ∧ Aside0 (Wr wr g acc bad) ∧ Aside0 (WK w wr g))
  case atStart => exact ⟨size, l, by first | go_num | (rw [show wrap64 ((size : Int) - 1) = (size : Int) - 1 by unfold wrap64; omega]), HS, ⟨by omega⟩, ⟨rfl⟩, HR, ⟨WK.refl _ _⟩⟩
  case round =>
    clear HR
    obtain ⟨k, acc, rfl, HK8, HGK, HA, HR, HW⟩ := hrel
    have hk8 := HK8.out
    by_cases hlt : 0 < k
    · have l1 : decide ((0 : Int) ≤ (k : Int) - 1) = true := decide_eq_true (by omega)
      obtain ⟨i, hi⟩ : ∃ i : Int, i = (k : Int) - 1 := ⟨_, rfl⟩
      rw [← hi] at l1 ⊢
      have HI := Aside0.mk hi
      clear hi
      obtain ⟨A, n, c, hb, hn, hz, hO⟩ := HR.out
      obtain ⟨x, hx⟩ : ∃ x : Int, x = (v % 18446744073709551616 / 256 ^ (k - 1)) % 256 := ⟨_, rfl⟩
      obtain ⟨j, hj⟩ : ∃ j, k = j + 1 := ⟨k - 1, by omega⟩
      have hij : i = (j : Int) := by rw [HI.out, hj]; omega
      have hsh : ∀ w', (Op.shift BinOp.shr IntKind.u64 (IntKind.u64.wrap v) IntKind.i64 (wrap64 (8 * i))).run Try.prog w' = .ok (.int .u64 (v % 18446744073709551616 / 256 ^ j)) w' := fun w' => by rw [hij]; exact shr_run v j (by omega) w'
      have hcv : ∀ w', (convert 61 5 (.int .u64 (v % 18446744073709551616 / 256 ^ j))).run Try.prog w' = .ok (.int .u8 x) w' := fun w' => by rw [hx, hj]; exact byte_run _ w'
      have HJ := Aside0.mk hj
      have HIJ := Aside0.mk hij
      clear hj hij
      have HB := Aside0.mk hb
      have HN := Aside0.mk hn
      have HZ := Aside0.mk hz
      have HO := Aside0.mk hO
      have HX := Aside0.mk hx
      have HBA : Aside0 ((wr.drew.alloc (.cells #[.int .u8 x] 5)).heap[g]? = _) := ⟨blk_alloc (show wr.drew.heap[g]? = _ from hb) _⟩
      have HOA : Aside0 (OwnAt (wr.drew.alloc (.cells #[.int .u8 x] 5)) (g + 1) 5 (.slice A n c) (nums .u8 acc)) := ⟨(show OwnAt wr.drew _ _ _ _ from hO).alloc _⟩
      have HBD : Aside0 (((nums .u8 acc).length + (nums .u8 [x]).length) * 1 ≤ 140737488355328) := ⟨by
        have h1 := congrArg List.length HA.out
        rw [List.length_append, List.length_append, wnum_length, wnum_length] at h1
        have := HL.out
        rw [nums_length, nums_length]
        show (_ + 1) * 1 ≤ _
        omega⟩
      have HGS : Aside0 (g + 1 ≤ (wr.drew.alloc (.cells #[.int .u8 x] 5)).heap.size) := ⟨by have := blk_lt hb; show g + 1 ≤ (wr.drew.alloc _).heap.size; simp; omega⟩
      obtain ⟨i0, hi0, hz0, hz1, hz2⟩ := info_parts infoB
      clear hb hn hz hO hx
      go_upto_region 3 with (fail)
      refine start_ (n := 16) (S := fun w' => True) (ds := []) #[false, false, false, false, false, false, false, false, false, false, false, false, false, false, false, false] (by kernel_rfl) rfl rfl trivial (fun hHeld => ?_)
      refine with_tabW wn3.tab3 wn3.bits3 (fun HT_ HW_ => ?_)
      have C : Aside0 (wr.drew.cell? ⟨g, 0, none⟩ = some (.slice A n c)) := ⟨blk_cell (show wr.drew.heap[g]? = _ from HB.out) 0⟩
      have P0 := ()
      refine pure_ (i := 0) (N := some 13) (v := ?_) (a' := ?_) #[true, false, false, false, false, false, false, false, false, false, false, false, false, false, false, false] rfl rfl (any_of HT_.out (by kernel_rfl)) (fun _ _ _ h => h) (Or.inl ⟨by rfl, ?_⟩) ?_ ?_
      rotate_left
      · intro w'
        go_simp
        with_reducible rfl
      rotate_left
      · simp only [Act.put, List.setIfInBounds_toArray, List.set_cons_zero, List.set_cons_succ, i64_w, i32_w]
        rfl
      refine pure_ (i := 1) (N := some 14) (v := ?_) (a' := ?_) #[true, true, false, false, false, false, false, false, false, false, false, false, false, false, false, false] rfl rfl (any_of HT_.out (by kernel_rfl)) (fun _ _ _ h => h) (Or.inl ⟨by rfl, ?_⟩) ?_ ?_
      rotate_left
      · intro w'
        go_simp
        with_reducible rfl
      rotate_left
      · simp only [Act.put, List.setIfInBounds_toArray, List.set_cons_zero, List.set_cons_succ, i64_w, i32_w]
        rfl
      refine pure_ (i := 2) (N := some 15) (v := ?_) (a' := ?_) #[true, true, true, false, false, false, false, false, false, false, false, false, false, false, false, false] rfl rfl (any_of HT_.out (by kernel_rfl)) (fun _ _ _ h => h) (Or.inl ⟨by rfl, ?_⟩) ?_ ?_
      rotate_left
      · intro w'
        go_simp
        with_reducible rfl
      rotate_left
      · simp only [Act.put, List.setIfInBounds_toArray, List.set_cons_zero, List.set_cons_succ, i64_w, i32_w]
        rfl
      refine pure_ (i := 3) (N := some 16) (v := ?_) (a' := ?_) #[true, true, true, true, false, false, false, false, false, false, false, false, false, false, false, false] rfl rfl (any_of HT_.out (by kernel_rfl)) (fun _ _ _ h => h) (Or.inl ⟨by rfl, ?_⟩) ?_ ?_
      rotate_left
      · intro w'
        go_simp
        with_reducible rfl
      rotate_left
      · simp only [Act.put, List.setIfInBounds_toArray, List.set_cons_zero, List.set_cons_succ, i64_w, i32_w]
        rfl
      refine pure_ (i := 5) (N := some 18) (v := ?_) (a' := ?_) #[true, true, true, true, false, true, false, false, false, false, false, false, false, false, false, false] rfl rfl (any_of HT_.out (by kernel_rfl)) (fun _ _ _ h => h) (Or.inl ⟨by rfl, ?_⟩) ?_ ?_
      rotate_left
      · intro w'
        go_simp
        with_reducible rfl
      rotate_left
      · simp only [Act.put, List.setIfInBounds_toArray, List.set_cons_zero, List.set_cons_succ, i64_w, i32_w]
        rfl
      refine pure_ (i := 6) (N := some 19) (v := ?_) (a' := ?_) #[true, true, true, true, false, true, true, false, false, false, false, false, false, false, false, false] rfl rfl (any_of HT_.out (by kernel_rfl)) (fun _ _ _ h => h) (Or.inl ⟨by rfl, ?_⟩) ?_ ?_
      rotate_left
      · intro w'
        go_simp
        with_reducible rfl
      rotate_left
      · simp only [Act.put, List.setIfInBounds_toArray, List.set_cons_zero, List.set_cons_succ, i64_w, i32_w]
        rfl
      refine pure_ (i := 7) (N := some 20) (v := ?_) (a' := ?_) #[true, true, true, true, false, true, true, true, false, false, false, false, false, false, false, false] rfl rfl (any_of HT_.out (by kernel_rfl)) (fun _ _ _ h => h) (Or.inl ⟨by rfl, ?_⟩) ?_ ?_
      rotate_left
      · intro w'
        go_simp
        with_reducible rfl
      rotate_left
      · simp only [Act.put, List.setIfInBounds_toArray, List.set_cons_zero, List.set_cons_succ, i64_w, i32_w]
        rfl
      refine pure_ (i := 8) (N := some 21) (v := ?_) (a' := ?_) #[true, true, true, true, false, true, true, true, true, false, false, false, false, false, false, false] rfl rfl (any_of HT_.out (by kernel_rfl)) (fun _ _ _ h => h) (Or.inl ⟨by rfl, ?_⟩) ?_ ?_
      rotate_left
      · intro w'
        go_simp
        with_reducible rfl
      rotate_left
      · simp only [Act.put, List.setIfInBounds_toArray, List.set_cons_zero, List.set_cons_succ, i64_w, i32_w]
        rfl
      refine pure_ (i := 9) (N := some 22) (v := ?_) (a' := ?_) #[true, true, true, true, false, true, true, true, true, true, false, false, false, false, false, false] rfl rfl (any_of HT_.out (by kernel_rfl)) (fun _ _ _ h => h) (Or.inl ⟨by rfl, ?_⟩) ?_ ?_
      rotate_left
      · intro w'
        go_simp
        with_reducible rfl
      rotate_left
      · simp only [Act.put, List.setIfInBounds_toArray, List.set_cons_zero, List.set_cons_succ, i64_w, i32_w]
        rfl
      refine pure_ (i := 10) (N := some 23) (v := ?_) (a' := ?_) #[true, true, true, true, false, true, true, true, true, true, true, false, false, false, false, false] rfl rfl (any_of HT_.out (by kernel_rfl)) (fun _ _ _ h => h) (Or.inl ⟨by rfl, ?_⟩) ?_ ?_
      rotate_left
      · intro w'
        go_simp
        with_reducible rfl
      rotate_left
      · simp only [Act.put, List.setIfInBounds_toArray, List.set_cons_zero, List.set_cons_succ, i64_w, i32_w]
        rfl
      refine inv_at [4, 11, 12, 13, 14, 15] (fun a0_ b a w' => ∃ (A2 : Option Addr) (n2 : Nat) (c2 : Nat) (m12_ : Value), a = putSel a0_ b [(4, 17, .slice A n c), (11, 24, .slice (some ⟨wr.heap.size, 0, none⟩) 1 1), (12, 25, m12_), (13, 26, .pointer (some ⟨g, 0, none⟩)), (14, 27, .pointer (some ⟨g, 0, none⟩))] ∧ (b 12 = false → w'.cell? ⟨g, 0, none⟩ = some (.slice A n c)) ∧ (b 11 = false → w' = wr.drew) ∧ (b 11 = true → b 12 = false → w' = wr.drew.alloc (.cells #[.int .u8 x] 5)) ∧ (b 12 = true → b 15 = false → n2 = (acc ++ [x]).length ∧ OwnAt w' (g + 1) 5 (.slice A2 n2 c2) (nums .u8 (acc ++ [x])) ∧ w'.heap[g]? = some (.cells #[.slice A n c, .bool bad] 51 (0, 0)) ∧ WK wr w' g) ∧ (b 15 = true → Wr w' g (acc ++ [x]) bad ∧ WK wr w' g) ∧ (b 12 = true → (m12_ : Value) = .slice A2 n2 c2)) HT_.out HW_.out (by kernel_rfl) (by kernel_rfl) ?_ ?_ ?_
      · exact ⟨none, 0, 0, .bool false, by simp only [putSel, Bool.false_eq_true, if_false], fun _ => C.out, fun _ => rfl, fun h_ => absurd h_ (by decide), fun h_ => absurd h_ (by decide), fun h_ => absurd h_ (by decide), fun h_ => absurd h_ (by decide)⟩
      · skip
        clear C P0
        refine steps_cons ?_ ?_
        · rintro b a w' ⟨A2, n2, c2, m12_, ha, Q_C, Q_P0, Q_P1, Q_P2, Q_P3, Q_X12_⟩ hb_ hon hoff
          refine ⟨_, rfl, fun K hK => ?_⟩
          have e16 : a.tmps[16]? = some (.pointer (some ⟨g, 0, none⟩)) := by rw [ha]; exact (putSel_off rfl).trans rfl
          replace ha := Aside0.mk ha
          have C := Aside0.mk (Q_C (hoff 12 (by kernel_rfl)))
          have m0 := C.out
          refine value_ (w1 := w') (v := .slice A n c) (by rfl) rfl ?_ ?_
          · go_simp
            (try simp only [i64_w])
            try rfl
          refine hK.out _ _ ⟨A2, n2, c2, m12_, (by rw [ha.out]; exact putSel_upk 0 hb_ rfl rfl rfl), fun _ => C.out, Q_P0, Q_P1, fun h0_ _ => absurd ((hoff 12 (by kernel_rfl)).symm.trans h0_) (by decide), fun h0_ => absurd ((hoff 15 (by kernel_rfl)).symm.trans h0_) (by decide), fun h0_ => absurd ((hoff 12 (by kernel_rfl)).symm.trans h0_) (by decide)⟩
        refine steps_cons ?_ ?_
        · rintro b a w' ⟨A2, n2, c2, m12_, ha, Q_C, Q_P0, Q_P1, Q_P2, Q_P3, Q_X12_⟩ hb_ hon hoff
          refine ⟨_, rfl, fun K hK => ?_⟩
          have e23 : a.tmps[23]? = some (.int .u8 x) := by rw [ha]; exact (putSel_off rfl).trans rfl
          replace ha := Aside0.mk ha
          have C := Aside0.mk (Q_C (hoff 12 (by kernel_rfl)))
          have P0 := Aside0.mk (Q_P0 hb_)
          have hw := P0.out
          subst hw
          refine value_ (w1 := wr.drew.alloc (.cells #[.int .u8 x] 5)) (v := .slice (some ⟨wr.heap.size, 0, none⟩) 1 1) (by rfl) rfl (by go_simp) ?_
          refine hK.out _ _ ⟨A2, n2, c2, m12_, (by rw [ha.out]; exact putSel_upk 1 hb_ rfl rfl rfl), fun _ => (blk_cell (show (wr.drew.alloc _).heap[g]? = _ from blk_alloc (show wr.drew.heap[g]? = _ from HB.out) _) 0), fun h0_ => absurd ((up_self b 11).symm.trans h0_) (by decide), fun _ _ => rfl, fun h0_ _ => absurd ((hoff 12 (by kernel_rfl)).symm.trans h0_) (by decide), fun h0_ => absurd ((hoff 15 (by kernel_rfl)).symm.trans h0_) (by decide), fun h0_ => absurd ((hoff 12 (by kernel_rfl)).symm.trans h0_) (by decide)⟩
        refine steps_cons ?_ ?_
        · rintro b a w' ⟨A2, n2, c2, m12_, ha, Q_C, Q_P0, Q_P1, Q_P2, Q_P3, Q_X12_⟩ hb_ hon hoff
          refine ⟨_, rfl, fun K hK => ?_⟩
          have e17 : a.tmps[17]? = some (.slice A n c) := by rw [ha]; exact putSel_on (e := (4, 17, .slice A n c)) 0 rfl rfl (hon 4 (by kernel_rfl)) rfl
          have e24 : a.tmps[24]? = some (.slice (some ⟨wr.heap.size, 0, none⟩) 1 1) := by rw [ha]; exact putSel_on (e := (11, 24, .slice (some ⟨wr.heap.size, 0, none⟩) 1 1)) 1 rfl rfl (hon 11 (by kernel_rfl)) rfl
          replace ha := Aside0.mk ha
          have C := Aside0.mk (Q_C hb_)
          have P1 := Aside0.mk (Q_P1 (hon 11 (by kernel_rfl)) hb_)
          have hw := P1.out
          subst hw
          refine QT.append_step (N := some 25) (by rfl) rfl _ _ 30 30 rfl 5 i0 (.int .u8 0) 1 Try.underlying30 hi0 hz0 rfl hz1 hz2 (eval_of e17) HOA.out _ (eval_of e24) (nums .u8 [x]) (QT.src_byte Try.underlying30 .u8 x wr.drew 5) (QT.nums_one _ _) HBD.out (by decide) HGS.out ?_
          intro v2 w2 hO2 hG2 hv2
          obtain ⟨A2_, c2_, e2_, hl2_, _⟩ := hO2.slice
          rw [← nums_append, nums_length] at e2_
          subst e2_
          rw [← nums_append] at hO2
          refine hK.out _ _ ⟨A2_, (acc ++ [x]).length, c2_, (.slice A2_ (acc ++ [x]).length c2_), (by rw [ha.out]; exact putSel_upk 2 hb_ rfl rfl rfl), fun h0_ => absurd ((up_self b 12).symm.trans h0_) (by decide), fun h0_ => absurd ((hon 11 (by kernel_rfl)).symm.trans h0_) (by decide), fun _ h1_ => absurd ((up_self b 12).symm.trans h1_) (by decide), fun _ _ => ⟨rfl, hO2, (hG2.block _ (blk_lt HBA.out) (by intro he; have := HO.out.base_le _ he.symm; omega)).trans HBA.out, ((WK.refl wr g).trans (.of_below (below_drew (Below.refl _ _)))).alloc _ |>.trans (WK.grown HOA.out (fun h => HZ.out (by simpa [nums] using h)) hG2)⟩, fun h0_ => absurd ((hoff 15 (by kernel_rfl)).symm.trans h0_) (by decide), fun _ => rfl⟩
        refine steps_cons ?_ ?_
        · rintro b a w' ⟨A2, n2, c2, m12_, ha, Q_C, Q_P0, Q_P1, Q_P2, Q_P3, Q_X12_⟩ hb_ hon hoff
          refine ⟨_, rfl, fun K hK => ?_⟩
          have e13 : a.tmps[13]? = some (.pointer (some ⟨g, 0, none⟩)) := by rw [ha]; exact (putSel_off rfl).trans rfl
          replace ha := Aside0.mk ha
          have P2 := Aside0.mk (Q_P2 (hon 12 (by kernel_rfl)) (hoff 15 (by kernel_rfl)))
          refine value_ (w1 := w') (v := .pointer (some ⟨g, 0, none⟩)) (by rfl) rfl ?_ ?_
          · go_simp
            (try simp only [i64_w])
            try rfl
          refine hK.out _ _ ⟨A2, n2, c2, m12_, (by rw [ha.out]; exact putSel_upk 3 hb_ rfl rfl rfl), fun h0_ => absurd ((hon 12 (by kernel_rfl)).symm.trans h0_) (by decide), fun h0_ => absurd ((hon 11 (by kernel_rfl)).symm.trans h0_) (by decide), fun _ h1_ => absurd ((hon 12 (by kernel_rfl)).symm.trans h1_) (by decide), Q_P2, fun h0_ => absurd ((hoff 15 (by kernel_rfl)).symm.trans h0_) (by decide), Q_X12_⟩
        refine steps_cons ?_ ?_
        · rintro b a w' ⟨A2, n2, c2, m12_, ha, Q_C, Q_P0, Q_P1, Q_P2, Q_P3, Q_X12_⟩ hb_ hon hoff
          refine ⟨_, rfl, fun K hK => ?_⟩
          have e26 : a.tmps[26]? = some (.pointer (some ⟨g, 0, none⟩)) := by rw [ha]; exact putSel_on (e := (13, 26, .pointer (some ⟨g, 0, none⟩))) 3 rfl rfl (hon 13 (by kernel_rfl)) rfl
          replace ha := Aside0.mk ha
          have P2 := Aside0.mk (Q_P2 (hon 12 (by kernel_rfl)) (hoff 15 (by kernel_rfl)))
          refine value_ (w1 := w') (v := .pointer (some ⟨g, 0, none⟩)) (by rfl) rfl ?_ ?_
          · go_simp
            (try simp only [i64_w])
            try rfl
          refine hK.out _ _ ⟨A2, n2, c2, m12_, (by rw [ha.out]; exact putSel_upk 4 hb_ rfl rfl rfl), fun h0_ => absurd ((hon 12 (by kernel_rfl)).symm.trans h0_) (by decide), fun h0_ => absurd ((hon 11 (by kernel_rfl)).symm.trans h0_) (by decide), fun _ h1_ => absurd ((hon 12 (by kernel_rfl)).symm.trans h1_) (by decide), Q_P2, fun h0_ => absurd ((hoff 15 (by kernel_rfl)).symm.trans h0_) (by decide), Q_X12_⟩
        refine steps_cons ?_ ?_
        · rintro b a w' ⟨A2, n2, c2, m12_, ha, Q_C, Q_P0, Q_P1, Q_P2, Q_P3, Q_X12_⟩ hb_ hon hoff
          refine ⟨_, rfl, fun K hK => ?_⟩
          have e27 : a.tmps[27]? = some (.pointer (some ⟨g, 0, none⟩)) := by rw [ha]; exact putSel_on (e := (14, 27, .pointer (some ⟨g, 0, none⟩))) 4 rfl rfl (hon 14 (by kernel_rfl)) rfl
          have e25 : a.tmps[25]? = some (m12_) := by rw [ha]; exact putSel_on (e := (12, 25, m12_)) 2 rfl rfl (hon 12 (by kernel_rfl)) rfl
          rw [Q_X12_ (hon 12 (by kernel_rfl))] at e25
          replace ha := Aside0.mk ha
          have P2 := Aside0.mk (Q_P2 (hon 12 (by kernel_rfl)) hb_)
          obtain ⟨p1, p2, p3, p4⟩ := P2.out
          have m0 : w'.cell? ⟨g, 0, none⟩ = some (.slice A n c) := blk_cell p3 0
          have f0 := blk_frozen p3 0
          refine skip_ (w1 := w'.setCell ⟨g, 0, none⟩ (.slice A2 n2 c2)) (by rfl) rfl (by go_simp) ?_
          refine hK.out _ _ ⟨A2, n2, c2, m12_, (by rw [ha.out]; exact putSel_none (v := undef) rfl), fun h0_ => absurd ((hon 12 (by kernel_rfl)).symm.trans h0_) (by decide), fun h0_ => absurd ((hon 11 (by kernel_rfl)).symm.trans h0_) (by decide), fun _ h1_ => absurd ((hon 12 (by kernel_rfl)).symm.trans h1_) (by decide), fun _ h1_ => absurd ((up_self b 15).symm.trans h1_) (by decide), fun _ => ⟨⟨A2, n2, c2, blk_set p3 0 _, p1, (fun h => absurd h (by simp)), p2.setCell (p := ⟨g, 0, none⟩) (by intro he; have := p2.base_le _ he; simp at this; omega) _⟩, p4.set 0 _⟩, Q_X12_⟩
        exact steps_nil
      · rintro b a w' hall ⟨A2, n2, c2, m12_, ha, Q_C, Q_P0, Q_P1, Q_P2, Q_P3, Q_X12_⟩
        clear C P0
        have hb4_ := hall 4 (by kernel_rfl)
        have hb11_ := hall 11 (by kernel_rfl)
        have hb12_ := hall 12 (by kernel_rfl)
        have hb13_ := hall 13 (by kernel_rfl)
        have hb14_ := hall 14 (by kernel_rfl)
        have hb15_ := hall 15 (by kernel_rfl)
        subst ha
        obtain rfl := Q_X12_ hb12_
        simp only [putSel, hb4_, hb11_, hb12_, hb13_, hb14_, hb15_, if_true, Act.put, List.setIfInBounds_toArray, List.set_cons_zero, List.set_cons_succ]
        clear Q_C
        clear Q_P0
        clear Q_P1
        clear Q_P2
        have P3 := Aside0.mk (Q_P3 hb15_)
        clear Q_P3
        clear hall hb4_ hb11_ hb12_ hb13_ hb14_ hb15_
        go_wp2
        have hacc : (acc ++ [x]) ++ wnum v j = l ++ wnum v size := by
          rw [← HA.out, HJ.out, wnum, HX.out, HJ.out, Nat.add_sub_cancel, List.append_assoc, List.singleton_append]
        have hw1 : WK w wr g := HW.out
        go_roundg j
        case measure => have := HGK.out; have := HJ.out; omega
        case rel =>
          have hj8 : (j : Int) ≤ 8 := by have := HJ.out; omega
          exact ⟨j, acc ++ [x], by rw [show wrap64 (i - 1) = (j : Int) - 1 by rw [HIJ.out]; unfold wrap64; omega], ⟨by omega⟩, ⟨Nat.le_refl _⟩, ⟨hacc⟩, ⟨P3.out.1⟩, ⟨hw1.trans P3.out.2⟩⟩
    · have l1 : decide ((0 : Int) ≤ (k : Int) - 1) = false := decide_eq_false (by omega)
      obtain rfl : k = 0 := by omega
      have ha : acc = l ++ wnum v size := by rw [← HA.out]; simp [wnum]
      have HAA := Aside0.mk ha
      clear ha
      go_wp2
      go_end0
      exact ⟨rfl, by rw [← HAA.out]; exact HR.out, HW.out⟩
end Go.Proofs.Ytbemfgpdfacdpaa.Ms
namespace Go.Proofs.Ytbemfgpdfacdpaa.Ms
open Go.RowKit Go.Proofs.Ytbemfgpdfacdpaa.Pr Go.Proofs.YtbemfgpdfacdpaaW.PrintWords Go.Proofs.YtbemfgpdfacdpaaW.PrintLast Go.Proofs.YtbemfgpdfacdpaaW.PrintMore
open Go.Proofs.Ytbemfgpdfacdpaa.QT (OwnAt)
set_option linter.unusedVariables false
set_option linter.unusedSimpArgs false
def wints (vs : List Int) : List Int := vs.flatMap fun v => wnum v 8
theorem wints_length : ∀ vs : List Int, (wints vs).length = 8 * vs.length
  | [] => rfl
  | v :: vs => by
    have := wints_length vs
    rw [wints] at this ⊢
    rw [List.flatMap_cons, List.length_append, wnum_length, this, List.length_cons]; omega
theorem wints_take (vs : List Int) (i : Nat) (h : i < vs.length) : wints (vs.take (i + 1)) = wints (vs.take i) ++ wnum (vs.getD i 0) 8 := by
  rw [wints, List.take_succ_eq_append_getElem h, List.flatMap_append, List.flatMap_singleton, List.getD_eq_getElem?_getD, List.getElem?_eq_getElem h]
  rfl
theorem any_take (vs : List Int) (i : Nat) (h : i < vs.length) (bad : Bool) : (bad || (vs.take (i + 1)).any (fun x => decide (x < 0))) = ((bad || (vs.take i).any (fun x => decide (x < 0))) || decide (vs.getD i 0 < 0)) := by
  rw [List.take_succ_eq_append_getElem h, List.any_append, List.getD_eq_getElem?_getD, List.getElem?_eq_getElem h]
  simp [Bool.or_assoc]
def WrQ (w : World) (g : Nat) (l : List Int) (bad : Bool) (e : Ending) (w' : World) : Prop := e = .returned (.tuple #[]) ∧ Wr w' g l bad ∧ WK w w' g
theorem Wr.setBad {w : World} {g : Nat} {l : List Int} {bad : Bool} (h : Wr w g l bad) (b : Bool) : Wr (w.setCell ⟨g, 1, none⟩ (.bool b)) g l b := by
  obtain ⟨A, n, c, h1, h2, h3, h4⟩ := h
  exact ⟨A, n, c, blk_set h1 1 _, h2, h3, h4.setCell (p := ⟨g, 1, none⟩) (by intro he; have := h4.base_le _ he; simp at this; omega) _⟩
set_option maxHeartbeats 1000000 in
set_option maxRecDepth 100000 in
theorem wints_calls (w : World) (g : Nat) (l : List Int) (bad : Bool) (A : Option Addr) (n c : Nat) (vs : List Int) (h : Wr w g l bad) (hC : ∀ W', WK w W' g → (Kd.int .i64).C W' A vs.length vs) (hn : n = vs.length) (hc : n ≤ c) (hv : n ≤ 140737488355328) (hl : l.length + 8 * n ≤ 140737488340000) :
    Calls Try.prog 18 #[.pointer (some ⟨g, 0, none⟩), .slice A n c] w (WrQ w g (l ++ wints vs) (bad || vs.any (fun x => decide (x < 0)))) := by
  have HR := Aside0.mk h
  have HC := Aside0.mk hC
  have HN := Aside0.mk hn
  have HL := Aside0.mk hl
  clear h hC hn hl
  go_enter Try.func18, Try.ntmps18
  go_wp2_with fail
  go_loopg [8] n (fun gk v8 wr => ∃ (i : Nat), v8 = .int .i64 i ∧ Aside0 (i ≤ n) ∧ Aside0 (n - i ≤ gk) ∧ Aside0 (Wr wr g (l ++ wints (vs.take i)) (bad || (vs.take i).any (fun x => decide (x < 0)))) ∧ Aside0 (WK w wr g))
  case atStart => exact ⟨0, rfl, ⟨by omega⟩, ⟨by omega⟩, ⟨by simpa [wints] using HR.out⟩, ⟨WK.refl _ _⟩⟩
  case round =>
    clear HR
    obtain ⟨i, rfl, HI, HGK, HR, HW⟩ := hrel
    have hi := HI.out
    by_cases hlt : i < n
    · have l1 : decide (i < n) = true := decide_eq_true hlt
      have l2 : (i : Int) < (n : Int) := by omega
      obtain ⟨ad, hA1, hcell⟩ := Kd.at_int (HC.out wr HW.out) (i : Int) (by omega) (by rw [← HN.out]; omega)
      subst hA1
      have hc2 : wr.cell? (ad.add i) = some (.int .i64 (vs.getD i 0)) := hcell
      have hlen : (l ++ wints (vs.take i)).length ≤ 140737488350000 := by
        rw [List.length_append, wints_length, List.length_take]
        have := HL.out; omega
      have ht := wints_take vs i (by rw [← HN.out]; exact hlt)
      have hta := any_take vs i (by rw [← HN.out]; exact hlt) bad
      obtain ⟨x, hx⟩ : ∃ x, x = vs.getD i 0 := ⟨_, rfl⟩
      rw [← hx] at hc2 ht hta
      obtain ⟨b0, hb0⟩ : ∃ b, b = (bad || (vs.take i).any (fun x => decide (x < 0))) := ⟨_, rfl⟩
      rw [← hb0] at hta
      have HR2 : Aside0 (Wr wr g (l ++ wints (vs.take i)) b0) := ⟨by rw [hb0]; exact HR.out⟩
      obtain ⟨A', n', c', hb', hrd⟩ := HR2.out
      have m1 : wr.cell? ⟨g, 1, none⟩ = some (.bool b0) := blk_cell hb' 1
      have f1 := blk_frozen hb' 1
      have HT := Aside0.mk ht
      have HTA := Aside0.mk hta
      have HLEN := Aside0.mk hlen
      clear hx hcell hb' hrd HR ht hta hb0 hlen
      cases b0
      all_goals
        go_upto_region 4 with (fail)
        generalize hwb : World.setCell wr _ _ = w2
        have HR3 : Aside0 (Wr w2 g (l ++ wints (vs.take i)) (bad || (vs.take (i + 1)).any (fun x => decide (x < 0)))) := ⟨by rw [HTA.out, ← hwb]; exact HR2.out.setBad _⟩
        have HW3 : Aside0 (WK w w2 g) := ⟨by rw [← hwb]; exact HW.out.set 1 _⟩
        clear hwb HR2 HW HTA m1 f1
        go_wp2_with fail
        refine (wnum_calls w2 g _ _ x 8 HR3.out (by decide) HLEN.out).mono ?_
        rintro e w3 ⟨rfl, hR4, hW4⟩
        rw [List.append_assoc, ← HT.out] at hR4
        have HR4 := Aside0.mk hR4
        have HW4 := Aside0.mk (HW3.out.trans hW4)
        clear hR4 hW4 HR3 HW3
        go_wp2
        go_roundg (n - (i + 1))
        case measure => have := HGK.out; omega
        case rel => exact ⟨i + 1, by first | go_num | (rw [show wrap64 ((i : Int) + 1) = ((i + 1 : Nat) : Int) by unfold wrap64; omega]), ⟨by omega⟩, ⟨Nat.le_refl _⟩, HR4, HW4⟩
    · have l1 : decide (i < n) = false := decide_eq_false hlt
      have hin : vs.take i = vs := List.take_of_length_le (by rw [← HN.out]; omega)
      have fin : WrQ w g (l ++ wints vs) (bad || vs.any (fun x => decide (x < 0))) (.returned (.tuple #[])) wr := ⟨rfl, by have := HR.out; rw [hin] at this; exact this, HW.out⟩
      have FIN := Aside0.mk fin
      clear fin hin
      go_wp2
      go_end0
      exact FIN.out
set_option maxHeartbeats 1000000 in
set_option maxRecDepth 100000 in
theorem wyes_calls (w : World) (g : Nat) (l : List Int) (bad : Bool) (y : Bool) (h : Wr w g l bad) (hl : l.length ≤ 140737488350000) :
    Calls Try.prog 19 #[.pointer (some ⟨g, 0, none⟩), .bool y] w (WrQ w g (l ++ [if y then 1 else 0]) bad) := by
  have HR := Aside0.mk h
  have HL := Aside0.mk hl
  clear h hl
  cases y
  all_goals
    go_enter Try.func19, Try.ntmps19
    go_wp2_with fail
    refine (wnum_calls w g l bad _ 1 HR.out (by decide) HL.out).mono ?_
    rintro e w2 ⟨rfl, hR, hW⟩
    have fin : WrQ w g _ bad (.returned (.tuple #[])) w2 := ⟨rfl, hR, hW⟩
    have FIN := Aside0.mk fin
    clear fin hR hW
    go_wp2
    go_end0
    exact FIN.out
def wmem (vs : List Int) : List Int := wnum vs.length 1 ++ wints vs
set_option maxHeartbeats 1000000 in
set_option maxRecDepth 100000 in
theorem wmem_calls (w : World) (g : Nat) (l : List Int) (bad : Bool) (A : Option Addr) (n c : Nat) (vs : List Int) (h : Wr w g l bad) (hC : ∀ W', WK w W' g → (Kd.int .i64).C W' A vs.length vs) (hn : n = vs.length) (hc : n ≤ c) (hv : n ≤ 140737488355328) (hl : l.length + 8 * n ≤ 140737488330000) :
    Calls Try.prog 21 #[.pointer (some ⟨g, 0, none⟩), .slice A n c] w (WrQ w g (l ++ wmem vs) ((bad || decide (9 < vs.length)) || vs.any (fun x => decide (x < 0)))) := by
  have HR := Aside0.mk h
  have HC := Aside0.mk hC
  have HN := Aside0.mk hn
  have HL := Aside0.mk hl
  obtain ⟨A', n', c', hb', hrd⟩ := h
  have m1 : w.cell? ⟨g, 1, none⟩ = some (.bool bad) := blk_cell hb' 1
  have f1 := blk_frozen hb' 1
  clear hC hn hl hb' hrd
  have HD : Aside0 (decide ((9 : Int) < (n : Int)) = decide (9 < vs.length)) := ⟨by rw [HN.out]; exact decide_eq_decide.2 (by omega)⟩
  obtain ⟨nb, hnb⟩ : ∃ nb, nb = (bad || decide (9 < vs.length)) := ⟨_, rfl⟩
  rw [← hnb]
  have HNB := Aside0.mk hnb
  clear hnb
  cases bad
  all_goals
    go_enter Try.func21, Try.ntmps21
    go_upto_region 1 with (fail)
    generalize hwb : World.setCell w _ _ = w2
    have HR2 : Aside0 (Wr w2 g l nb) := ⟨by rw [HNB.out, ← hwb, ← HD.out]; exact HR.out.setBad _⟩
    have HW2 : Aside0 (WK w w2 g) := ⟨by rw [← hwb]; exact (WK.refl _ _).set 1 _⟩
    clear hwb HR m1 f1
    go_wp2_with fail
    refine (wnum_calls w2 g l _ n 1 HR2.out (by decide) (by have := HL.out; omega)).mono ?_
    rintro e w3 ⟨rfl, hR3, hW3⟩
    have HR3 := Aside0.mk hR3
    have HW3 := Aside0.mk (HW2.out.trans hW3)
    clear hR3 hW3 HR2 HW2
    go_wp2_with fail
    refine (wints_calls w3 g _ _ A n c vs HR3.out (fun W' hW => HC.out W' (HW3.out.trans hW)) HN.out hc hv (by rw [List.length_append, wnum_length]; have := HL.out; omega)).mono ?_
    rintro e w4 ⟨rfl, hR4, hW4⟩
    rw [List.append_assoc, HN.out] at hR4
    have fin : WrQ w g (l ++ wmem vs) _ (.returned (.tuple #[])) w4 := ⟨rfl, hR4, HW3.out.trans hW4⟩
    have FIN := Aside0.mk fin
    clear fin hR4 hW4
    go_wp2
    go_end0
    exact FIN.out
theorem bytesOf_length (s : ByteArray) : (bytesOf s).length = s.size := by simp [bytesOf]
theorem src_string (s : ByteArray) (w : World) : Src Try.prog 1 9 (.string s) (nums .u8 (bytesOf s)).length (nums .u8 (bytesOf s)) w := by
  have q := Src.ofString (P := Try.prog) (w := w) Try.underlying9 s
  have e : byteCells s = nums .u8 (bytesOf s) := by simp [byteCells, nums, bytesOf]
  rw [nums_length, bytesOf_length, ← e]
  exact q
def wtext (s : ByteArray) : List Int := wnum s.size 4 ++ bytesOf s
set_option maxHeartbeats 1000000 in
set_option maxRecDepth 100000 in
theorem wtext_calls (w : World) (g : Nat) (l : List Int) (bad : Bool) (s : ByteArray) (most : Nat) (h : Wr w g l bad) (hs : s.size ≤ 140737488300000) (hl : l.length + s.size ≤ 140737488330000) :
    Calls Try.prog 22 #[.pointer (some ⟨g, 0, none⟩), .string s, .int .i64 most] w (WrQ w g (l ++ wtext s) (bad || decide (most < s.size))) := by
  have HR := Aside0.mk h
  have HL := Aside0.mk hl
  obtain ⟨A', n', c', hb', hrd⟩ := h
  have m1 : w.cell? ⟨g, 1, none⟩ = some (.bool bad) := blk_cell hb' 1
  have f1 := blk_frozen hb' 1
  obtain ⟨nb, hnb⟩ : ∃ nb, nb = (bad || decide (most < s.size)) := ⟨_, rfl⟩
  rw [← hnb]
  have HNB := Aside0.mk hnb
  clear hl hb' hrd hnb
  cases bad
  all_goals
    go_enter Try.func22, Try.ntmps22
    go_upto_region 1 with (fail)
    generalize hwb : World.setCell w _ _ = w2
    have HR2 : Aside0 (Wr w2 g l nb) := ⟨by rw [HNB.out, ← hwb]; exact HR.out.setBad _⟩
    have HW2 : Aside0 (WK w w2 g) := ⟨by rw [← hwb]; exact (WK.refl _ _).set 1 _⟩
    clear hwb HR m1 f1
    go_wp2_with fail
    refine (wnum_calls w2 g l _ s.size 4 HR2.out (by decide) (by have := HL.out; omega)).mono ?_
    rintro e w3 ⟨rfl, hR3, hW3⟩
    have HW3 := Aside0.mk (HW2.out.trans hW3)
    obtain ⟨acc, hacc⟩ : ∃ acc, acc = l ++ wnum s.size 4 := ⟨_, rfl⟩
    rw [← hacc] at hR3
    have HACC := Aside0.mk hacc
    obtain ⟨A, n, c, hb, hn, hz, hO⟩ := hR3
    have m0 : w3.cell? ⟨g, 0, none⟩ = some (.slice A n c) := blk_cell hb 0
    have f0 := blk_frozen hb 0
    have HB := Aside0.mk hb
    have HN := Aside0.mk hn
    have HZ := Aside0.mk hz
    have HO := Aside0.mk hO
    have HS : Aside0 (Src Try.prog 1 9 (.string s) (nums .u8 (bytesOf s)).length (nums .u8 (bytesOf s)) w3) := ⟨src_string s w3⟩
    obtain ⟨i0, hi0, hz0, hz1, hz2⟩ := info_parts infoB
    clear hW3 HR2 HW2 hb hn hz hO hacc
    go_wp2_with (at_builtin; refine QT.wpList_append_at rfl _ _ 30 9 rfl 5 i0 (.int .u8 0) 1 Try.underlying30 hi0 hz0 rfl hz1 hz2 rfl HO.out _ rfl (nums .u8 (bytesOf s)) HS.out (QT.nums_one _ _) (by rw [nums_length, nums_length, bytesOf_length, HACC.out, List.length_append, wnum_length]; have := HL.out; omega) (by decide) ?_ ?_)
    · have := blk_lt HB.out; omega
    · intro v4 w4 hO4 hG4 hv4
      have hb4 := (hG4.block _ (blk_lt HB.out) (by intro he; have := HO.out.base_le _ he.symm; omega)).trans HB.out
      have hW4 := WK.grown HO.out (fun h => HZ.out (by simpa [nums] using h)) hG4
      obtain ⟨A4, c4, e4, hl4, _⟩ := hO4.slice
      rw [← nums_append, nums_length] at e4
      rw [← nums_append] at hO4
      obtain ⟨n4, hn4⟩ : ∃ n4, n4 = (acc ++ bytesOf s).length := ⟨_, rfl⟩
      rw [← hn4] at e4
      subst e4
      have m4 : w4.cell? ⟨g, 0, none⟩ = some (.slice A n c) := blk_cell hb4 0
      have f4 := blk_frozen hb4 0
      have hz4 : acc ++ bytesOf s = [] → A4 = none := fun h => absurd (congrArg List.length h) (by rw [HACC.out, List.length_append, List.length_append, wnum_length]; simp)
      have fin : WrQ w g (l ++ wtext s) nb (.returned (.tuple #[])) (w4.setCell ⟨g, 0, none⟩ (.slice A4 n4 c4)) := ⟨rfl, by
        rw [wtext, ← List.append_assoc, ← HACC.out]
        exact ⟨A4, n4, c4, blk_set hb4 0 _, hn4, hz4, hO4.setCell (p := ⟨g, 0, none⟩) (by intro he; have := hO4.base_le _ he; simp at this; omega) _⟩, (HW3.out.trans hW4).set 0 _⟩
      have FIN := Aside0.mk fin
      clear fin hz4 hn4 hO4 hG4 hv4 hb4 hW4 hl4 m0 f0
      go_wp2
      go_end0
      exact FIN.out
end Go.Proofs.Ytbemfgpdfacdpaa.Ms
namespace Go.Proofs.Ytbemfgpdfacdpaa.Ms
open Go.RowKit Go.Proofs.Ytbemfgpdfacdpaa.Pr Go.Proofs.YtbemfgpdfacdpaaW.PrintWords Go.Proofs.YtbemfgpdfacdpaaW.PrintLast Go.Proofs.YtbemfgpdfacdpaaW.PrintMore
open Go.Proofs.Ytbemfgpdfacdpaa.QT (OwnAt)
set_option linter.unusedVariables false
set_option linter.unusedSimpArgs false
def wentry (e : S46) : List Int := wints [e.f0, e.f1, e.f2] ++ (wtext e.f3 ++ wmem e.f4)
def oddE (e : S46) : Bool := [e.f0, e.f1, e.f2].any (fun x => decide (x < 0)) || (decide (4000 < e.f3.size) || (decide (9 < e.f4.length) || e.f4.any (fun x => decide (x < 0))))
def wents (es : List S46) : List Int := wnum es.length 1 ++ es.flatMap wentry
theorem flat_take (es : List S46) (i : Nat) (h : i < es.length) : (es.take (i + 1)).flatMap wentry = (es.take i).flatMap wentry ++ wentry (rd_T46 es i) := by
  rw [List.take_succ_eq_append_getElem h, List.flatMap_append, List.flatMap_singleton]
  simp [rd_T46, h]
theorem any_takeE (es : List S46) (i : Nat) (h : i < es.length) (bad : Bool) : (bad || (es.take (i + 1)).any oddE) = ((bad || (es.take i).any oddE) || oddE (rd_T46 es i)) := by
  rw [List.take_succ_eq_append_getElem h, List.any_append]
  simp [rd_T46, h, Bool.or_assoc]
theorem flat_len (es : List S46) (i : Nat) (h : i < es.length) : ((es.take i).flatMap wentry).length + (wentry (rd_T46 es i)).length ≤ (es.flatMap wentry).length := by
  have h1 : es.flatMap wentry = (es.take (i + 1)).flatMap wentry ++ (es.drop (i + 1)).flatMap wentry := by
    rw [← List.flatMap_append, List.take_append_drop]
  rw [h1, flat_take es i h]
  simp only [List.length_append]
  omega
theorem Wr.below {w w' : World} {g : Nat} {l : List Int} {bad : Bool} (h : Wr w g l bad) (hb : Below w.heap.size w w') : Wr w' g l bad := by
  obtain ⟨A, n, c, h1, h2, h3, h4⟩ := h
  exact ⟨A, n, c, blk_below h1 hb, h2, h3, h4.below hb⟩
theorem C_boxL {w : World} {b : Nat} {t : TypeId} {xs : List Int} (hb : w.heap[b]? = some (.cells (xs.map (Value.int .i64)).toArray t (0, 0))) (hl : xs.length ≤ 9) : (Kd.int .i64).C w (some ⟨b, 0, none⟩) xs.length xs := by
  refine Kd.C_of_reads (d := (0 : Int)) (h1 := fun _ => rfl) ⟨rfl, by omega, fun h0 => ⟨_, rfl, fun j hj => ?_⟩⟩
  rw [show (⟨b, 0, none⟩ : Addr).add j = ⟨b, 0 + j, none⟩ by unfold Addr.add; split <;> simp_all, Nat.zero_add]
  refine (blk_cell hb j).trans ?_
  have hj : j < xs.length := hj
  simp [hj]
theorem C_box {w : World} {b : Nat} {t : TypeId} {x0 x1 x2 : Int} (hb : w.heap[b]? = some (.cells #[.int .i64 x0, .int .i64 x1, .int .i64 x2] t (0, 0))) : (Kd.int .i64).C w (some ⟨b, 0, none⟩) [x0, x1, x2].length [x0, x1, x2] := C_boxL hb (by simp)
set_option maxHeartbeats 2000000 in
set_option maxRecDepth 100000 in
theorem wents_calls (w0 w : World) (g : Nat) (l : List Int) (bad : Bool) (A : Option Addr) (n c : Nat) (es : List S46) (h : Wr w g l bad) (hC : k46.C w0 A es.length es) (hg : w0.heap.size ≤ g) (hB : Below w0.heap.size w0 w) (hn : n = es.length) (hc : n ≤ c) (hv : n ≤ 140737488355328) (hl : l.length + (wents es).length ≤ 140737488300000) :
    Calls Try.prog 20 #[.pointer (some ⟨g, 0, none⟩), .slice A n c] w (WrQ w g (l ++ wents es) ((bad || decide (8 < es.length)) || es.any oddE)) := by
  have HR := Aside0.mk h
  have HC := Aside0.mk hC
  have HG := Aside0.mk hg
  have HB := Aside0.mk hB
  have HN := Aside0.mk hn
  have HL := Aside0.mk hl
  obtain ⟨A', n', c', hb', hrd⟩ := h
  have m1 : w.cell? ⟨g, 1, none⟩ = some (.bool bad) := blk_cell hb' 1
  have f1 := blk_frozen hb' 1
  have HD : Aside0 (decide ((8 : Int) < (n : Int)) = decide (8 < es.length)) := ⟨by rw [HN.out]; exact decide_eq_decide.2 (by omega)⟩
  obtain ⟨nb, hnb⟩ : ∃ nb, nb = (bad || decide (8 < es.length)) := ⟨_, rfl⟩
  rw [← hnb]
  have HNB := Aside0.mk hnb
  have HGW : Aside0 (g < w.heap.size) := ⟨blk_lt hb'⟩
  clear hC hg hB hn hl hb' hrd hnb
  cases bad
  all_goals
    go_enter Try.func20, Try.ntmps20
    go_upto_region 1 with (fail)
    generalize hwb : World.setCell w _ _ = w2
    have HR2 : Aside0 (Wr w2 g l nb) := ⟨by rw [HNB.out, ← hwb, ← HD.out]; exact HR.out.setBad _⟩
    have HW2 : Aside0 (WK w w2 g) := ⟨by rw [← hwb]; exact (WK.refl _ _).set 1 _⟩
    clear hwb HR m1 f1
    go_wp2_with fail
    refine (wnum_calls w2 g l _ n 1 HR2.out (by decide) (by have := HL.out; omega)).mono ?_
    rintro e w3 ⟨rfl, hR3, hW3⟩
    have HR3 := Aside0.mk hR3
    have HW3 := Aside0.mk (HW2.out.trans hW3)
    clear hR3 hW3 HR2 HW2
    go_wp2_with fail
    go_loopg [26] n (fun gk v26 wr => ∃ (i : Nat), v26 = .int .i64 i ∧ Aside0 (i ≤ n) ∧ Aside0 (n - i ≤ gk) ∧ Aside0 (Wr wr g (l ++ wnum n 1 ++ (es.take i).flatMap wentry) (nb || (es.take i).any oddE)) ∧ Aside0 (WK w wr g))
    case atStart => exact ⟨0, rfl, ⟨by omega⟩, ⟨by omega⟩, ⟨by simpa using HR3.out⟩, HW3⟩
    case round =>
      clear HR3 HW3
      obtain ⟨i, rfl, HI, HGK, HR, HW⟩ := hrel
      have hi := HI.out
      by_cases hlt : i < n
      · have l1 : decide (i < n) = true := decide_eq_true hlt
        have l2 : (i : Int) < (n : Int) := by omega
        have hCr : k46.C wr A es.length es := Kd.C_below HC.out (HB.out.trans ((HW.out.below (by have := HGW.out; omega)).mono HG.out))
        obtain ⟨ad, A4, c4, hA1, q0, q1, q2, q3, q4, q5, q6⟩ := at_T46 hCr (i : Int) (by omega) (by rw [← HN.out]; omega)
        subst hA1
        simp only [Int.toNat_natCast] at q0 q1 q2 q3 q4
        have hft := flat_take es i (by rw [← HN.out]; exact hlt)
        have hat := any_takeE es i (by rw [← HN.out]; exact hlt) nb
        have hfl := flat_len es i (by rw [← HN.out]; exact hlt)
        obtain ⟨E, hE⟩ : ∃ E, E = rd_T46 es (i : Int) := ⟨_, rfl⟩
        rw [← hE] at q0 q1 q2 q3 q4 q5 q6 hft hat hfl
        have hlen : (l ++ wnum n 1 ++ (es.take i).flatMap wentry).length + (wentry E).length ≤ 140737488300000 := by
          have := HL.out
          rw [wents, List.length_append, wnum_length] at this
          rw [List.length_append, List.length_append, wnum_length]
          omega
        obtain ⟨acc, hacc⟩ : ∃ acc, acc = l ++ wnum n 1 ++ (es.take i).flatMap wentry := ⟨_, rfl⟩
        obtain ⟨b0, hb0⟩ : ∃ b, b = (nb || (es.take i).any oddE) := ⟨_, rfl⟩
        rw [← hacc] at hlen
        have HR4 : Aside0 (Wr wr g acc b0) := ⟨by rw [hacc, hb0]; exact HR.out⟩
        have HFT : Aside0 (acc ++ wentry E = l ++ wnum n 1 ++ (es.take (i + 1)).flatMap wentry) := ⟨by rw [hft, hacc, List.append_assoc]⟩
        have HAT : Aside0 ((nb || (es.take (i + 1)).any oddE) = (b0 || oddE E)) := ⟨by rw [hat, hb0]⟩
        have HLEN := Aside0.mk hlen
        have H5 := Aside0.mk q5
        have HGR : Aside0 (g < wr.heap.size) := ⟨by have := HGW.out; have := HW.out.size; omega⟩
        have HC4 : Aside0 (∀ W', WK wr W' g → (Kd.int .i64).C W' A4 E.f4.length E.f4) := ⟨fun W' hW => by
          have hCr' : k46.C W' (some ad) es.length es := Kd.C_below HC.out (HB.out.trans (((HW.out.trans hW).below (by have := HGW.out; omega)).mono HG.out))
          obtain ⟨ad', A4', c4', hA1', _, _, _, _, q4', _, q6'⟩ := at_T46 hCr' (i : Int) (by omega) (by rw [← HN.out]; omega)
          cases hA1'
          rw [← hE] at q4' q6'
          simp only [Int.toNat_natCast] at q4'
          have hba : (ad.add (i * 5)).block < g := by
            obtain ⟨ad0, _, _, hA0, q00, _⟩ := at_T46 HC.out (i : Int) (by omega) (by rw [← HN.out]; omega)
            cases hA0
            simp only [Int.toNat_natCast] at q00
            exact Nat.lt_of_lt_of_le (World.block_lt_of_cell? _ _ q00) HG.out
          have : W'.cell? ⟨(ad.add (i * 5)).block, (ad.add (i * 5)).off + 4, none⟩ = wr.cell? ⟨(ad.add (i * 5)).block, (ad.add (i * 5)).off + 4, none⟩ := by
            have := (hW.below (by have := HGR.out; omega)).block _ hba
            simp [World.cell?, this]
          rw [this, q4] at q4'
          cases q4'
          exact q6'⟩
        obtain ⟨n4, hn4⟩ : ∃ n4, n4 = E.f4.length := ⟨_, rfl⟩
        rw [← hn4] at q4
        have HN4 := Aside0.mk hn4
        clear hft hat hfl hlen hacc hb0 hE hCr HR hn4
        go_upto_region 5 with (fail)
        generalize hwe : World.alloc wr _ = w5
        obtain ⟨ge, hge⟩ : ∃ ge, ge = wr.heap.size := ⟨_, rfl⟩
        rw [← hge]
        have HE5 : Aside0 (w5.heap[ge]? = some (.cells #[.int .i64 E.f0, .int .i64 E.f1, .int .i64 E.f2, .string E.f3, .slice A4 n4 c4] 46 (0, 0))) := ⟨by rw [← hwe, hge]; exact blk_new _ _⟩
        have HR5 : Aside0 (Wr w5 g acc b0) := ⟨by rw [← hwe]; exact HR4.out.below (below_alloc (Below.refl _ _) _)⟩
        have HW5 : Aside0 (WK wr w5 g) := ⟨by rw [← hwe]; exact (WK.refl _ _).alloc _⟩
        have HNE : Aside0 (ge ≠ g) := ⟨by have := HGR.out; omega⟩
        have p0 : w5.cell? ⟨ge, 0, none⟩ = some (.int .i64 E.f0) := blk_cell HE5.out 0
        have p1 : w5.cell? ⟨ge, 1, none⟩ = some (.int .i64 E.f1) := blk_cell HE5.out 1
        have p2 : w5.cell? ⟨ge, 2, none⟩ = some (.int .i64 E.f2) := blk_cell HE5.out 2
        have HGB : Aside0 (g < w5.heap.size) := ⟨Nat.lt_of_lt_of_le HGR.out HW5.out.size⟩
        clear hwe hge q0 q1 q2 q3 q4 HR4
        go_wp2_with fail
        have hle := HLEN.out
        rw [wentry, List.length_append, List.length_append, wints_length, wtext, List.length_append, wnum_length, bytesOf_length, wmem, List.length_append, wnum_length, wints_length] at hle
        have HLE := Aside0.mk hle
        clear hle
        refine (wints_calls _ g acc b0 (some ⟨w5.heap.size, 0, none⟩) 3 3 [E.f0, E.f1, E.f2] (HR5.out.below (below_alloc (Below.refl _ _) _)) (fun W' hW => C_box (hW.blk (blk_new w5 _) (by have := HGB.out; omega) (by decide))) rfl (by decide) (by decide) (by have := HLE.out; simp at this; omega)).mono ?_
        rintro e w6 ⟨rfl, hR6, hW6⟩
        have hW56 : WK w5 w6 g := ((WK.refl w5 g).alloc _).trans hW6
        have hE6 := hW56.blk HE5.out HNE.out (by decide)
        have HR6 := Aside0.mk hR6
        have HE6 := Aside0.mk hE6
        have HW6 := Aside0.mk (HW5.out.trans hW56)
        have p3 : w6.cell? ⟨ge, 3, none⟩ = some (.string E.f3) := blk_cell hE6 3
        clear hR6 hW6 hW56 hE6 HR5 HE5 HW5 p0 p1 p2
        go_wp2_with fail
        refine (wtext_calls w6 g _ _ E.f3 4000 HR6.out (by have := HLE.out; omega) (by rw [List.length_append, wints_length]; have := HLE.out; omega)).mono ?_
        rintro e w7 ⟨rfl, hR7, hW7⟩
        have hE7 := hW7.blk HE6.out HNE.out (by decide)
        have HR7 := Aside0.mk hR7
        have HE7 := Aside0.mk hE7
        have HW7 := Aside0.mk (HW6.out.trans hW7)
        have p4 : w7.cell? ⟨ge, 4, none⟩ = some (.slice A4 n4 c4) := blk_cell hE7 4
        clear hR7 hW7 hE7 HR6 HE6 HW6 p3
        go_wp2_with fail
        refine (wmem_calls w7 g _ _ A4 n4 c4 E.f4 HR7.out (fun W' hW => HC4.out W' (HW7.out.trans hW)) HN4.out (by rw [HN4.out]; exact H5.out) (by rw [HN4.out]; have := HLE.out; omega) (by rw [HN4.out, List.length_append, List.length_append, wints_length, wtext, List.length_append, wnum_length, bytesOf_length]; have := HLE.out; omega)).mono ?_
        rintro e w8 ⟨rfl, hR8, hW8⟩
        have hR8' : Wr w8 g (l ++ wnum n 1 ++ (es.take (i + 1)).flatMap wentry) (nb || (es.take (i + 1)).any oddE) := by
          rw [← HFT.out, HAT.out, wentry, oddE, ← List.append_assoc, ← List.append_assoc, ← Bool.or_assoc, ← Bool.or_assoc, ← Bool.or_assoc]
          exact hR8
        have HR8 := Aside0.mk hR8'
        have HW8 := Aside0.mk (HW.out.trans (HW7.out.trans hW8))
        clear hR8 hR8' hW8 HR7 HE7 HW7 p4 HFT HAT HLE HLEN HC4 HW
        go_wp2
        go_roundg (n - (i + 1))
        case measure => have := HGK.out; omega
        case rel => exact ⟨i + 1, by first | go_num | (rw [show wrap64 ((i : Int) + 1) = ((i + 1 : Nat) : Int) by unfold wrap64; omega]), ⟨by omega⟩, ⟨Nat.le_refl _⟩, HR8, HW8⟩
      · have l1 : decide (i < n) = false := decide_eq_false hlt
        have hin : es.take i = es := List.take_of_length_le (by rw [← HN.out]; omega)
        have fin : WrQ w g (l ++ wents es) (nb || es.any oddE) (.returned (.tuple #[])) wr := ⟨rfl, by have := HR.out; rw [hin, HN.out, List.append_assoc] at this; exact this, HW.out⟩
        have FIN := Aside0.mk fin
        clear fin hin
        go_wp2
        go_end0
        exact FIN.out
end Go.Proofs.Ytbemfgpdfacdpaa.Ms
namespace Go.Proofs.Ytbemfgpdfacdpaa.Ms
open Go.RowKit Go.Proofs.YtbemfgpdfacdpaaW.PrintWords Go.Proofs.YtbemfgpdfacdpaaW.PrintLast Go.Proofs.YtbemfgpdfacdpaaW.PrintMore
set_option linter.unusedVariables false
set_option linter.unusedSimpArgs false
abbrev maxI : Nat := 9223372036854775807
/-- m numbers of eight bytes. -/
def intsP (l : List Int) (bad : Bool) : Nat → List Int × List Int × Bool
  | 0 => ([], l, bad)
  | m + 1 => ((intsP l bad m).1 ++ [((numP (intsP l bad m).2.1 (intsP l bad m).2.2 8 maxI).1 : Int)], (numP (intsP l bad m).2.1 (intsP l bad m).2.2 8 maxI).2)
theorem intsP_length (l : List Int) (bad : Bool) : ∀ m, (intsP l bad m).1.length = m
  | 0 => rfl
  | m + 1 => by rw [intsP, List.length_append, intsP_length l bad m]; rfl
theorem takeP_left {l : List Int} {bad : Bool} {n : Nat} {P : Int → Prop} (h : ∀ x ∈ l, P x) : ∀ x ∈ (takeP l bad n).2.1, P x := by
  unfold takeP
  split
  · exact h
  · exact fun x hx => h x (List.mem_of_mem_drop hx)
theorem numP_left {l : List Int} {bad : Bool} {n m : Nat} {P : Int → Prop} (h : ∀ x ∈ l, P x) : ∀ x ∈ (numP l bad n m).2.1, P x := by
  unfold numP
  split <;> exact takeP_left h
theorem numP_le (l : List Int) (bad : Bool) (n m : Nat) : (numP l bad n m).1 ≤ m := by
  unfold numP
  split <;> simp <;> omega
theorem intsP_left {l : List Int} {bad : Bool} {P : Int → Prop} (h : ∀ x ∈ l, P x) : ∀ m, ∀ x ∈ (intsP l bad m).2.1, P x
  | 0 => h
  | m + 1 => numP_left (intsP_left h m)
/-- Cells from o on, numbers put into them. -/
def putI (cs : Array Value) (o : Nat) (vs : List Int) : Array Value := vs.foldl (fun (p : Array Value × Nat) v => (p.1.setIfInBounds p.2 (.int .i64 v), p.2 + 1)) (cs, o) |>.1
theorem putI_snd (vs : List Int) : ∀ (cs : Array Value) (o : Nat), (vs.foldl (fun (p : Array Value × Nat) v => (p.1.setIfInBounds p.2 (.int .i64 v), p.2 + 1)) (cs, o)).2 = o + vs.length := by
  induction vs with
  | nil => intro cs o; rfl
  | cons v vs ih => intro cs o; rw [List.foldl_cons, ih, List.length_cons]; omega
theorem putI_snoc (cs : Array Value) (o : Nat) (vs : List Int) (v : Int) : putI cs o (vs ++ [v]) = (putI cs o vs).setIfInBounds (o + vs.length) (.int .i64 v) := by
  have := putI_snd vs cs o
  simp only [putI, List.foldl_append, List.foldl_cons, List.foldl_nil]
  rw [this]
theorem putI_get (cs : Array Value) (vs : List Int) (o j : Nat) (h : ∃ v, cs[j]? = some v) : ∃ v, (putI cs o vs)[j]? = some v := by
  have hz : ∀ vs : List Int, (putI cs o vs).size = cs.size := fun vs => by
    unfold putI
    induction vs generalizing cs o with
    | nil => rfl
    | cons v vs ih => rw [List.foldl_cons, ih]; · simp
                      · obtain ⟨v, hv⟩ := h
                        have := (Array.getElem?_eq_some_iff.1 hv).1
                        exact ⟨_, Array.getElem?_eq_getElem (by simpa using this)⟩
  obtain ⟨v, hv⟩ := h
  have := (Array.getElem?_eq_some_iff.1 hv).1
  exact ⟨_, Array.getElem?_eq_getElem (by rw [hz]; exact this)⟩
def ptrs (gm o m : Nat) : Array Value := ((List.range m).map fun j => Value.pointer (some ⟨gm, o + j, none⟩)).toArray
theorem ptrs_get (gm o m j : Nat) (h : j < m) : (ptrs gm o m)[j]? = some (.pointer (some ⟨gm, o + j, none⟩)) := by simp [ptrs, h]
def IntsQ (w0 w : World) (g gm o : Nat) (cs : Array Value) (t : TypeId) (r : List Int × List Int × Bool) (e : Ending) (w' : World) : Prop :=
  e = .returned (.tuple #[]) ∧ Rd w0 w' g r.2.1 r.2.2 ∧ w'.heap[gm]? = some (.cells (putI cs o r.1) t (0, 0)) ∧ Kept w w' (fun k => k = g ∨ k = gm) ∧ Below w0.heap.size w0 w'
set_option maxHeartbeats 1000000 in
set_option maxRecDepth 100000 in
theorem rints_calls (w0 w : World) (g : Nat) (l : List Int) (bad : Bool) (gt gm o m : Nat) (cs : Array Value) (t : TypeId) (hB : Below w0.heap.size w0 w) (hg : w0.heap.size ≤ g) (hgm : w0.heap.size ≤ gm) (h : Rd w0 w g l bad) (hby : ∀ x ∈ l, 0 ≤ x ∧ x ≤ 255)
    (hm : m ≤ 9) (hcs : w.heap[gm]? = some (.cells cs t (0, 0))) (hpt : w.heap[gt]? = some (.cells (ptrs gm o m) 68 (0, 0))) (h1 : gm ≠ g) (h2 : gt ≠ g) (h3 : gt ≠ gm) (hcv : ∀ i, i < m → ∃ v, cs[o + i]? = some v) :
    Calls Try.prog 30 #[.pointer (some ⟨g, 0, none⟩), .slice (some ⟨gt, 0, none⟩) m m] w (IntsQ w0 w g gm o cs t (intsP l bad m)) := by
  have HR := Aside0.mk h
  have HB := Aside0.mk hB
  have HG := Aside0.mk hg
  have HGM := Aside0.mk hgm
  have HBY := Aside0.mk hby
  have HM := Aside0.mk hm
  have HCS := Aside0.mk hcs
  have HPT := Aside0.mk hpt
  have H1 := Aside0.mk h1
  have H2 := Aside0.mk h2
  have H3 := Aside0.mk h3
  have HCV := Aside0.mk hcv
  clear h hB hg hgm hby hm hcs hpt h1 h2 h3 hcv
  go_enter Try.func30, Try.ntmps30
  go_wp2_with fail
  go_loopg [8] 9 (fun gk v8 wr => ∃ (i : Nat), v8 = .int .i64 i ∧ Aside0 (i ≤ m) ∧ Aside0 (m - i ≤ gk) ∧ Aside0 (Rd w0 wr g (intsP l bad i).2.1 (intsP l bad i).2.2) ∧ Aside0 (wr.heap[gm]? = some (.cells (putI cs o (intsP l bad i).1) t (0, 0))) ∧ Aside0 (Kept w wr (fun k => k = g ∨ k = gm)) ∧ Aside0 (Below w0.heap.size w0 wr))
  case atStart => exact ⟨0, rfl, ⟨by omega⟩, ⟨by have := HM.out; omega⟩, HR, HCS, ⟨Kept.refl _ _⟩, HB⟩
  case round =>
    clear HR HCS HB
    obtain ⟨i, rfl, HI, HGK, HR, HCS, HK, HB⟩ := hrel
    have hi := HI.out
    by_cases hlt : i < m
    · have l1 : decide (i < m) = true := decide_eq_true hlt
      have z1 : (i : Int) < (m : Int) := by omega
      have hpb := blk_kept HPT.out HK.out (by have := H2.out; have := H3.out; simp; omega)
      have c1 : wr.cell? ⟨gt, i, none⟩ = some (.pointer (some ⟨gm, o + i, none⟩)) := (blk_cell hpb i).trans (ptrs_get _ _ _ _ hlt)
      clear hpb
      go_wp2_with fail
      refine (rnum_calls w0 wr g _ _ 8 maxI HB.out HG.out HR.out (intsP_left HBY.out i) (by decide) (by decide)).mono ?_
      rintro e w1 ⟨rfl, hR1, hK1, hB1⟩
      have hs := blk_kept HCS.out hK1 (by have := H1.out; simp; omega)
      have f1 := blk_frozen hs (o + i)
      have hcell : ∃ u, w1.cell? ⟨gm, o + i, none⟩ = some u := by
        obtain ⟨v, hv⟩ := putI_get cs (intsP l bad i).1 o (o + i) (HCV.out i hlt)
        exact ⟨v, (blk_cell hs _).trans hv⟩
      obtain ⟨u, m1⟩ := hcell
      have hR2 : Rd w0 (w1.setCell ⟨gm, o + i, none⟩ (.int .i64 (numP (intsP l bad i).2.1 (intsP l bad i).2.2 8 maxI).1)) g (numP (intsP l bad i).2.1 (intsP l bad i).2.2 8 maxI).2.1 (numP (intsP l bad i).2.1 (intsP l bad i).2.2 8 maxI).2.2 := by
        obtain ⟨A, k, c, q1, q2⟩ := hR1
        exact ⟨A, k, c, blk_far q1 (p := ⟨gm, o + i, none⟩) (Ne.symm H1.out) _, q2⟩
      have hs2 : (w1.setCell ⟨gm, o + i, none⟩ (.int .i64 (numP (intsP l bad i).2.1 (intsP l bad i).2.2 8 maxI).1)).heap[gm]? = some (.cells (putI cs o (intsP l bad (i + 1)).1) t (0, 0)) := by
        rw [intsP, putI_snoc, intsP_length]
        exact blk_set hs _ _
      have hK2 : Kept w (w1.setCell ⟨gm, o + i, none⟩ (.int .i64 (numP (intsP l bad i).2.1 (intsP l bad i).2.2 8 maxI).1)) (fun k => k = g ∨ k = gm) := (HK.out.then_ hK1 (fun k hk => .inl (.inl hk))).setCell (p := ⟨gm, o + i, none⟩) (.inl (.inr rfl)) _
      have HR2 := Aside0.mk hR2
      have HS2 := Aside0.mk hs2
      have HK2 := Aside0.mk hK2
      have HB2 := Aside0.mk (hB1.setCell (p := ⟨gm, o + i, none⟩) HGM.out (.int .i64 (numP (intsP l bad i).2.1 (intsP l bad i).2.2 8 maxI).1))
      obtain ⟨x, hx⟩ : ∃ x : Int, x = (numP (intsP l bad i).2.1 (intsP l bad i).2.2 8 maxI).1 := ⟨_, rfl⟩
      rw [← hx] at HR2 HS2 HK2 HB2 ⊢
      clear hR2 hs2 hK2 hR1 hK1 hB1 hs hx HR HCS HK HB
      go_wp2
      go_roundg (m - (i + 1))
      case measure => have := HGK.out; omega
      case rel =>
        have hm9 := HM.out
        have hi9 : (i : Int) + 1 ≤ 10 := by omega
        exact ⟨i + 1, by first | go_num | (show Value.int .i64 (wrap64 (i + 1)) = _; rw [show wrap64 ((i : Int) + 1) = ((i + 1 : Nat) : Int) by unfold wrap64; omega]), ⟨by omega⟩, ⟨Nat.le_refl _⟩, HR2, HS2, HK2, HB2⟩
    · have l1 : decide (i < m) = false := decide_eq_false hlt
      have him : i = m := by omega
      subst him
      have fin : IntsQ w0 w g gm o cs t (intsP l bad i) (.returned (.tuple #[])) wr := ⟨rfl, HR.out, HCS.out, HK.out, HB.out⟩
      have FIN := Aside0.mk fin
      clear fin
      go_wp2
      go_end0
      exact FIN.out
theorem Rd.kept {w0 W W2 : World} {g : Nat} {l : List Int} {bad : Bool} {S : Nat → Prop} (h : Rd w0 W g l bad) (hk : Kept W W2 S) (hn : ¬ S g) : Rd w0 W2 g l bad := by
  obtain ⟨A, k, c, q1, q2⟩ := h
  exact ⟨A, k, c, blk_kept q1 hk hn, q2⟩
theorem Rd.lt {w0 W : World} {g : Nat} {l : List Int} {bad : Bool} (h : Rd w0 W g l bad) : g < W.heap.size := by
  obtain ⟨A, k, c, q1, q2⟩ := h
  exact blk_lt q1
theorem info_int : (Try.prog.info? 3).map (fun i => (i.zero, i.size, i.bytes)) = some (some (.int .i64 0), 1, 8) := by kernel_rfl
def memP (l : List Int) (bad : Bool) : List Int × List Int × Bool := intsP (numP l bad 1 9).2.1 (numP l bad 1 9).2.2 (numP l bad 1 9).1
def MemQ (w0 w : World) (g : Nat) (r : List Int × List Int × Bool) (e : Ending) (w' : World) : Prop :=
  ∃ v, e = .returned v ∧ (Kd.int .i64).R 3 w' w0.heap.size (fun k => w.heap.size ≤ k) v r.1 ∧ Rd w0 w' g r.2.1 r.2.2 ∧ Kept w w' (fun k => k = g) ∧ Below w0.heap.size w0 w'
set_option maxHeartbeats 1000000 in
set_option maxRecDepth 100000 in
theorem rmem_calls (w0 w : World) (g : Nat) (l : List Int) (bad : Bool) (hB : Below w0.heap.size w0 w) (hg : w0.heap.size ≤ g) (h : Rd w0 w g l bad) (hby : ∀ x ∈ l, 0 ≤ x ∧ x ≤ 255) :
    Calls Try.prog 32 #[.pointer (some ⟨g, 0, none⟩)] w (MemQ w0 w g (memP l bad)) := by
  have HR := Aside0.mk h
  have HB := Aside0.mk hB
  have HG := Aside0.mk hg
  have HBY := Aside0.mk hby
  have HGW := Aside0.mk h.lt
  obtain ⟨q, hq⟩ : ∃ q, q = memP l bad := ⟨_, rfl⟩
  rw [← hq]
  have HQ0 := Aside0.mk hq
  clear h hB hg hby hq
  go_enter Try.func32, Try.ntmps32
  go_wp2_with fail
  refine (rnum_calls w0 w g _ _ 1 9 HB.out HG.out HR.out HBY.out (by decide) (by decide)).mono ?_
  rintro e w1 ⟨rfl, hR1, hK1, hB1⟩
  have hnle := numP_le l bad 1 9
  have hby1 := numP_left (bad := bad) (n := 1) (m := 9) HBY.out
  have hq := HQ0.out
  rw [memP] at hq
  obtain ⟨N, l1, b1, h1⟩ : ∃ N l1 b1, numP l bad 1 9 = (N, l1, b1) := ⟨_, _, _, rfl⟩
  rw [h1] at hR1 hnle hby1 hq ⊢
  clear HQ0
  have HR1 := Aside0.mk hR1
  have HB1 := Aside0.mk hB1
  have HK1 := Aside0.mk hK1
  have HBY1 := Aside0.mk hby1
  have HN := Aside0.mk hnle
  have HQ := Aside0.mk hq
  clear hR1 hB1 hK1 hby1 hnle h1 hq
  go_wp2_with fail
  go_loopg [2, 3] 9 (fun gk v2 v3 wr => ∃ (i k : Nat), v3 = .int .i64 k ∧ Aside0 (i + k = N) ∧ Aside0 (k ≤ gk) ∧ Aside0 ((Kd.int .i64).R 3 wr w0.heap.size (fun k => w.heap.size ≤ k) v2 (intsP l1 b1 i).1) ∧ Aside0 (Rd w0 wr g (intsP l1 b1 i).2.1 (intsP l1 b1 i).2.2) ∧ Aside0 (Kept w wr (fun k => k = g)) ∧ Aside0 (Below w0.heap.size w0 wr))
  case atStart => exact ⟨0, N, rfl, ⟨by omega⟩, HN, ⟨Kd.R_nil _ _ _ _ _⟩, HR1, HK1, HB1⟩
  case round =>
    clear HR1 HB1 HK1
    obtain ⟨i, k, rfl, HI, HGK, HO, HR, HK, HB⟩ := hrel
    have hi := HI.out
    have hn9 := HN.out
    by_cases hlt : 0 < k
    · have l2 : (0 : Int) < (k : Int) := by omega
      have l1' : decide ((0 : Int) < (k : Int)) = true := decide_eq_true (by omega)
      go_wp2_with fail
      refine (rnum_calls w0 wr g _ _ 8 maxI HB.out HG.out HR.out (intsP_left HBY1.out i) (by decide) (by decide)).mono ?_
      rintro e w2 ⟨rfl, hR2, hK2, hB2⟩
      have hO2 := Kd.R_kept HO.out hK2 (fun k hk => by have := HGW.out; simp; omega)
      obtain ⟨x, hx⟩ : ∃ x : Int, x = (numP (intsP l1 b1 i).2.1 (intsP l1 b1 i).2.2 8 maxI).1 := ⟨_, rfl⟩
      rw [← hx]
      have HX := Aside0.mk hx
      have HO2 := Aside0.mk hO2
      have HR2 := Aside0.mk hR2
      have HK2 := Aside0.mk (HK.out.then_ hK2 (fun _ h => .inl h))
      have HB2 := Aside0.mk hB2
      have HL : Aside0 ((intsP l1 b1 i).1.length ≤ 9) := ⟨by rw [intsP_length]; omega⟩
      have HSZ : Aside0 (w0.heap.size ≤ w2.heap.size) := ⟨hB2.size⟩
      have HSW : Aside0 (w.heap.size ≤ w2.heap.size) := ⟨HK2.out.1⟩
      clear hx hO2 hR2 hK2 hB2 HO HR HK HB
      go_wp2_with (at_builtin; refine Kd.R_append (Kd.int .i64) (w0 := w0) w0.heap.size rfl (.tmp 10) (.tmp 13) 23 3 (.int .i64 0) 8 rfl Try.underlying23 info_int rfl (by decide) (by decide) u2 (intsP l1 b1 i).1 x [.int .i64 x] (fun k => w.heap.size ≤ k) (fun _ => False) rfl rfl rfl (fun _ hk => hk.elim) (fun k hk => Nat.le_trans HSW.out hk) HO2.out HB2.out HSZ.out (by have := HL.out; omega) ?_)
      intro v3 w3 hO3 hB3 hg3 hat3
      have hK3 : Kept w w3 (fun k => k = g) := Kept.of_grown hg3 HK2.out (fun k hk => .inr (HO2.out.1 k hk))
      have hR3 : Rd w0 w3 g (intsP l1 b1 (i + 1)).2.1 (intsP l1 b1 (i + 1)).2.2 := by
        rw [intsP]
        exact HR2.out.kept (S := fun k => w.heap.size ≤ k) ⟨hg3.size, fun k hlt hn => hg3.block k hlt (fun he => hn (HO2.out.1 k he.symm))⟩ (by have := HGW.out; simp; omega)
      have hO4 : (Kd.int .i64).R 3 w3 w0.heap.size (fun k => w.heap.size ≤ k) v3 (intsP l1 b1 (i + 1)).1 := by rw [intsP, ← HX.out]; exact hO3
      have HK3 := Aside0.mk hK3
      have HR3 := Aside0.mk hR3
      have HO4 := Aside0.mk hO4
      have HB3 := Aside0.mk hB3
      clear hK3 hR3 hO4 hO3 hB3 hg3 hat3 HO2 HR2 HK2 HB2
      go_wp2
      go_roundg (k - 1)
      case measure => have := HGK.out; omega
      case rel => exact ⟨i + 1, k - 1, by first | go_num | (rw [show wrap64 ((k : Int) - 1) = ((k - 1 : Nat) : Int) by unfold wrap64; omega]), ⟨by omega⟩, ⟨Nat.le_refl _⟩, HO4, HR3, HK3, HB3⟩
    · have l1 : decide ((0 : Int) < (k : Int)) = false := decide_eq_false (by omega)
      obtain rfl : k = 0 := by omega
      obtain rfl : i = N := by omega
      have fin : MemQ w0 w g q (.returned _) wr := ⟨_, rfl, by rw [HQ.out]; exact HO.out, by rw [HQ.out]; exact HR.out, HK.out, HB.out⟩
      have FIN := Aside0.mk fin
      clear fin
      go_wp2
      go_ret
      exact FIN.out
end Go.Proofs.Ytbemfgpdfacdpaa.Ms
