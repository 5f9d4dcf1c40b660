/- Quiet calls within a region, by contracts that draw; new blocks that a region makes in any order. -/
import Derived.Test.YtbemfgpdfacdpaaQTail
import Derived.Test.YtbemfgpdfacdpaaWMore
import Derived.Test.YtbemfgpdfacdpaaWInvWords
import Derived.Laws.CopyOwn
namespace Go.Proofs.Ytbemfgpdfacdpaa.QT
open Go Go.RowKit Go.Proofs.YtbemfgpdfacdpaaW.PrintWords Go.Proofs.YtbemfgpdfacdpaaW.PrintLast
theorem quiet0 {P : Program} {f : FuncId} {args : Array Value} {w : World} {n : Nat} {v : Value}
    (h : Calls P f args (w.drewN n) fun e w' => e = .returned v ∧ Drawn0 (w.drewN n) w') : Calls P f args (w.drewN n) fun e w'' => e = .returned v ∧ ∃ m, w'' = w.drewN m :=
  Calls.quiet_of (h.mono fun _ _ ⟨he, ⟨m, hm⟩⟩ => ⟨he, m, hm⟩)
theorem quiet1 {P : Program} {f : FuncId} {args : Array Value} {w : World} {a n : Nat} {v : Value}
    (h : Calls P f args (w.drewN (a + n)) fun e w' => e = .returned v ∧ Drawn0 (w.drewN (a + n)) w') : Calls P f args (w.drewN (a + n)) fun e w'' => e = .returned v ∧ ∃ m, w'' = w.drewN (a + m) :=
  h.mono fun _ _ ⟨he, ⟨m, hm⟩⟩ => ⟨he, n + m, by rw [hm, World.drewN_drewN, Nat.add_assoc]⟩
/-! New blocks, each: is it made, its number, its type, its cells. -/
def sel {α : Type} (b : Bool) (x y : α) : α := if b = true then x else y
def Fresh (N : Nat) (w w' : World) (L : List (Bool × Nat × Nat × Array Value)) : Prop :=
  Below N w w' ∧ (∀ (k : Nat) (x : Bool × Nat × Nat × Array Value), L[k]? = some x → x.1 = true → N ≤ x.2.1 ∧ w'.heap[x.2.1]? = some (.cells x.2.2.2 x.2.2.1 (0, 0))) ∧
    ∀ (j k : Nat) (x y : Bool × Nat × Nat × Array Value), L[j]? = some x → L[k]? = some y → x.1 = true → y.1 = true → j ≠ k → x.2.1 ≠ y.2.1
section
variable {N : Nat} {w w1 : World} {L : List (Bool × Nat × Nat × Array Value)}
theorem Fresh.begin_ (h : Below N w w1) (hL : L.all (fun x => !x.1) = true) : Fresh N w w1 L := by
  have hno : ∀ (k : Nat) (x : Bool × Nat × Nat × Array Value), L[k]? = some x → x.1 = true → False := fun k x hx h1 => by
    have := List.all_eq_true.1 hL x (List.mem_of_getElem? hx)
    rw [h1] at this; cases this
  exact ⟨h, fun k x hx h1 => (hno k x hx h1).elim, fun j k x y hx _ h1 _ _ => (hno j x hx h1).elim⟩
theorem Fresh.get (h : Fresh N w w1 L) (k : Nat) {x : Bool × Nat × Nat × Array Value} (hx : L[k]? = some x) (h1 : x.1 = true) : N ≤ x.2.1 ∧ w1.heap[x.2.1]? = some (.cells x.2.2.2 x.2.2.1 (0, 0)) := h.2.1 k x hx h1
theorem Fresh.ne (h : Fresh N w w1 L) (j k : Nat) {x y : Bool × Nat × Nat × Array Value} (hx : L[j]? = some x) (hy : L[k]? = some y) (h1 : x.1 = true) (h2 : y.1 = true) (hne : j ≠ k) : x.2.1 ≠ y.2.1 := h.2.2 j k x y hx hy h1 h2 hne
theorem Fresh.drew (h : Fresh N w w1 L) (n : Nat) : Fresh N w (w1.drewN n) L := ⟨pw_below_drewN h.1 n, h.2.1, h.2.2⟩
theorem Fresh.below {w2 : World} (h : Fresh N w w1 L) (hN : N ≤ w.heap.size) (hb : Below w1.heap.size w1 w2) : Fresh N w w2 L :=
  ⟨h.1.trans (hb.mono (Nat.le_trans hN h.1.size)), fun k x hx h1 => ⟨(h.2.1 k x hx h1).1, blk_below (h.2.1 k x hx h1).2 hb⟩, h.2.2⟩
theorem Fresh.alloc (h : Fresh N w w1 L) (hN : N ≤ w.heap.size) (k : Nat) {x : Bool × Nat × Nat × Array Value} (hx : L[k]? = some x) (cs : Array Value) (hcs : x.2.2.2 = cs) :
    Fresh N w (w1.alloc (.cells cs x.2.2.1)) (L.set k (true, w1.heap.size, x.2.2.1, x.2.2.2)) := by
  subst hcs
  have hk : k < L.length := (List.getElem?_eq_some_iff.1 hx).1
  refine ⟨h.1.alloc (Nat.le_trans hN h.1.size) _, fun j y hy h1 => ?_, fun i j y z hy hz h1 h2 hne => ?_⟩
  · by_cases hjk : k = j
    · subst hjk
      rw [List.getElem?_set_self hk] at hy
      cases hy
      exact ⟨Nat.le_trans hN h.1.size, blk_new _ _⟩
    · rw [List.getElem?_set_ne hjk] at hy
      exact ⟨(h.2.1 j y hy h1).1, blk_alloc (h.2.1 j y hy h1).2 _⟩
  · by_cases hik : k = i
    · subst hik
      rw [List.getElem?_set_self hk] at hy
      cases hy
      rw [List.getElem?_set_ne hne] at hz
      exact Nat.ne_of_gt (blk_lt (h.2.1 j z hz h2).2)
    · rw [List.getElem?_set_ne hik] at hy
      by_cases hjk : k = j
      · subst hjk
        rw [List.getElem?_set_self hk] at hz
        cases hz
        exact Nat.ne_of_lt (blk_lt (h.2.1 i y hy h1).2)
      · rw [List.getElem?_set_ne hjk] at hz
        exact h.2.2 i j y z hy hz h1 h2 hne
theorem Fresh.store (h : Fresh N w w1 L) (k : Nat) {x : Bool × Nat × Nat × Array Value} (hx : L[k]? = some x) (h0 : x.1 = true) (cs : Array Value) :
    Fresh N w (w1.setRow x.2.1 cs) (L.set k (x.1, x.2.1, x.2.2.1, cs)) := by
  have hk : k < L.length := (List.getElem?_eq_some_iff.1 hx).1
  have hg := h.2.1 k x hx h0
  refine ⟨below_setRow h.1 hg.1 cs, fun j y hy h1 => ?_, fun i j y z hy hz h1 h2 hne => ?_⟩
  · by_cases hjk : k = j
    · subst hjk
      rw [List.getElem?_set_self hk] at hy
      cases hy
      exact ⟨hg.1, setRow_heap w1 x.2.1 _ cs _ _ hg.2⟩
    · rw [List.getElem?_set_ne hjk] at hy
      refine ⟨(h.2.1 j y hy h1).1, ?_⟩
      rw [setRow_other w1 x.2.1 y.2.1 cs (h.2.2 j k y x hy hx h1 h0 (Ne.symm hjk))]
      exact (h.2.1 j y hy h1).2
  · have key : ∀ (i : Nat) (y : Bool × Nat × Nat × Array Value), (L.set k (x.1, x.2.1, x.2.2.1, cs))[i]? = some y → ∃ y0, L[i]? = some y0 ∧ y0.1 = y.1 ∧ y0.2.1 = y.2.1 := fun i y hy => by
      by_cases hik : k = i
      · subst hik
        rw [List.getElem?_set_self hk] at hy
        cases hy
        exact ⟨x, hx, rfl, rfl⟩
      · rw [List.getElem?_set_ne hik] at hy
        exact ⟨y, hy, rfl, rfl⟩
    obtain ⟨y0, hy0, e1, e2⟩ := key i y hy
    obtain ⟨z0, hz0, e3, e4⟩ := key j z hz
    rw [← e2, ← e4]
    exact h.2.2 i j y0 z0 hy0 hz0 (e1.trans h1) (e3.trans h2) hne
end
/-- A whole variable stored, as a region's step. -/
theorem storeRow_ {P : Program} {ops : Array Oper} {Q : Exit → Act → World → Prop} {oi : Oper} {a : Act} {w : World} {K : Act → World → Prop} (hw : Region.wanted oi (yielded ops a.tmps) = true) (hN : oi.dst = none) (ty : TypeId) (x y : Operand) (ho : oi.op = .store ty x y)
    (g : Nat) (cells : Array Value) (hx : a.eval x = .pointer (some ⟨g, 0, none⟩)) (hy : a.eval y = .agg cells)
    (t : TypeId) (old : Array Value) (hg : w.heap[g]? = some (.cells old t (0, 0))) (hi : (P.info? ty).map (·.size) = some cells.size)
    (hold : old.size = cells.size) (h1 : cells.all (·.oneCell') = true) (h : K (a.put none undef) (w.setRow g cells)) : if Region.wanted oi (yielded ops a.tmps) = true then Oper.wp P oi a w K Q else K (a.put none undef) w := by
  rw [if_pos hw]
  exact wp_store_row ty x y ho g cells hx hy t old hg hi hold h1 (by rw [hN]; exact h)
end Go.Proofs.Ytbemfgpdfacdpaa.QT
