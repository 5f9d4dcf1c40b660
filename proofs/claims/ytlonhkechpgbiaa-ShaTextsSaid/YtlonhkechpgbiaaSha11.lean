/- A sum of parts is the sum of all; the plain law. -/
import Derived.Test.YtlonhkechpgbiaaSha10
namespace Go.Proofs.Ytlonhkechpgbiaa.Sh
def H0s : S8 := ⟨1779033703, 3144134277, 1013904242, 2773480762, 1359893119, 2600822924, 528734635, 1541459225⟩
/-- The reference's sum. -/
def refS (l : List Int) : List Int := hashL (eat (padD l (l.length : Int)).length H0s true (padD l (l.length : Int))).1.list 8
theorem begun_true (s : S8) : begun true s = s := by simp [begun]
theorem W1_ext {l l' : List Int} (h : ∀ j, j < 64 → l.getD j 0 = l'.getD j 0) : ∀ k, k ≤ 16 → W1 l k = W1 l' k
  | 0, _ => rfl
  | k + 1, hk => by rw [W1, W1, W1_ext h k (by omega), h _ (by omega), h _ (by omega), h _ (by omega), h _ (by omega)]
theorem blockS_ext (s : S8) {l l' : List Int} (h : ∀ j, j < 64 → l.getD j 0 = l'.getD j 0) : blockS s l = blockS s l' := by
  rw [blockS, blockS, spreadL, spreadL, W1_ext h 16 (Nat.le_refl _)]
theorem blockS_app (s : S8) (r p : List Int) (h : 64 ≤ r.length) : blockS s (r ++ p) = blockS s r :=
  blockS_ext s (fun j hj => by rw [List.getD_eq_getElem?_getD, List.getD_eq_getElem?_getD, List.getElem?_append_left (by omega)])
/-- More rounds than are wanted tell the same. -/
theorem eat_more : ∀ (f f' : Nat) (s : S8) (b : Bool) (r : List Int), r.length ≤ f → r.length ≤ f' → eat f s b r = eat f' s b r := by
  intro f
  induction f with
  | zero =>
    intro f' s b r h h'
    cases f' with
    | zero => rfl
    | succ f' => rw [eat, eat, if_neg (by omega)]
  | succ f ih =>
    intro f' s b r h h'
    cases f' with
    | zero => rw [eat, eat, if_neg (by omega)]
    | succ f' =>
      rw [eat, eat]
      by_cases q : 64 ≤ r.length
      · rw [if_pos q, if_pos q]
        exact ih f' _ _ _ (by rw [List.length_drop]; omega) (by rw [List.length_drop]; omega)
      · rw [if_neg q, if_neg q]
/-- Begun or not, it comes to the same. -/
theorem eat_begun : ∀ (f : Nat) (s : S8) (b : Bool) (r : List Int), begun (eat f s b r).2.1 (eat f s b r).1 = (eat f (begun b s) true r).1 ∧ (eat f s b r).2.2 = (eat f (begun b s) true r).2.2
  | 0, s, b, r => ⟨rfl, rfl⟩
  | f + 1, s, b, r => by
    rw [eat, eat]
    by_cases q : 64 ≤ r.length
    · rw [if_pos q, if_pos q]
      have := eat_begun f (blockS (begun b s) r) true (r.drop 64)
      rw [begun_true] at this ⊢
      exact this
    · rw [if_neg q, if_neg q]
      exact ⟨rfl, rfl⟩
theorem eat_true : ∀ (f : Nat) (s : S8) (r : List Int), (eat f s true r).2.1 = true
  | 0, s, r => rfl
  | f + 1, s, r => by
    rw [eat]
    split
    · exact eat_true f _ _
    · rfl
/-- One piece behind the other. -/
theorem eat_app : ∀ (f : Nat) (s : S8) (r p : List Int), r.length ≤ f → eat (f + p.length) s true (r ++ p) = eat ((eat f s true r).2.2.length + p.length) (eat f s true r).1 true ((eat f s true r).2.2 ++ p) := by
  intro f
  induction f with
  | zero =>
    intro s r p h
    have hr : r = [] := List.eq_nil_of_length_eq_zero (by omega)
    subst hr
    rfl
  | succ f ih =>
    intro s r p h
    by_cases q : 64 ≤ r.length
    · have e1 : eat (f + 1) s true r = eat f (blockS s r) true (r.drop 64) := by rw [eat, if_pos q, begun_true]
      rw [e1, ← ih (blockS s r) (r.drop 64) p (by rw [List.length_drop]; omega)]
      rw [show f + 1 + p.length = (f + p.length) + 1 by omega, eat, if_pos (by rw [List.length_append]; omega), begun_true, blockS_app s r p q, List.drop_append_of_le_length q]
    · have e1 : eat (f + 1) s true r = (s, true, r) := by rw [eat, if_neg q]
      rw [e1]
      exact eat_more _ _ _ _ _ (by rw [List.length_append]; omega) (by rw [List.length_append]; exact Nat.le_refl _)
theorem eat_mod : ∀ (f : Nat) (s : S8) (b : Bool) (r : List Int), (eat f s b r).2.2.length % 64 = r.length % 64
  | 0, s, b, r => rfl
  | f + 1, s, b, r => by
    rw [eat]
    by_cases q : 64 ≤ r.length
    · rw [if_pos q, eat_mod f, List.length_drop]; omega
    · rw [if_neg q]
/-- What a tail is, by the length alone. -/
def zs : Nat → Nat → List Int
  | 0, _ => []
  | f + 1, n => if n % 64 = 56 then [] else 0 :: zs f (n + 1)
theorem padZ_zs : ∀ (f : Nat) (l : List Int), padZ f l = l ++ zs f l.length
  | 0, l => by rw [padZ, zs, List.append_nil]
  | f + 1, l => by
    rw [padZ, zs]
    by_cases q : l.length % 64 = 56
    · rw [if_pos q, if_pos q, List.append_nil]
    · rw [if_neg q, if_neg q, padZ_zs f, List.length_append, List.length_singleton, List.append_assoc]; rfl
theorem zs_mod : ∀ (f a b : Nat), a % 64 = b % 64 → zs f a = zs f b
  | 0, a, b, h => rfl
  | f + 1, a, b, h => by
    rw [zs, zs, h]
    by_cases q : b % 64 = 56
    · rw [if_pos q, if_pos q]
    · rw [if_neg q, if_neg q, zs_mod f (a + 1) (b + 1) (by omega)]
def tailOf (m : Nat) (n : Int) : List Int := [128] ++ zs 64 (m + 1) ++ num8 (n * 8) 8
theorem padD_tail (r : List Int) (n : Int) : padD r n = r ++ tailOf r.length n := by
  rw [padD, padZ_zs, List.length_append, List.length_singleton, tailOf]
  simp [List.append_assoc]
theorem tail_mod {a b : Nat} (h : a % 64 = b % 64) (n : Int) : tailOf a n = tailOf b n := by
  rw [tailOf, tailOf, zs_mod 64 (a + 1) (b + 1) (by omega)]
/-- A digest that took l. -/
def Took (d : DS) (l : List Int) : Prop := begun d.b d.s = (eat l.length H0s true l).1 ∧ d.r = (eat l.length H0s true l).2.2 ∧ d.n = (l.length : Int)
theorem took_new : Took DS.new [] := ⟨rfl, rfl, rfl⟩
theorem took_write {d : DS} {l : List Int} (h : Took d l) (p : List Int) : Took (d.write p) (l ++ p) := by
  obtain ⟨h1, h2, h3⟩ := h
  have hb := eat_begun (d.r.length + p.length) d.s d.b (d.r ++ p)
  have ha := eat_app l.length H0s l p (Nat.le_refl _)
  rw [← h1, ← h2, ← List.length_append] at ha
  refine ⟨?_, ?_, ?_⟩
  · show begun (eat (d.r.length + p.length) d.s d.b (d.r ++ p)).2.1 (eat (d.r.length + p.length) d.s d.b (d.r ++ p)).1 = _
    rw [hb.1, ha]
  · show (eat (d.r.length + p.length) d.s d.b (d.r ++ p)).2.2 = _
    rw [hb.2, ha]
  · show d.n + (p.length : Int) = ((l ++ p).length : Int)
    rw [h3, List.length_append]; omega
theorem took_feed : ∀ (L : List (List Int)) (d : DS) (l : List Int), Took d l → Took (d.feed L) (l ++ L.flatten)
  | [], d, l, h => by simpa [DS.feed] using h
  | p :: L, d, l, h => by
    have := took_feed L (d.write p) (l ++ p) (took_write h p)
    rw [List.append_assoc] at this
    simpa [DS.feed] using this
theorem took_sum {d : DS} {l : List Int} (h : Took d l) : d.sum = refS l := by
  obtain ⟨h1, h2, h3⟩ := h
  have hm := eat_mod l.length H0s true l
  rw [← h2] at hm
  have ha := eat_app l.length H0s l (tailOf l.length (l.length : Int)) (Nat.le_refl _)
  rw [← h1, ← h2] at ha
  have hb := eat_begun (padD d.r d.n).length d.s d.b (padD d.r d.n)
  show hashL (begun (eat (padD d.r d.n).length d.s d.b (padD d.r d.n)).2.1 (eat (padD d.r d.n).length d.s d.b (padD d.r d.n)).1).list 8 = _
  rw [hb.1, refS]
  congr 2
  have e1 : padD l (l.length : Int) = l ++ tailOf l.length (l.length : Int) := padD_tail _ _
  have e2 : padD d.r d.n = d.r ++ tailOf l.length (l.length : Int) := by rw [padD_tail, h3, tail_mod hm]
  rw [e1, e2, List.length_append, List.length_append, ha]
theorem sumL_ref (L : List (List Int)) : sumL L = refS L.flatten := by
  have := took_sum (took_feed L DS.new [] took_new)
  rwa [List.nil_append] at this
theorem refS_length (l : List Int) : (refS l).length = 32 := hashL_length _ 8
end Go.Proofs.Ytlonhkechpgbiaa.Sh
