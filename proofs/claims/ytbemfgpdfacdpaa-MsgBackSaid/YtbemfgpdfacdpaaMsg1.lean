/- The walk of a reader: it takes bytes and numbers. -/
import Derived.Test.YtbemfgpdfacdpaaQTail
import Derived.Test.YtbemfgpdfacdpaaQW
import Derived.Test.YtbemfgpdfacdpaaQOwn
import Derived.Test.YtbemfgpdfacdpaaWMore
import Derived.Test.YtbemfgpdfacdpaaProg
namespace Go.Proofs.Ytbemfgpdfacdpaa.Ms
open Go.RowKit Go.Proofs.YtbemfgpdfacdpaaW.PrintWords Go.Proofs.YtbemfgpdfacdpaaW.PrintLast Go.Proofs.YtbemfgpdfacdpaaW.PrintMore
set_option linter.unusedVariables false
set_option linter.unusedSimpArgs false
def takeP (l : List Int) (bad : Bool) (n : Nat) : List Int × List Int × Bool := if bad = true ∨ l.length < n then ([], l, true) else (l.take n, l.drop n, false)
/-- The reader at block g: the bytes that are left (they lie in w0), whether they are none. -/
def Rd (w0 w : World) (g : Nat) (l : List Int) (bad : Bool) : Prop :=
  ∃ A n c, w.heap[g]? = some (.cells #[.slice A n c, .bool bad] 66 (0, 0)) ∧ n = l.length ∧ n ≤ c ∧ (Kd.int .u8).C w0 A l.length l ∧ l.length ≤ 140737488351232
theorem Rd.set {w0 w : World} {g : Nat} {l : List Int} {bad : Bool} (h : Rd w0 w g l bad) : Rd w0 (w.setCell ⟨g, 1, none⟩ (.bool true)) g l true := by
  obtain ⟨A, n, c, h1, h2⟩ := h
  exact ⟨A, n, c, blk_set h1 1 _, h2⟩
/-- What a cut from the front leaves. -/
theorem C_rest {w : World} {A : Option Addr} {l : List Int} {c n : Nat} (h : (Kd.int .u8).C w A l.length l) (hn : n ≤ l.length) (hc : l.length ≤ c) : (Kd.int .u8).C w (A.map (·.add n)) (l.drop n).length (l.drop n) := by
  by_cases he : c = n
  · have : l.drop n = [] := List.drop_eq_nil_of_le (by omega)
    rw [this]
    exact ⟨rfl, by simp, fun h => absurd h (Nat.lt_irrefl 0)⟩
  · have := Kd.C_drop h hn hc
    rw [if_neg he] at this
    simpa [show (Kd.int .u8).sz = 1 from rfl] using this
def TakeQ (w0 w : World) (g : Nat) (r : List Int × List Int × Bool) (e : Ending) (w' : World) : Prop :=
  ∃ A c, e = .returned (.slice A r.1.length c) ∧ r.1.length ≤ c ∧ (Kd.int .u8).C w0 A r.1.length r.1 ∧ Rd w0 w' g r.2.1 r.2.2 ∧ Kept w w' (fun k => k = g) ∧ Below w0.heap.size w0 w'
theorem takeP_yes {l : List Int} {bad : Bool} {n : Nat} (h : bad = true ∨ l.length < n) : takeP l bad n = ([], l, true) := if_pos h
theorem takeP_no {l : List Int} {n : Nat} (h : n ≤ l.length) : takeP l false n = (l.take n, l.drop n, false) := if_neg (by simp; omega)
set_option maxHeartbeats 1000000 in
set_option maxRecDepth 100000 in
theorem take_calls (w0 w : World) (g : Nat) (l : List Int) (bad : Bool) (n : Nat) (hB : Below w0.heap.size w0 w) (hg : w0.heap.size ≤ g) (h : Rd w0 w g l bad) :
    Calls Try.prog 43 #[.pointer (some ⟨g, 0, none⟩), .int .i64 n] w (TakeQ w0 w g (takeP l bad n)) := by
  have HR := Aside0.mk h
  obtain ⟨A, k, c, hb, hk, hkc, hC, hl⟩ := h
  have m0 : w.cell? ⟨g, 0, none⟩ = some (.slice A k c) := blk_cell hb 0
  have m1 : w.cell? ⟨g, 1, none⟩ = some (.bool bad) := blk_cell hb 1
  have f0 := blk_frozen hb 0
  have f1 := blk_frozen hb 1
  have HB := Aside0.mk hB
  have HG := Aside0.mk hg
  have HC := Aside0.mk hC
  have HK := Aside0.mk hk
  have HL := Aside0.mk hl
  have Hb := Aside0.mk hb
  obtain ⟨r, hr⟩ : ∃ r, r = takeP l bad n := ⟨_, rfl⟩
  rw [← hr]
  have Hr := Aside0.mk hr
  clear hC hk hl hB hg hb hr
  by_cases hbad : bad = true ∨ l.length < n
  · have HE : Aside0 (r = ([], l, true)) := ⟨by rw [Hr.out]; exact takeP_yes hbad⟩
    have fin : TakeQ w0 w g r (.returned (.slice none 0 0)) (w.setCell ⟨g, 1, none⟩ (.bool true)) := by
      rw [HE.out]
      exact ⟨none, 0, rfl, Nat.le_refl _, Kd.C_nil _ _, HR.out.set, Kept.setCell (S := fun k => k = g) (p := ⟨g, 1, none⟩) (Kept.refl _ _) (.inl rfl) _, HB.out.setCell HG.out _⟩
    have FIN := Aside0.mk fin
    clear fin
    cases bad
    · have e2 : decide (k < n) = true := decide_eq_true (by have := HK.out; simp at hbad; omega)
      clear hbad
      go_enter Try.func43, Try.ntmps43
      go_wp2
      go_ret
      exact FIN.out
    · clear hbad
      go_enter Try.func43, Try.ntmps43
      go_wp2
      go_ret
      exact FIN.out
  · have hbad : bad = false ∧ n ≤ l.length := by cases bad <;> simp_all
    obtain ⟨rfl, hn⟩ := hbad
    have HE : Aside0 (r = (l.take n, l.drop n, false)) := ⟨by rw [Hr.out]; exact takeP_no hn⟩
    have e2 : decide (k < n) = false := decide_eq_false (by have := HK.out; omega)
    have hn' : n ≤ k := by rw [HK.out]; exact hn
    have hnc : n ≤ c := Nat.le_trans hn' hkc
    have fin : ∀ B c', (Kd.int .u8).C w0 B (l.drop n).length (l.drop n) → k - n ≤ c' → TakeQ w0 w g r (.returned (.slice A n c)) (w.setCell ⟨g, 0, none⟩ (.slice B (k - n) c')) := by
      intro B c' hB hc'
      rw [HE.out]
      have h1 : (l.take n).length = n := by rw [List.length_take]; omega
      refine ⟨A, c, by rw [h1], by rw [h1]; exact hnc, Kd.C_take HC.out hn, ⟨_, _, _, blk_set Hb.out 0 _, by rw [List.length_drop, ← HK.out], hc', hB, by have := HL.out; rw [List.length_drop]; omega⟩, Kept.setCell (S := fun k => k = g) (p := ⟨g, 0, none⟩) (Kept.refl _ _) (.inl rfl) _, HB.out.setCell HG.out _⟩
    have hr0 := C_rest HC.out hn (by rw [← HK.out]; exact hkc)
    have FIN := Aside0.mk fin
    have HR0 := Aside0.mk hr0
    clear fin hr0
    by_cases hcn : c = n
    · have hz : l.drop n = [] := List.drop_eq_nil_of_le (by rw [← HK.out]; omega)
      have HZ : Aside0 ((Kd.int .u8).C w0 A (l.drop n).length (l.drop n)) := ⟨by rw [hz]; exact ⟨rfl, by simp, fun h => absurd h (Nat.lt_irrefl 0)⟩⟩
      obtain rfl : k = n := by omega
      subst hcn
      clear hz
      go_enter Try.func43, Try.ntmps43
      go_wp2
      go_ret
      have q := FIN.out A 0 HZ.out (by omega)
      rw [Nat.sub_self] at q
      exact q
    · go_enter Try.func43, Try.ntmps43
      go_wp2
      go_ret
      exact FIN.out _ _ HR0.out (by omega)
theorem takeP_len {l : List Int} {bad : Bool} {n m : Nat} (h : n ≤ m) : (takeP l bad n).1.length ≤ m := by
  unfold takeP
  split
  · simp
  · simp; omega
theorem takeP_bytes {l : List Int} {bad : Bool} {n : Nat} (h : ∀ x ∈ l, 0 ≤ x ∧ x ≤ 255) : ∀ x ∈ (takeP l bad n).1, 0 ≤ x ∧ x ≤ 255 := by
  unfold takeP
  split
  · simp
  · exact fun x hx => h x (List.mem_of_mem_take hx)
/-- The number that bytes are, the greatest first. -/
def beV (l : List Int) : Nat := l.foldl (fun v x => v * 256 + x.toNat) 0
theorem beV_snoc (l : List Int) (x : Int) : beV (l ++ [x]) = beV l * 256 + x.toNat := by simp [beV, List.foldl_append]
theorem beV_take (l : List Int) (i : Nat) (h : i < l.length) : beV (l.take (i + 1)) = beV (l.take i) * 256 + (l.getD i 0).toNat := by
  rw [List.take_succ_eq_append_getElem h, beV_snoc]
  simp [h]
theorem foldl_lt : ∀ (l : List Int) (a : Nat), (∀ x ∈ l, 0 ≤ x ∧ x ≤ 255) → l.foldl (fun v x => v * 256 + x.toNat) a < (a + 1) * 256 ^ l.length
  | [], a, h => by simp
  | x :: l, a, h => by
    rw [List.foldl_cons, List.length_cons, Nat.pow_succ]
    have h1 := foldl_lt l (a * 256 + x.toNat) (fun y hy => h y (List.mem_cons_of_mem _ hy))
    have h2 := h x List.mem_cons_self
    refine Nat.lt_of_lt_of_le h1 ?_
    rw [Nat.mul_comm (256 ^ l.length) 256, ← Nat.mul_assoc]
    exact Nat.mul_le_mul_right _ (by omega)
theorem beV_lt (l : List Int) (hb : ∀ x ∈ l, 0 ≤ x ∧ x ≤ 255) : beV l < 256 ^ l.length := by
  have := foldl_lt l 0 hb
  simpa [beV] using this
theorem wraps_u64 (n : Int) (h₀ : 0 ≤ n) (h₁ : n < 2 ^ 64) : IntKind.u64.wrap n = n := by
  simp [IntKind.wrap, IntKind.signed, IntKind.bits]
  omega
theorem or_low (v x : Int) (h0 : 0 ≤ v) (h1 : v < 72057594037927936) (x0 : 0 ≤ x) (x1 : x ≤ 255) : bits .or .u64 (IntKind.u64.wrap (v * 256)) (IntKind.u64.wrap x) = v * 256 + x := by
  rw [wraps_u64 _ (by omega) (by omega), wraps_u64 _ (by omega) (by omega)]
  exact bits_join .u64 64 (by decide) wraps_u64 8 (v * 256) x (by omega) (by omega) (by omega) x0 (by omega) (by omega)
def numP (l : List Int) (bad : Bool) (size most : Nat) : Nat × List Int × Bool :=
  if most < beV (takeP l bad size).1 then (0, (takeP l bad size).2.1, true) else (beV (takeP l bad size).1, (takeP l bad size).2.1, (takeP l bad size).2.2)
def NumQ (w0 w : World) (g : Nat) (r : Nat × List Int × Bool) (e : Ending) (w' : World) : Prop :=
  e = .returned (.int .i64 r.1) ∧ Rd w0 w' g r.2.1 r.2.2 ∧ Kept w w' (fun k => k = g) ∧ Below w0.heap.size w0 w'
set_option maxHeartbeats 1000000 in
set_option maxRecDepth 100000 in
theorem rnum_calls (w0 w : World) (g : Nat) (l : List Int) (bad : Bool) (size most : Nat) (hB : Below w0.heap.size w0 w) (hg : w0.heap.size ≤ g) (h : Rd w0 w g l bad) (hby : ∀ x ∈ l, 0 ≤ x ∧ x ≤ 255) (hs : size ≤ 8) (hm : most ≤ 9223372036854775807) :
    Calls Try.prog 29 #[.pointer (some ⟨g, 0, none⟩), .int .i64 size, .int .i64 most] w (NumQ w0 w g (numP l bad size most)) := by
  have HR := Aside0.mk h
  have HB := Aside0.mk hB
  have HG := Aside0.mk hg
  have HBY := Aside0.mk hby
  have HS := Aside0.mk hs
  have HM := Aside0.mk hm
  obtain ⟨t, ht⟩ : ∃ t, t = takeP l bad size := ⟨_, rfl⟩
  obtain ⟨r, hr⟩ : ∃ r, r = numP l bad size most := ⟨_, rfl⟩
  rw [← hr]
  have Hr := Aside0.mk hr
  have Ht := Aside0.mk ht
  clear h hB hg hby hs hm ht hr
  go_enter Try.func29, Try.ntmps29
  go_wp2_with fail
  refine (take_calls w0 w g l bad size HB.out HG.out HR.out).mono ?_
  rw [← Ht.out]
  rintro e w1 ⟨A, c, rfl, hc, hC, hR, hK, hb⟩
  have HC := Aside0.mk hC
  have HR1 := Aside0.mk hR
  have HK1 := Aside0.mk hK
  have HB1 := Aside0.mk hb
  obtain ⟨n, hn⟩ : ∃ n, n = t.1.length := ⟨_, rfl⟩
  rw [← hn] at hc ⊢
  have HN := Aside0.mk hn
  clear hC hR hK hb hn
  have hn8 : n ≤ 8 := by rw [HN.out, Ht.out]; exact takeP_len HS.out
  have htb : ∀ x ∈ t.1, 0 ≤ x ∧ x ≤ 255 := by rw [Ht.out]; exact takeP_bytes HBY.out
  have HTB := Aside0.mk htb
  clear htb
  go_wp2_with fail
  go_loopg [7, 14] 8 (fun gk v7 v14 wr => ∃ (i : Nat) (v : Int), v7 = .int .u64 v ∧ v14 = .int .i64 i ∧ Aside0 (v = ((beV (t.1.take i) : Nat) : Int)) ∧ Aside0 (i ≤ n) ∧ Aside0 (n - i ≤ gk) ∧ Aside0 (wr = w1))
  case atStart => exact ⟨0, 0, rfl, rfl, ⟨rfl⟩, ⟨by omega⟩, ⟨by omega⟩, ⟨rfl⟩⟩
  case round =>
    obtain ⟨i, v, rfl, rfl, HV, HI, HGK, HW⟩ := hrel
    obtain rfl := HW.out
    have hi := HI.out
    by_cases hlt : i < n
    · have l1 : decide (i < n) = true := decide_eq_true hlt
      have l2 : (i : Int) < (n : Int) := by omega
      obtain ⟨ad, hA1, hcell⟩ := Kd.at_int HC.out (i : Int) (by omega) (by rw [← HN.out]; omega)
      subst hA1
      have hc2 : wr.cell? (ad.add i) = some (.int .u8 (t.1.getD i 0)) := (HB1.out.cell (World.block_lt_of_cell? _ _ hcell)).trans hcell
      obtain ⟨x, hx⟩ : ∃ x, x = t.1.getD i 0 := ⟨_, rfl⟩
      rw [← hx] at hc2
      have hxb : 0 ≤ x ∧ x ≤ 255 := by
        rw [hx, List.getD_eq_getElem?_getD, List.getElem?_eq_getElem (by rw [← HN.out]; exact hlt)]
        exact HTB.out _ (List.getElem_mem _)
      have hv : 0 ≤ v ∧ v < 72057594037927936 := by
        have h1 := beV_lt (t.1.take i) (fun y hy => HTB.out y (List.mem_of_mem_take hy))
        have h2 : (256 : Nat) ^ (t.1.take i).length ≤ 256 ^ 7 := Nat.pow_le_pow_right (by decide) (by rw [List.length_take]; omega)
        rw [HV.out]
        have h3 : (256 : Nat) ^ 7 = 72057594037927936 := by decide
        omega
      have ho := or_low v x hv.1 hv.2 hxb.1 hxb.2
      have HX := Aside0.mk hx
      have HXB := Aside0.mk hxb
      clear hx hxb hv hcell
      go_wp2
      go_roundg (n - (i + 1))
      case measure => have := HGK.out; omega
      case rel =>
        refine ⟨i + 1, v * 256 + x, by first | rfl | rw [ho], by go_num, ⟨?_⟩, ⟨by omega⟩, ⟨Nat.le_refl _⟩, ⟨rfl⟩⟩
        rw [beV_take _ _ (by rw [← HN.out]; exact hlt), ← HX.out, ← HV.out.symm]
        have h1 := HXB.out
        have h2 := HV.out
        omega
    · have l1 : decide (i < n) = false := decide_eq_false hlt
      have hin : t.1.take i = t.1 := List.take_of_length_le (by rw [← HN.out]; omega)
      have hv : v = ((beV t.1 : Nat) : Int) := by rw [HV.out, hin]
      have hmw : IntKind.u64.wrap (most : Int) = most := wraps_u64 _ (by omega) (by have := HM.out; omega)
      have hr1 : r = if most < beV t.1 then (0, t.2.1, true) else (beV t.1, t.2.1, t.2.2) := by rw [Hr.out, numP, ← Ht.out]
      by_cases hbig : most < beV t.1
      · rw [if_pos hbig] at hr1
        have l3 : decide ((most : Int) < v) = true := decide_eq_true (by omega)
        have fin : NumQ w0 w g r (.returned (.int .i64 0)) (wr.setCell ⟨g, 1, none⟩ (.bool true)) := by
          rw [hr1]
          exact ⟨rfl, HR1.out.set, HK1.out.setCell (p := ⟨g, 1, none⟩) (.inl rfl) _, HB1.out.setCell HG.out _⟩
        have FIN := Aside0.mk fin
        obtain ⟨A', k', c', hb', _⟩ := HR1.out
        have f1 := blk_frozen hb' 1
        have m1 : wr.cell? ⟨g, 1, none⟩ = some (.bool t.2.2) := blk_cell hb' 1
        clear hr1 fin hin hv hb'
        go_wp2
        go_ret
        exact FIN.out
      · rw [if_neg hbig] at hr1
        have l3 : decide ((most : Int) < v) = false := decide_eq_false (by omega)
        have hvw : IntKind.i64.wrap v = v := by rw [IntKind.wrap_i64]; have := HM.out; omega
        have fin : NumQ w0 w g r (.returned (.int .i64 v)) wr := by
          rw [hr1, hv]
          exact ⟨rfl, HR1.out, HK1.out, HB1.out⟩
        have FIN := Aside0.mk fin
        clear hr1 fin hin hv
        go_wp2
        go_ret
        exact FIN.out
end Go.Proofs.Ytbemfgpdfacdpaa.Ms
