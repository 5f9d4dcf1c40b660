/- 6 texts of the proof, put together, less what is not used; what a tool printed stands among them. -/
import Derived.RegionTactic
import Derived.ChangeAlike
import Derived.BigRegion
import Derived.Lib.Join
import Derived.Test.YtdlahgamdigkhaaDoorMAt8
set_option linter.unusedVariables false
set_option linter.unusedSimpArgs false
set_option maxRecDepth 100000
namespace Go.Proofs
open Go.RowKit
theorem nAt9_ {p_ : Prop} (h_ : p_ := by
 simp only [Act.put, List.setIfInBounds_toArray, List.set_cons_zero, List.set_cons_succ, i64_w, i32_w]
 rfl) : p_ := h_
theorem sAt9_0 {p_ : Prop} (h_ : p_ := by
 have l3 : decide ((60 : Int) ≤ (it : Int)) = true := decide_eq_true (by omega)
 have HRE0 : Aside0 (R = .error (2, p0)) := ⟨by rw [HRK.out, item_in HTK2.out HMEM.out, if_neg (by rw [HWD.out]; decide +kernel), if_neg (by rw [HWD.out]; decide +kernel), if_pos (by have := HIT.out; omega)]; rfl⟩
 go_wp2_with fail
 refine (r_wrong (T := T) (e := s.size) p 2 HI8.out HB8.out).mono ?_
 rintro e w9 ⟨rfl, hs, hb, hk⟩
 dsimp only
 have HIX := Aside0.mk hs
 have HBX := Aside0.mk hb
 have HKX := Aside0.mk hk
 clear hs hb hk
 rw [← HTK2.out] at HIX
 have hc9 : (2 : Int) ≠ 0 := by decide
 obtain ⟨cE, hcE⟩ : ∃ cE : Int, cE = 2 := ⟨_, rfl⟩
 rw [← hcE] at HIX hc9 HRE0
 have HRE := HRE0
 clear hcE HRE0
 exact sc_bad) : p_ := h_
theorem sAt9_1 {p_ : Prop} (h_ : p_ := by
 intro w'
 go_simp
 with_reducible rfl) : p_ := h_
end Go.Proofs
namespace Go.Proofs.YtdlahgamdigkhaaDoor.Pu
open Go.RowKit Go.Proofs.YtdlahgamdigkhaaDoor.Pr Go.Proofs.YtdlahgamdigkhaaDoorW.PrintWords Go.Proofs.YtdlahgamdigkhaaDoorW.PrintLast Go.Proofs.YtdlahgamdigkhaaDoorW.PrintMore Go.Proofs.YtdlahgamdigkhaaDoor.Lx
open Go.Proofs.YtdlahgamdigkhaaDoor.Ps hiding Tk
theorem memB_nil (s : ByteArray) : memB s [] = false := rfl
theorem six_of {wd : ByteArray} (h : memB wd six = true) : wd = wCsp ∨ wd = wShare ∨ wd = wMixed ∨ wd = wDefault ∨ (wd = wAllow ∨ wd = wDeny) := by
 simp only [memB, six, List.any_cons, List.any_nil, Bool.or_eq_true, decide_eq_true_eq, Bool.or_false] at h
 exact h
theorem isP_six {T : List Tk} {e : Int} {p : Nat} {k0 p0 : Int} {wd : ByteArray} (ht : (⟨k0, p0, wd⟩ : Tk) = nxt T e p) : isP T e [wCsp, wShare, wMixed, wDefault, wAllow, wDeny] p = (decide (k0 = 1) && memB wd six) := by
 rw [isP, ← ht]; rfl
theorem item_no {T : List Tk} {e : Int} {st : Pst} {p : Nat} {k0 p0 : Int} {wd : ByteArray} (ht : (⟨k0, p0, wd⟩ : Tk) = nxt T e p) (h : (decide (k0 = 1) && memB wd six) = false) : itemP T e st p = .error (8, p0) := by
 rw [itemP, isP_six ht, h, if_neg Bool.false_ne_true, ← ht]
theorem item_in {T : List Tk} {e : Int} {st : Pst} {p : Nat} {p0 : Int} {wd : ByteArray} (ht : (⟨1, p0, wd⟩ : Tk) = nxt T e p) (h : memB wd six = true) : itemP T e st p =
  if wd = wMixed then (if st.metM + 1 > 1 then .error (10, p0) else if st.items + 1 > 60 then .error (2, p0) else itemK T e { st with metM := st.metM + 1, items := st.items + 1 } wd (p + 1))
  else if wd = wDefault then (if st.metD + 1 > 1 then .error (10, p0) else if st.items + 1 > 60 then .error (2, p0) else itemK T e { st with metD := st.metD + 1, items := st.items + 1 } wd (p + 1))
  else if st.items + 1 > 60 then .error (2, p0) else itemK T e { st with items := st.items + 1 } wd (p + 1) := by
 have htk : takeP T e 1 p = .ok (wd, p + 1) := by rw [takeP, ← ht]; rfl
 have hmd : isP T e [wMixed, wDefault] p = memB wd [wMixed, wDefault] := by rw [isP, ← ht]; rfl
 rw [itemP, isP_six ht, h, if_pos (by rfl), onceP, hmd, ← ht, htk]
 by_cases h1 : wd = wMixed
 ·subst h1
  rw [show memB wMixed [wMixed, wDefault] = true from by decide +kernel, if_pos rfl, if_pos rfl]
  dsimp only
  rw [if_pos rfl]
  by_cases h2 : st.metM + 1 > 1
  ·rw [if_pos h2, if_pos h2]
  ·rw [if_neg h2, if_neg h2]
 ·by_cases h2 : wd = wDefault
  ·subst h2
   rw [show memB wDefault [wMixed, wDefault] = true from by decide +kernel, if_pos rfl, if_neg h1, if_pos rfl]
   dsimp only
   rw [if_neg h1]
   by_cases h3 : st.metD + 1 > 1
   ·rw [if_pos h3, if_pos h3]
   ·rw [if_neg h3, if_neg h3]
  ·rw [show memB wd [wMixed, wDefault] = false from by rw [memB_cons, memB_cons, memB_nil, decide_eq_false h1, decide_eq_false h2]; rfl, if_neg Bool.false_ne_true, if_neg h1, if_neg h2]
theorem wordP_yes {T : List Tk} {e : Int} {ws : List ByteArray} {p : Nat} (w : ByteArray) (hw : memB w ws = true) (h : isP T e [w] p = true) : wordP T e ws p = .ok (w, p + 1) := by
 obtain ⟨h1, h2⟩ := one_word h
 rw [wordP, show isP T e ws p = true from by rw [isP, h1, h2, hw]; rfl, if_pos rfl, takeP, if_pos h1, h2]
theorem wordP_no {T : List Tk} {e : Int} {ws : List ByteArray} {p : Nat} (h : isP T e ws p = false) : wordP T e ws p = .error (8, (nxt T e p).f1) := by
 rw [wordP, h, if_neg Bool.false_ne_true]
theorem step_eq {T : List Tk} {e : Int} {f : Nat} {st : Pst} {p : Nat} {R : Except (Int × Int) Pst} (hR : R = itemsP T e f st p) (hf : T.length + 1 ≤ f + p) (hp : p < T.length) : ∃ f', T.length ≤ f' + p ∧ R = itemsK T e f' (itemP T e st p) := by
 obtain ⟨f', rfl⟩ : ∃ f', f = f' + 1 := ⟨f - 1, by omega⟩
 exact ⟨f', by omega, by rw [hR, itemsP_succ hp]⟩
section
variable {w0 W : World} {gr gp : Nat} {T : List Tk} {e : Int} {R : Except (Int × Int) Pst} {p0 : Nat} {mx df : Bool} {n i c a : Int} {f : Nat} {s5 : Pst} {q : Nat} {v0 v1 v3 : Value} {okS okR : Nat → Prop}
structure Cnt (mx df : Bool) (n : Int) (p0 q f : Nat) (T : List Tk) (s5 : Pst) : Prop where
 m : mx = decide (s5.metM = 1)
 d : df = decide (s5.metD = 1)
 n : n + 1 = (s5.items : Int)
 q : q = p0 + 1
 f : T.length ≤ f + p0
theorem mid_csp {t : ByteArray} (hQ : NxQ (takeP T e 2 q) t i c a) (hR : R = itemsK T e f (cspK s5 (takeP T e 2 q))) (hS : RS w0 W gr gp v0 v1 v3 { s5 with csp := s5.csp ++ [t] } okS okR) (hc : Cnt mx df n p0 q f T s5) : MidQ w0 W gr gp T e R p0 mx df n i c a := by
 cases ht : takeP T e 2 q with
 | error x =>
  obtain ⟨x, y⟩ := x
  rw [ht] at hQ hR
  obtain ⟨hx, hi, rfl, rfl, _⟩ := hQ
  exact .inl ⟨hx, hi, hR⟩
 | ok x =>
  obtain ⟨t', q2⟩ := x
  rw [ht] at hQ hR
  obtain ⟨rfl, rfl, rfl, rfl⟩ := hQ
  have := takeP_mono ht
  have := hc.q
  exact .inr ⟨f, { s5 with csp := s5.csp ++ [t] }, q2, v0, v1, v3, okS, okR, rfl, rfl, rfl, by omega, hc.m, hc.d, hc.n, hc.f, hR, hS⟩
theorem mid_sha {h : Sh} (hQ : ShQ (shareP T e q) h i c a) (hR : R = itemsK T e f (shaK s5 (shareP T e q))) (hS : RS w0 W gr gp v0 v1 v3 { s5 with shares := s5.shares ++ [h] } okS okR) (hc : Cnt mx df n p0 q f T s5) : MidQ w0 W gr gp T e R p0 mx df n i c a := by
 cases ht : shareP T e q with
 | error x =>
  obtain ⟨x, y⟩ := x
  rw [ht] at hQ hR
  obtain ⟨hx, hi, rfl, rfl⟩ := hQ
  exact .inl ⟨hx, hi, hR⟩
 | ok x =>
  obtain ⟨t', q2⟩ := x
  rw [ht] at hQ hR
  obtain ⟨rfl, rfl, rfl, rfl⟩ := hQ
  have := shareP_mono ht
  have := hc.q
  exact .inr ⟨f, { s5 with shares := s5.shares ++ [h] }, q2, v0, v1, v3, okS, okR, rfl, rfl, rfl, by omega, hc.m, hc.d, hc.n, hc.f, hR, hS⟩
theorem mid_rul {h : Cd} {wd : ByteArray} {q1 : Nat} (hQ : CdQ (condP T e q1) h i c a) (hq : q ≤ q1) (hR : R = itemsK T e f (ruleK s5 wd (condP T e q1))) (hS : RS w0 W gr gp v0 v1 v3 { s5 with rules := s5.rules ++ [⟨decide (wd = wAllow), h⟩] } okS okR) (hc : Cnt mx df n p0 q f T s5) : MidQ w0 W gr gp T e R p0 mx df n i c a := by
 cases ht : condP T e q1 with
 | error x =>
  obtain ⟨x, y⟩ := x
  rw [ht] at hQ hR
  obtain ⟨hx, hi, rfl, rfl⟩ := hQ
  exact .inl ⟨hx, hi, hR⟩
 | ok x =>
  obtain ⟨t', q2⟩ := x
  rw [ht] at hQ hR
  obtain ⟨rfl, rfl, rfl, rfl⟩ := hQ
  have := condP_mono T e _ _ _ ht
  have := hc.q
  exact .inr ⟨f, { s5 with rules := s5.rules ++ [⟨decide (wd = wAllow), h⟩] }, q2, v0, v1, v3, okS, okR, rfl, rfl, rfl, by omega, hc.m, hc.d, hc.n, hc.f, hR, hS⟩
theorem mid_ok {st : Pst} {q2 : Nat} (hq : q ≤ q2) (hm : st.metM = s5.metM) (hd : st.metD = s5.metD) (hn : st.items = s5.items) (hR : R = itemsK T e f (.ok (st, q2))) (hS : RS w0 W gr gp v0 v1 v3 st okS okR) (hc : Cnt mx df n p0 q f T s5) : MidQ w0 W gr gp T e R p0 mx df n (q2 : Int) 0 0 := by
 have := hc.q
 exact .inr ⟨f, st, q2, v0, v1, v3, okS, okR, rfl, rfl, rfl, by omega, by rw [hm]; exact hc.m, by rw [hd]; exact hc.d, by rw [hn]; exact hc.n, hc.f, hR, hS⟩
theorem mid_err {x y : Int} (hx : x ≠ 0) (hi : 0 ≤ i) (hR : R = itemsK T e f (.error (x, y))) : MidQ w0 W gr gp T e R p0 mx df n i x y := .inl ⟨hx, hi, hR⟩
end
set_option maxHeartbeats 40000000
set_option maxRecDepth 100000
theorem sc_bad {p_ : Prop} (h_ : p_ := by
 obtain rfl : R = .error (cE, p0) := HRE.out
 have l0 : (cE != (0 : Int)) = true := by simp [hc9]
 go_wp2_with fail
 refine (bad_quiet w2 _ gr T _ _ cE p0 true l0 HIX.out).mono ?_
 rintro e w' ⟨rfl, hww⟩
 obtain rfl := hww.symm
 clear hww
 dsimp only
 obtain ⟨A9, c9, hb9, _, _⟩ := HIX.out
 have d3 : w9.drew.cell? ⟨gr, 3, none⟩ = some (.int .i64 cE) := cellS66_3 hb9
 have d4 : w9.drew.cell? ⟨gr, 4, none⟩ = some (.int .i64 p0) := cellS66_4 hb9
 have HP9 : Aside0 (w9.heap[gA]? = some (.cells (polcells (.slice none 0 0) (.slice none 0 0) ⟨#[]⟩ (.slice none 0 0) false) 26 (0, 0))) := ⟨blk_below HP2.out HBX.out⟩
 have HF9 : Aside0 (w9.heap[gA + 1]? = some (.cells #[.int .i64 0, .int .i64 0] 50 (0, 0))) := ⟨blk_below HF2.out HBX.out⟩
 have HGR : Aside0 (gA + 1 < gr) := ⟨by have := HLT.out; have := HZ2.out; have := HGX.out; omega⟩
 clear hb9
 go_upto_region 45 with (fail)
 refine start_ (n := 7) (S := fun w' => w'.cell? ⟨gr, 3, none⟩ = some (.int .i64 cE) ∧ w'.cell? ⟨gr, 4, none⟩ = some (.int .i64 p0)) (ds := [6]) #[false, false, false, false, false, false, false] (by kernel_rfl) rfl rfl ⟨d3, d4⟩ (fun hHeld => ?_)
 refine pure_ (i := 0) (N := some 153) (v := ?_) (a' := ?_) #[true, false, false, false, false, false, false] rfl rfl (by kernel_rfl) (fun _ _ _ h => h) (Or.inl ⟨by rfl, ?_⟩) ?_ ?_
 rotate_left
 ·exact sAt9_1
 rotate_left
 ·exact nAt9_
 refine pure_ (i := 1) (N := some 154) (v := ?_) (a' := ?_) #[true, true, false, false, false, false, false] rfl rfl (by kernel_rfl) (fun _ _ _ h => h) (Or.inl ⟨by rfl, ?_⟩) ?_ ?_
 rotate_left
 ·exact sAt9_1
 rotate_left
 ·exact nAt9_
 refine pure_ (i := 2) (N := some 155) (v := ?_) (a' := ?_) #[true, true, true, false, false, false, false] rfl rfl (by kernel_rfl) (fun _ _ _ h => h) (Or.inl ⟨by rfl, ?_⟩) ?_ ?_
 rotate_left
 ·exact sAt9_1
 rotate_left
 ·exact nAt9_
 refine pure_ (i := 3) (N := some 156) (v := ?_) (a' := ?_) #[true, true, true, true, false, false, false] rfl rfl (by kernel_rfl) (fun _ _ _ h => h) (Or.inl ⟨by rfl, ?_⟩) ?_ ?_
 rotate_left
 ·exact sAt9_1
 rotate_left
 ·exact nAt9_
 refine take_ (i := 4) (N := some 157) (v := ?_) (a' := ?_) #[true, true, true, true, true, false, false] rfl rfl (by kernel_rfl) (fun _ _ _ h => h) (Or.inl ⟨by rfl, ?_⟩) hHeld ?_ ?_
 rotate_left
 ·rintro w' ⟨s0, s1⟩
  go_simp
  with_reducible rfl
 rotate_left
 ·exact nAt9_
 refine one_ (i := 5) (N := none) #[true, true, true, true, true, true, false] rfl rfl (by kernel_rfl) (by decide) (fun K hK => ?_)
 refine QT.storeRow_ (by rfl) rfl 26 (.tmp 2) (.tmp 153) rfl gA #[.slice none 0 0, .slice none 0 0, .string ⟨#[]⟩, .slice none 0 0, .bool false] rfl rfl 26 _ HP9.out (by kernel_rfl) rfl (by simp [Value.oneCell']) ?_
 refine hK.out _ _ ⟨(cell_setRow_other _ _ _ _ (show gr ≠ gA by have := HGR.out; omega)).trans hHeld.1, (cell_setRow_other _ _ _ _ (show gr ≠ gA by have := HGR.out; omega)).trans hHeld.2⟩ (fun hHeld => ?_)
 clear hK K
 refine last_ (i := 6) (N := none) #[true, true, true, true, true, true, true] rfl rfl (by kernel_rfl) (by decide) (fun K hK => ?_)
 refine QT.storeRow_ (by rfl) rfl 50 (.tmp 3) (.tmp 157) rfl (gA + 1) #[.int .i64 cE, .int .i64 p0] rfl rfl 50 #[.int .i64 0, .int .i64 0] ((setRow_other _ _ _ _ (show gA + 1 ≠ gA by omega)).trans HF9.out) (by kernel_rfl) rfl (by simp [Value.oneCell']) ?_
 refine hK.out _ _ ?_
 clear hK K
 refine done_ (by kernel_rfl) ?_

 rw [hput, hput]
 clear hput
 go_wp2
 refine bodyPost_ret (rpol_results _ _ gA (gA + 1) _ _ rfl rfl ?_ ?_ rfl rfl) rfl ⟨rfl, ?_⟩
 ·exact (setRow_other _ _ _ _ (show gA ≠ gA + 1 by omega)).trans (setRow_heap _ _ _ _ _ _ HP9.out)
 ·exact setRow_heap _ _ _ _ _ _ ((setRow_other _ _ _ _ (show gA + 1 ≠ gA by omega)).trans HF9.out)
 ·exact below_setRow (below_setRow (below_drew (HB2.out.trans (HBX.out.mono HB2.out.size))) (by rw [HGA.out]; omega) _) (by rw [HGA.out]; omega) _) : p_ := h_
theorem sc_round {p_ : Prop} (h_ : p_ := by
 go_wp2_with fail
 refine (mid_next HMR.out HPT.out HLN.out HIR.out HBR.out).mono ?_
 rintro e w20 ⟨t20, i20, c20, a20, rfl, hi20, hb20, hs20⟩
 dsimp only
 have HI20 := Aside0.mk hi20
 have HB20 := Aside0.mk hb20
 have HS20 := Aside0.mk hs20
 clear hi20 hb20 hs20
 go_wp2
 go_roundg (T.length - p)
 case measure => have := HGK.out; have := HPT.out; omega
 case rel => exact ⟨_, _, _, i20, c20, a20, rfl, rfl, rfl, HI20, HB20, HS20⟩) : p_ := h_
theorem rpolicy_calls (s : ByteArray) (k : Nat) (T : List Tk) (c a : Int) (w : World) (h : parapetref19_Tokens.f k s = some (T, c, a)) (hsz : ∀ t ∈ T, t.f2.size ≤ 1000000) (hln : T.length ≤ 1000000) (hss : c = 0 → s.size ≤ 1000000) :
  Calls Tryd.prog 14 #[.string s] w (PolQR w (polT s.size (T, c, a))) := by
 have HSZ := Aside0.mk hsz
 have HLN := Aside0.mk hln
 have HSS := Aside0.mk hss
 obtain ⟨gA, hgA⟩ : ∃ gA, gA = w.heap.size := ⟨_, rfl⟩
 obtain ⟨R, hR⟩ : ∃ R, R = polT s.size (T, c, a) := ⟨_, rfl⟩
 rw [← hR]
 have HR := Aside0.mk hR
 clear hR hsz hln hss
 have HTK := Aside0.mk h
 clear h
 go_enter Tryd.func14, Tryd.ntmps14
 go_wp2_with fail
 refine (parapetref19_Tokens.calls k s T c a _ HTK.out).mono ?_
 rintro e w1 ⟨v0, rfl, hT, hb⟩
 dsimp only
 have HF1 : Aside0 (w1.heap[gA + 1]? = some (.cells #[.int .i64 0, .int .i64 0] 50 (0, 0))) := ⟨by rw [hgA]; exact blk_below (blk_new2 _ _ _ _ _) hb⟩
 have HP1 : Aside0 (w1.heap[gA]? = some (.cells (polcells (.slice none 0 0) (.slice none 0 0) ⟨#[]⟩ (.slice none 0 0) false) 26 (0, 0))) := ⟨by rw [hgA]; exact blk_below (blk_alloc (blk_new _ _) _) hb⟩
 have HB1 : Aside0 (Below w.heap.size w w1) := ⟨(below_alloc (below_alloc (Below.refl _ _) _) _).trans (hb.mono (below_alloc (below_alloc (Below.refl _ _) _) _).size)⟩
 obtain ⟨A0, c0, e0⟩ := Kd.R_slice hT
 obtain ⟨n0, hn0⟩ : ∃ n0, n0 = T.length := ⟨_, rfl⟩
 rw [← hn0] at e0
 subst e0
 rw [size_two, ← hgA] at hT
 have HT1 := Aside0.mk hT
 have HN0 := Aside0.mk hn0
 have HGA := Aside0.mk hgA
 clear hT hb hn0
 rw [← hgA]
 clear hgA
 obtain ⟨gf, hgf⟩ : ∃ gf, gf = w1.heap.size := ⟨_, rfl⟩
 have hput : ∀ (a : Act) (v : Value), a.put none v = a := fun _ _ => rfl
 by_cases hc : c = 0
 ·have l1 : (c != (0 : Int)) = false := by simp [hc]
  subst hc
  replace HSS := Aside0.mk (HSS.out rfl)
  go_upto_region 2 with (refine wpList_store_row rfl 50 _ _ rfl w1.heap.size #[.int .i64 0, .int .i64 a] rfl rfl 50 #[.int .i64 0, .int .i64 0] (blk_new _ _) size_fault rfl (by simp [Value.oneCell']) ?_)
  obtain ⟨w2, hw2⟩ : ∃ w2, w2 = (w1.alloc (.cells #[.int .i64 0, .int .i64 0] 50)).setRow w1.heap.size #[.int .i64 0, .int .i64 a] := ⟨_, rfl⟩
  rw [← hw2, ← hgf]
  have HZ2 : Aside0 (gf < w2.heap.size) := ⟨by rw [hw2, hgf]; exact blk_lt (setRow_heap _ _ _ _ _ _ (blk_new w1 (.cells #[.int .i64 0, .int .i64 0] 50)))⟩
  have HX2 : Aside0 (w2.heap[gf]? = some (.cells #[.int .i64 0, .int .i64 a] 50 (0, 0))) := ⟨by rw [hw2, hgf]; exact setRow_heap _ _ _ _ _ _ (blk_new w1 (.cells #[.int .i64 0, .int .i64 0] 50))⟩
  have HLT : Aside0 (gA + 1 < gf) := ⟨by rw [hgf]; exact blk_lt HF1.out⟩
  have HK12 : Aside0 (Below w1.heap.size w1 w2) := ⟨by rw [hw2]; exact below_setRow (below_alloc (Below.refl _ _) _) (Nat.le_refl _) _⟩
  clear hw2
  have HF2 : Aside0 (w2.heap[gA + 1]? = some (.cells #[.int .i64 0, .int .i64 0] 50 (0, 0))) := ⟨blk_below HF1.out HK12.out⟩
  have HP2 : Aside0 (w2.heap[gA]? = some (.cells (polcells (.slice none 0 0) (.slice none 0 0) ⟨#[]⟩ (.slice none 0 0) false) 26 (0, 0))) := ⟨blk_below HP1.out HK12.out⟩
  have HB2 : Aside0 (Below w.heap.size w w2) := ⟨HB1.out.trans (HK12.out.mono HB1.out.size)⟩
  have HC2 : Aside0 (n0 ≤ c0 ∧ k69.C w2 A0 T.length T) := ⟨(Kd.R_reads' HT1.out).2.1, (Kd.R_reads' (Kd.R_below HT1.out HK12.out)).2.2⟩
  clear HF1 HP1 HB1 HT1 HK12 hgf
  have t0 : w2.cell? ⟨gf, 0, none⟩ = some (.int .i64 0) := blk_cell HX2.out 0
  obtain ⟨gr, hgr⟩ : ∃ gr, gr = w2.heap.size := ⟨_, rfl⟩
  go_wp2_with (refine wpList_store_row rfl 26 _ _ rfl (w2.heap.size + 1) (polcells (.slice none 0 0) (.slice none 0 0) wBlock (.slice none 0 0) false) rfl rfl 26 (polcells (.slice none 0 0) (.slice none 0 0) ⟨#[]⟩ (.slice none 0 0) false) (blk_new2 _ _ _ _ _) size_pol rfl (pol_one ⟨rfl, rfl, rfl⟩ _ _) ?_)
  obtain ⟨w3, hw3⟩ : ∃ w3, w3 = ((w2.alloc (.cells #[.slice A0 n0 c0, .int .i64 0, .int .i64 s.size, .int .i64 0, .int .i64 0] 66)).alloc (.cells #[.slice none 0 0, .slice none 0 0, .string ⟨#[]⟩, .slice none 0 0, .bool false] 26)).setRow (w2.heap.size + 1) (polcells (.slice none 0 0) (.slice none 0 0) wBlock (.slice none 0 0) false) := ⟨_, rfl⟩
  obtain ⟨gp, hgp⟩ : ∃ gp, gp = gr + 1 := ⟨_, rfl⟩
  have HX3 : Aside0 (w3.heap[gr]? = some (.cells #[.slice A0 n0 c0, .int .i64 0, .int .i64 s.size, .int .i64 0, .int .i64 0] 66 (0, 0))) := ⟨by rw [hw3, hgr]; exact (setRow_other _ _ _ _ (by omega)).trans (blk_alloc (blk_new _ _) _)⟩
  have HQ3 : Aside0 (w3.heap[gp]? = some (.cells (polcells (.slice none 0 0) (.slice none 0 0) wBlock (.slice none 0 0) false) 26 (0, 0))) := ⟨by rw [hw3, hgp, hgr]; exact setRow_heap _ _ _ _ _ _ (blk_new2 _ _ _ _ _)⟩
  have HB3 : Aside0 (Below w2.heap.size w2 w3) := ⟨by rw [hw3]; exact below_setRow (below_alloc (below_alloc (Below.refl _ _) _) _) (Nat.le_succ _) _⟩
  have HGX : Aside0 (gr = w2.heap.size ∧ gp = gr + 1) := ⟨⟨hgr, hgp⟩⟩
  rw [← hw3, ← hgr, ← hgp]
  clear hw3 hgr hgp t0 l1
  have HI3 : Aside0 (IsR w2 w3 gr T 0 s.size 0 0) := ⟨⟨A0, c0, by rw [← HN0.out]; exact HX3.out, by rw [HGX.out.1]; exact Nat.le_refl _, HC2.out.2⟩⟩
  have HS3 : Aside0 (RS w2 w3 gr gp (.slice none 0 0) (.slice none 0 0) (.slice none 0 0) pst0 (fun _ => False) (fun _ => False)) := ⟨{ blk := HQ3.out, rC := Kd.R_nil _ _ _ _ _, rS := Kd.R_nil _ _ _ _ _, rR := Kd.N_nil _ _ _ _ _, dC := fun k hk => by simp [Value.ownBlock] at hk, bS := fun _ h => h.elim, bR := fun _ h => h.elim, ng := by have := HGX.out.2; omega, lg := by have := HGX.out; omega, lr := blk_lt HX3.out, lC := Nat.le_refl _, lS := Nat.le_refl _, lR := Nat.le_refl _, lI := by decide, lM := by decide, lD := by decide, eM := fun _ => rfl, eD := fun _ => rfl }⟩
  have HR0 : Aside0 (R = itemsP T s.size (T.length + 1) pst0 0) := ⟨by rw [HR.out, polT, if_pos rfl]; rfl⟩
  clear HX3 HQ3 HR
  go_loopg [8, 9, 10] (T.length + 1) (fun gk v8 v9 v10 wr => ∃ (mx df : Bool) (n i c2 a2 : Int), v8 = .bool mx ∧ v9 = .bool df ∧ v10 = .int .i64 n ∧ Aside0 (IsR w2 wr gr T i s.size c2 a2) ∧ Aside0 (Below w2.heap.size w2 wr) ∧ Aside0 (Sit w2 wr gr gp T s.size R gk mx df n i c2 a2))
  case atStart => exact ⟨false, false, 0, 0, 0, 0, rfl, rfl, rfl, HI3, HB3, ⟨.inr ⟨T.length + 1, pst0, 0, _, _, _, _, _, rfl, rfl, rfl, rfl, rfl, rfl, Nat.le_refl _, Nat.le_refl _, HR0.out, HS3.out⟩⟩⟩
  case round =>
   clear HI3 HB3 HS3 HR0
   obtain ⟨mx, df, n, i, c2, a2, rfl, rfl, rfl, HI, HB, HSit⟩ := hrel
   rcases HSit.out with ⟨hc, hi, hR⟩ | ⟨f, st, p, v0, v1, v3, okS, okR, rfl, rfl, rfl, hm, hd, hn, hf, hgk, hR, hS⟩
   ·skip
    have l0 : (c2 != (0 : Int)) = true := by simp [hc]
    have HRE0 : Aside0 (R = .error (c2, a2)) := ⟨hR⟩
    have HC2' := Aside0.mk hc
    go_wp2
    go_quiet ((go_at_call 24; exact Calls.quiet_of_same (bad_quiet w2 _ gr T _ _ c2 a2 _ l0 (IsS66.drewN HI.out _))))
    obtain ⟨w5, hw5⟩ : ∃ w5, w5 = wr.drewN nq := ⟨_, rfl⟩
    rw [← hw5]
    have HI5 : Aside0 (IsR w2 w5 gr T i s.size c2 a2) := ⟨by rw [hw5]; exact IsS66.drewN HI.out _⟩
    have HB5 : Aside0 (Below w2.heap.size w2 w5) := ⟨by rw [hw5]; exact pw_below_drewN HB.out _⟩
    clear hw5 HI HB hc l0
    have hc9 := HC2'.out
    obtain ⟨cE, hcE⟩ : ∃ cE, cE = c2 := ⟨_, rfl⟩
    obtain ⟨p0, hp0⟩ : ∃ p0, p0 = a2 := ⟨_, rfl⟩
    obtain ⟨w9, hw9⟩ : ∃ w9, w9 = w5 := ⟨_, rfl⟩
    have HIX : Aside0 (IsR w2 w9 gr T i s.size cE p0) := ⟨by rw [hcE, hp0, hw9]; exact HI5.out⟩
    have HBX : Aside0 (Below w2.heap.size w2 w9) := ⟨by rw [hw9]; exact HB5.out⟩
    have HRE : Aside0 (R = .error (cE, p0)) := ⟨by rw [hcE, hp0]; exact HRE0.out⟩
    rw [← hw9]
    rw [← hcE] at hc9
    clear hcE hp0 hw9 HI5 HB5 HRE0
    exact sc_bad
   ·by_cases hp : p < n0
    ·skip
     have l1 : decide ((p : Int) < (n0 : Int)) = true := decide_eq_true (by omega)
     have l2 : decide (p < n0) = true := decide_eq_true hp
     have HPT : Aside0 (p < T.length) := ⟨by have := HN0.out; omega⟩
     obtain ⟨f', hf1, hf2⟩ := step_eq hR hf HPT.out
     have HRK : Aside0 (R = itemsK T s.size f' (itemP T s.size st p)) := ⟨hf2⟩
     have HFF : Aside0 (T.length ≤ f' + p) := ⟨hf1⟩
     have HGK : Aside0 (T.length - p + 1 ≤ gk) := ⟨hgk⟩
     obtain ⟨it, hit⟩ : ∃ it, it = st.items := ⟨_, rfl⟩
     obtain rfl : n = (it : Int) := by rw [hit]; exact hn
     have HIT := Aside0.mk hit
     have hli : (it : Int) ≤ 60 := by have := hS.lI; omega
     have HS := Aside0.mk hS
     have HMX := Aside0.mk hm
     have HDF := Aside0.mk hd
     obtain ⟨A1, c1, hb1, _, _⟩ := HI.out
     have t0 : wr.cell? ⟨gr, 0, none⟩ = some (.slice A1 n0 c1) := by rw [HN0.out]; exact cellS66_0 hb1
     have t1 : wr.cell? ⟨gr, 1, none⟩ = some (.int .i64 (p : Int)) := cellS66_1 hb1
     have l0 : ((0 : Int) != 0) = false := by decide
     clear hf1 hf2 hR hf hgk hn hm hd hS hit hp hb1 HSit
     go_wp2
     go_quiet ((go_at_call 24; exact Calls.quiet_of_same (bad_quiet w2 _ gr T _ _ 0 0 _ l0 (IsS66.drewN HI.out _))))
     obtain ⟨w5, hw5⟩ : ∃ w5, w5 = wr.drewN nq := ⟨_, rfl⟩
     rw [← hw5]
     have HI5 : Aside0 (IsR w2 w5 gr T (p : Int) s.size 0 0) := ⟨by rw [hw5]; exact IsS66.drewN HI.out _⟩
     have HB5 : Aside0 (Below w2.heap.size w2 w5) := ⟨by rw [hw5]; exact pw_below_drewN HB.out _⟩
     have HS5 : Aside0 (RS w2 w5 gr gp v0 v1 v3 st okS okR) := ⟨by rw [hw5]; exact HS.out.drewN _⟩
     clear hw5 t0 t1 l0 l1 l2 HI HB HS
     have h6 := r_kind (T := T) (e := s.size) p HI5.out HB5.out
     obtain ⟨tk, htk⟩ : ∃ tk, tk = nxt T s.size p := ⟨_, rfl⟩
     rw [← htk] at h6
     obtain ⟨k0, p0, wd⟩ := tk
     dsimp only at h6
     have H6 := Aside0.mk h6
     have HTK2 := Aside0.mk htk
     clear h6 htk
     go_wp2_with fail
     refine H6.out.mono ?_
     rintro e w6 ⟨rfl, hs, hb, hk⟩
     dsimp only
     have HI6 := Aside0.mk hs
     have HB6 := Aside0.mk hb
     have HS6 : Aside0 (RS w2 w6 gr gp v0 v1 v3 st okS okR) := ⟨HS5.out.keep hk⟩
     clear hs hb hk HI5 HB5 HS5 H6
     by_cases hk0 : k0 = 1
     ·subst hk0
      obtain ⟨A6, c6, hb6, _, hC6⟩ := HI6.out
      obtain ⟨ad, hA1, _, _, q2⟩ := at_T69 hC6 (p : Int) (by omega) (by have := HPT.out; omega)
      have hA2 : A6 = some ad := hA1
      subst hA2
      change _ = some (Value.string (rtok T (p : Int)).f2) at q2
      rw [rtok_nxt (e := s.size) HPT.out, ← HTK2.out] at q2
      dsimp only at q2
      simp only [Int.toNat_natCast] at q2
      replace q2 := (HB6.out.cell (World.block_lt_of_cell? w2 _ q2)).trans q2
      have hbl := World.block_lt_of_cell? w6 _ q2
      have t0 : w6.cell? ⟨gr, 0, none⟩ = some (.slice (some ad) n0 c6) := by rw [HN0.out]; exact cellS66_0 hb6
      have t1 : w6.cell? ⟨gr, 1, none⟩ = some (.int .i64 (p : Int)) := cellS66_1 hb6
      have hlt2 : (p : Int) < (n0 : Int) := by have := HPT.out; have := HN0.out; omega
      clear hb6 hC6 hA1
      go_wp2
      go_quiet (fail)
      obtain ⟨w7, hw7⟩ : ∃ w7, w7 = w6.drewN nq := ⟨_, rfl⟩
      rw [← hw7]
      have HI7 : Aside0 (IsR w2 w7 gr T (p : Int) s.size 0 0) := ⟨by rw [hw7]; exact IsS66.drewN HI6.out _⟩
      have HB7 : Aside0 (Below w2.heap.size w2 w7) := ⟨by rw [hw7]; exact pw_below_drewN HB6.out _⟩
      have HS7 : Aside0 (RS w2 w7 gr gp v0 v1 v3 st okS okR) := ⟨by rw [hw7]; exact HS6.out.drewN _⟩
      clear hw7 q2 hbl t0 t1 HI6 HB6 HS6
      cases hmem : memB wd six with
      | false =>
       have HMEM := Aside0.mk hmem
       clear hmem
       have hin := parapetref1_In.calls (six.length + 1) wd (some ⟨w7.heap.size, 0, none⟩) 6 six _ (w7.alloc (.cells #[.string wCsp, .string wShare, .string wMixed, .string wDefault, .string wAllow, .string wDeny] 9)) (lit_strs w7 six (by decide)) (Nat.le_refl _) (in_f wd six (by decide))
       rw [HMEM.out] at hin
       have HIN := Aside0.mk hin
       clear hin
       go_wp2_with fail
       refine HIN.out.mono ?_
       rintro e w8 ⟨rfl, ⟨⟨nd, hw8⟩⟩⟩
       dsimp only
       have HI8 : Aside0 (IsR w2 w8 gr T (p : Int) s.size 0 0) := ⟨by rw [hw8]; exact IsS66.drewN (IsS66.alloc HI7.out _) _⟩
       have HB8 : Aside0 (Below w2.heap.size w2 w8) := ⟨by rw [hw8]; exact pw_below_drewN (below_alloc HB7.out _) _⟩
       have HS8 : Aside0 (RS w2 w8 gr gp v0 v1 v3 st okS okR) := ⟨by rw [hw8]; exact (HS7.out.keep (keep_alloc (KeepBut.refl _ _ _) _)).drewN _⟩
       clear hw8 HIN
       have HRE0 : Aside0 (R = .error (8, p0)) := ⟨by rw [HRK.out, item_no HTK2.out (by rw [HMEM.out]; rfl)]; rfl⟩
       go_wp2_with fail
       refine (r_wrong (T := T) (e := s.size) p 8 HI8.out HB8.out).mono ?_
       rintro e w9 ⟨rfl, hs, hb, hk⟩
       dsimp only
       have HIX := Aside0.mk hs
       have HBX := Aside0.mk hb
       have HKX := Aside0.mk hk
       clear hs hb hk
       rw [← HTK2.out] at HIX
       have hc9 : (8 : Int) ≠ 0 := by decide
       obtain ⟨cE, hcE⟩ : ∃ cE : Int, cE = 8 := ⟨_, rfl⟩
       rw [← hcE] at HIX hc9 HRE0
       have HRE := HRE0
       clear hcE HRE0
       exact sc_bad
      | true =>
       have HMEM := Aside0.mk hmem
       clear hmem
       have hin := parapetref1_In.calls (six.length + 1) wd (some ⟨w7.heap.size, 0, none⟩) 6 six _ (w7.alloc (.cells #[.string wCsp, .string wShare, .string wMixed, .string wDefault, .string wAllow, .string wDeny] 9)) (lit_strs w7 six (by decide)) (Nat.le_refl _) (in_f wd six (by decide))
       rw [HMEM.out] at hin
       have HIN := Aside0.mk hin
       clear hin
       go_wp2_with fail
       refine HIN.out.mono ?_
       rintro e w8 ⟨rfl, ⟨⟨nd, hw8⟩⟩⟩
       dsimp only
       have HI8 : Aside0 (IsR w2 w8 gr T (p : Int) s.size 0 0) := ⟨by rw [hw8]; exact IsS66.drewN (IsS66.alloc HI7.out _) _⟩
       have HB8 : Aside0 (Below w2.heap.size w2 w8) := ⟨by rw [hw8]; exact pw_below_drewN (below_alloc HB7.out _) _⟩
       have HS8 : Aside0 (RS w2 w8 gr gp v0 v1 v3 st okS okR) := ⟨by rw [hw8]; exact (HS7.out.keep (keep_alloc (KeepBut.refl _ _ _) _)).drewN _⟩
       clear hw8 HIN
       clear HI7 HB7 HS7
       rcases six_of HMEM.out with hwd | hwd | hwd | hwd | hwd
       ·skip
        have ts0 : (wd.toList == [99, 115, 112]) = true := (eq_word (w := wd) (a := wCsp) (by decide +kernel)).trans (decide_eq_true hwd)
        have ts1 : (wd.toList == [115, 104, 97, 114, 101]) = false := (eq_word (w := wd) (a := wShare) (by decide +kernel)).trans (decide_eq_false (by rw [hwd]; decide +kernel))
        have ts2 : (wd.toList == [109, 105, 120, 101, 100]) = false := (eq_word (w := wd) (a := wMixed) (by decide +kernel)).trans (decide_eq_false (by rw [hwd]; decide +kernel))
        have ts3 : (wd.toList == [100, 101, 102, 97, 117, 108, 116]) = false := (eq_word (w := wd) (a := wDefault) (by decide +kernel)).trans (decide_eq_false (by rw [hwd]; decide +kernel))
        have HWD := Aside0.mk hwd
        clear hwd
        by_cases hbig : 60 ≤ it
        ·exact sAt9_0
        ·have l3 : decide ((60 : Int) ≤ (it : Int)) = false := decide_eq_false (by omega)
         have HIL : Aside0 (it < 60) := ⟨by omega⟩
         have HRW : Aside0 (R = itemsK T s.size f' (itemK T s.size { st with items := st.items + 1 } wd (p + 1))) := ⟨by rw [HRK.out, item_in HTK2.out HMEM.out, if_neg (by rw [HWD.out]; decide +kernel), if_neg (by rw [HWD.out]; decide +kernel), if_neg (by have := HIT.out; omega)]⟩
         obtain ⟨s5, hs5⟩ : ∃ s5, s5 = ({ st with items := st.items + 1 } : Pst) := ⟨_, rfl⟩
         rw [← hs5] at HRW
         have HS5 : Aside0 (RS w2 w8 gr gp v0 v1 v3 s5 okS okR) := ⟨by rw [hs5]; exact HS8.out.count (by have := HIL.out; have := HIT.out; omega)⟩
         have HLN5 : Aside0 (s5.csp.length + 1 ≤ s5.items ∧ s5.shares.length + 1 ≤ s5.items ∧ s5.rules.length + 1 ≤ s5.items) := ⟨by rw [hs5]; exact ⟨Nat.succ_le_succ HS8.out.lC, Nat.succ_le_succ HS8.out.lS, Nat.succ_le_succ HS8.out.lR⟩⟩
         have HCN : Aside0 (Cnt mx df (it : Int) p (p + 1) f' T s5) := ⟨⟨by rw [hs5]; exact HMX.out, by rw [hs5]; exact HDF.out, by have := HIT.out; rw [hs5]; show ((it : Int)) + 1 = ((st.items + 1 : Nat) : Int); omega, rfl, HFF.out⟩⟩
         clear hs5 hbig HS8 HRK
         obtain ⟨A8, c8, hb8, _, _⟩ := HI8.out
         have t1 : w8.cell? ⟨gr, 1, none⟩ = some (.int .i64 (p : Int)) := cellS66_1 hb8
         have f1 := blk_frozen hb8 1
         have hjb : (p : Int) ≤ 1000000 := by have := HLN.out; have := HPT.out; omega
         clear hb8
         go_upto_region 21 with (fail)
         obtain ⟨w9, hw9⟩ : ∃ w9, w9 = w8.setCell ⟨gr, 1, none⟩ (.int .i64 ((p : Int) + 1)) := ⟨_, rfl⟩
         rw [← hw9]
         have HI9 : Aside0 (IsR w2 w9 gr T ((p + 1 : Nat) : Int) s.size 0 0) := ⟨by rw [hw9, Int.natCast_add]; exact IsS66.set_1 HI8.out _⟩
         have HB9 : Aside0 (Below w2.heap.size w2 w9) := ⟨by rw [hw9]; exact HB8.out.setCell (p := ⟨gr, 1, none⟩) (IsS66.ge HI8.out) _⟩
         have HS9 : Aside0 (RS w2 w9 gr gp v0 v1 v3 s5 okS okR) := ⟨by rw [hw9]; exact HS5.out.kept (Kept.setCell (S := fun k => k = gr) (p := ⟨gr, 1, none⟩) (Kept.refl _ _) (.inl rfl) _)⟩
         clear hw9 t1 f1 hjb HS5 HI8 HB8
         obtain ⟨t, i7, c7, a7, hQ, hC⟩ := r_next (w0 := w2) (w := w9.drew) (g := gr) (T := T) (e := s.size) 2 (p + 1) (by decide) HLN.out HI9.out (below_drew HB9.out)
         have HRX : Aside0 (R = itemsK T s.size f' (cspK s5 (takeP T s.size 2 (p + 1)))) := ⟨by rw [HRW.out, itemK_csp HWD.out]⟩
         have HQ := Aside0.mk hQ
         have HC := Aside0.mk hC
         have HLB : Aside0 ((s5.csp.length + 1) * 16 ≤ 140737488355328) := ⟨by have := HLN5.out.1; have := HS9.out.lI; omega⟩
         have d0 : w9.drew.cell? ⟨gp, 0, none⟩ = some v0 := blk_cell HS9.out.blk 0
         clear hQ hC HRW
         go_upto_region 26 with (fail)
         refine start_ (n := 8) (S := fun w' => w'.cell? ⟨gp, 0, none⟩ = some v0) (ds := [5, 7]) #[false, false, false, false, false, false, false, false] (by kernel_rfl) rfl rfl (d0) (fun hHeld => ?_)
         refine pure_ (i := 0) (N := some 108) (v := ?_) (a' := ?_) #[true, false, false, false, false, false, false, false] rfl rfl (by kernel_rfl) (fun _ _ _ h => h) (Or.inl ⟨by rfl, ?_⟩) ?_ ?_
         rotate_left
         ·exact sAt9_1
         rotate_left
         ·exact nAt9_
         refine pure_ (i := 2) (N := some 110) (v := ?_) (a' := ?_) #[true, false, true, false, false, false, false, false] rfl rfl (by kernel_rfl) (fun _ _ _ h => h) (Or.inl ⟨by rfl, ?_⟩) ?_ ?_
         rotate_left
         ·exact sAt9_1
         rotate_left
         ·exact nAt9_
         refine take_ (i := 1) (N := some 109) (v := ?_) (a' := ?_) #[true, true, true, false, false, false, false, false] rfl rfl (by kernel_rfl) (fun _ _ _ h => h) (Or.inl ⟨by rfl, ?_⟩) hHeld ?_ ?_
         rotate_left
         ·intro w' s0
          go_simp
          with_reducible rfl
         rotate_left
         ·exact nAt9_
         refine one_ (i := 3) (N := some 111) #[true, true, true, true, false, false, false, false] rfl rfl (by kernel_rfl) (by decide) (fun K hK => ?_)
         refine goes_ Tryd.func28 (by kernel_rfl) rfl #[.pointer (some ⟨gr, 0, none⟩), .int .i64 2] (by rfl) rfl rfl (by simp only [List.map_toArray, List.map_cons, List.map_nil]; rfl) ?_
         refine HC.out.mono ?_
         rintro e w11 ⟨rfl, hi11, hb11, hk11⟩
         refine ⟨_, rfl, ?_⟩
         have HI11 := Aside0.mk hi11
         have HB11 := Aside0.mk hb11
         have HS11 : Aside0 (RS w2 w11 gr gp v0 v1 v3 s5 okS okR) := ⟨HS9.out.keep hk11⟩
         clear hi11 hb11 hk11
         refine hK.out _ _ ((blk_cell HS11.out.blk 0)) (fun hHeld => ?_)
         clear hK K
         refine norm_ (a' := ?_) ?_ ?_
         rotate_left
         ·show Act.put _ (some 111) _ = _
          exact nAt9_
         refine one_ (i := 4) (N := some 112) #[true, true, true, true, true, false, false, false] rfl rfl (by kernel_rfl) (by decide) (fun K hK => ?_)
         refine value_ (w1 := ?_) (v := ?_) (by rfl) rfl ?_ ?_
         rotate_left 2
         ·go_simp
          constructor
          ·rfl
          ·rfl
         refine hK.out _ _ ((blk_cell (show (w11.alloc _).heap[gp]? = _ from blk_alloc HS11.out.blk _) 0)) (fun hHeld => ?_)
         clear hK K
         refine norm_ (a' := ?_) ?_ ?_
         rotate_left
         ·show Act.put _ (some 112) _ = _
          exact nAt9_
         refine last_ (i := 5) (N := some 113) #[true, true, true, true, true, true, false, false] rfl rfl (by kernel_rfl) (by decide) (fun K hK => ?_)
         refine Kd.R_append_step Kd.string (w0 := w2) (W := w11) w2.heap.size (by rfl) _ _ 22 9 (.string ⟨#[]⟩) 16 rfl Tryd.underlying22 info_str rfl (by decide) (by decide) v0 s5.csp t [.string t] (fun _ => True) (fun _ => False) rfl rfl rfl (fun _ hk => hk.elim) (fun _ _ => trivial) HS11.out.rC HB11.out HB11.out.size HLB.out ?_
         intro v12 w12 hO12 hB12 hG12 hat12
         have HI13 : Aside0 (IsR w2 (w12.setCell ⟨gp, 0, none⟩ v12) gr T i7 s.size c7 a7) := ⟨IsS66.far (IsS66.grown HI11.out hG12 (fun he => (HS11.out.dC gr he.symm).1 rfl)) (p := ⟨gp, 0, none⟩) HS11.out.ng _⟩
         have HB13 : Aside0 (Below w2.heap.size w2 (w12.setCell ⟨gp, 0, none⟩ v12)) := ⟨hB12.setCell (p := ⟨gp, 0, none⟩) HS11.out.lg _⟩
         have HM13 : Aside0 (MidQ w2 (w12.setCell ⟨gp, 0, none⟩ v12) gr gp T s.size R p mx df (it : Int) i7 c7 a7) := ⟨mid_csp HQ.out HRX.out (HS11.out.csp hO12 hG12 hat12 HLN5.out.1) HCN.out⟩
         have hp12 : w12.heap[gp]? = some (.cells (polcells v0 v1 s5.mixed v3 s5.allow) 26 (0, 0)) := (hG12.block gp (blk_lt HS11.out.blk) (fun he => (HS11.out.dC gp he.symm).2.1 rfl)).trans HS11.out.blk
         obtain ⟨A12, c12, e12⟩ := Kd.R_slice hO12
         obtain ⟨n12, hn12⟩ : ∃ n12, n12 = (s5.csp ++ [t]).length := ⟨_, rfl⟩
         rw [← hn12] at e12
         subst e12
         have e4 : w12.cell? ⟨gp, 0, none⟩ = some v0 := blk_cell hp12 0
         have f4 := blk_frozen hp12 0
         clear hO12 hB12 hG12 hat12 hp12 hn12
         refine hK.out _ _ ?_
         clear hK K
         refine norm_ (a' := ?_) ?_ ?_
         rotate_left
         ·show Act.put _ (some 113) _ = _
          exact nAt9_
         refine pure_ (i := 6) (N := some 114) (v := ?_) (a' := ?_) #[true, true, true, true, true, true, true, false] rfl rfl (by kernel_rfl) (fun _ _ _ h => h) (Or.inl ⟨by rfl, ?_⟩) ?_ ?_
         rotate_left
         ·exact sAt9_1
         rotate_left
         ·exact nAt9_
         refine last_ (i := 7) (N := none) #[true, true, true, true, true, true, true, true] rfl rfl (by kernel_rfl) (by decide) (fun K hK => ?_)
         refine skip_ (w1 := ?_) (by rfl) rfl ?_ ?_
         rotate_left
         ·go_simp
          rfl
         refine hK.out _ _ ?_
         clear hK K
         refine done_ (by kernel_rfl) ?_

         have HIR := HI13
         have HBR := HB13
         have HMR := HM13
         exact sc_round
       ·skip
        have ts0 : (wd.toList == [99, 115, 112]) = false := (eq_word (w := wd) (a := wCsp) (by decide +kernel)).trans (decide_eq_false (by rw [hwd]; decide +kernel))
        have ts1 : (wd.toList == [115, 104, 97, 114, 101]) = true := (eq_word (w := wd) (a := wShare) (by decide +kernel)).trans (decide_eq_true hwd)
        have ts2 : (wd.toList == [109, 105, 120, 101, 100]) = false := (eq_word (w := wd) (a := wMixed) (by decide +kernel)).trans (decide_eq_false (by rw [hwd]; decide +kernel))
        have ts3 : (wd.toList == [100, 101, 102, 97, 117, 108, 116]) = false := (eq_word (w := wd) (a := wDefault) (by decide +kernel)).trans (decide_eq_false (by rw [hwd]; decide +kernel))
        have HWD := Aside0.mk hwd
        clear hwd
        by_cases hbig : 60 ≤ it
        ·exact sAt9_0
        ·have l3 : decide ((60 : Int) ≤ (it : Int)) = false := decide_eq_false (by omega)
         have HIL : Aside0 (it < 60) := ⟨by omega⟩
         have HRW : Aside0 (R = itemsK T s.size f' (itemK T s.size { st with items := st.items + 1 } wd (p + 1))) := ⟨by rw [HRK.out, item_in HTK2.out HMEM.out, if_neg (by rw [HWD.out]; decide +kernel), if_neg (by rw [HWD.out]; decide +kernel), if_neg (by have := HIT.out; omega)]⟩
         obtain ⟨s5, hs5⟩ : ∃ s5, s5 = ({ st with items := st.items + 1 } : Pst) := ⟨_, rfl⟩
         rw [← hs5] at HRW
         have HS5 : Aside0 (RS w2 w8 gr gp v0 v1 v3 s5 okS okR) := ⟨by rw [hs5]; exact HS8.out.count (by have := HIL.out; have := HIT.out; omega)⟩
         have HLN5 : Aside0 (s5.csp.length + 1 ≤ s5.items ∧ s5.shares.length + 1 ≤ s5.items ∧ s5.rules.length + 1 ≤ s5.items) := ⟨by rw [hs5]; exact ⟨Nat.succ_le_succ HS8.out.lC, Nat.succ_le_succ HS8.out.lS, Nat.succ_le_succ HS8.out.lR⟩⟩
         have HCN : Aside0 (Cnt mx df (it : Int) p (p + 1) f' T s5) := ⟨⟨by rw [hs5]; exact HMX.out, by rw [hs5]; exact HDF.out, by have := HIT.out; rw [hs5]; show ((it : Int)) + 1 = ((st.items + 1 : Nat) : Int); omega, rfl, HFF.out⟩⟩
         clear hs5 hbig HS8 HRK
         obtain ⟨A8, c8, hb8, _, _⟩ := HI8.out
         have t1 : w8.cell? ⟨gr, 1, none⟩ = some (.int .i64 (p : Int)) := cellS66_1 hb8
         have f1 := blk_frozen hb8 1
         have hjb : (p : Int) ≤ 1000000 := by have := HLN.out; have := HPT.out; omega
         clear hb8
         go_upto_region 21 with (fail)
         obtain ⟨w9, hw9⟩ : ∃ w9, w9 = w8.setCell ⟨gr, 1, none⟩ (.int .i64 ((p : Int) + 1)) := ⟨_, rfl⟩
         rw [← hw9]
         have HI9 : Aside0 (IsR w2 w9 gr T ((p + 1 : Nat) : Int) s.size 0 0) := ⟨by rw [hw9, Int.natCast_add]; exact IsS66.set_1 HI8.out _⟩
         have HB9 : Aside0 (Below w2.heap.size w2 w9) := ⟨by rw [hw9]; exact HB8.out.setCell (p := ⟨gr, 1, none⟩) (IsS66.ge HI8.out) _⟩
         have HS9 : Aside0 (RS w2 w9 gr gp v0 v1 v3 s5 okS okR) := ⟨by rw [hw9]; exact HS5.out.kept (Kept.setCell (S := fun k => k = gr) (p := ⟨gr, 1, none⟩) (Kept.refl _ _) (.inl rfl) _)⟩
         clear hw9 t1 f1 hjb HS5 HI8 HB8
         have hC := rshare_calls w2 w9.drew gr T s.size (p + 1) HI9.out (below_drew HB9.out) HLN.out
         have HRX : Aside0 (R = itemsK T s.size f' (shaK s5 (shareP T s.size (p + 1)))) := ⟨by rw [HRW.out, itemK_share (by rw [HWD.out]; decide +kernel) HWD.out]⟩
         have HC := Aside0.mk hC
         have HLB : Aside0 ((s5.shares.length + 1) * 72 ≤ 140737488355328) := ⟨by have := HLN5.out.2.1; have := HS9.out.lI; omega⟩
         have d0 : w9.drew.cell? ⟨gp, 1, none⟩ = some v1 := blk_cell HS9.out.blk 1
         have HSD : Aside0 (RS w2 w9.drew gr gp v0 v1 v3 s5 okS okR) := ⟨HS9.out.drewN 1⟩
         have HGG : Aside0 (gr < w9.drew.heap.size ∧ gp < w9.drew.heap.size) := ⟨⟨HS9.out.lr, blk_lt HS9.out.blk⟩⟩
         have HOK : Aside0 (∀ k, w9.drew.heap.size ≤ k → (okS k ∨ w9.drew.heap.size ≤ k) ∧ some k ≠ v1.ownBlock) := ⟨fun k hk => ⟨.inr hk, fun he => by have := Kd.R_lt HSD.out.rS k he.symm; omega⟩⟩
         clear hC HRW
         go_upto_region 28 with (fail)
         refine start_ (n := 8) (S := fun w' => w'.cell? ⟨gp, 1, none⟩ = some v1) (ds := [5, 7]) #[false, false, false, false, false, false, false, false] (by kernel_rfl) rfl rfl (d0) (fun hHeld => ?_)
         refine pure_ (i := 0) (N := some 117) (v := ?_) (a' := ?_) #[true, false, false, false, false, false, false, false] rfl rfl (by kernel_rfl) (fun _ _ _ h => h) (Or.inl ⟨by rfl, ?_⟩) ?_ ?_
         rotate_left
         ·exact sAt9_1
         rotate_left
         ·exact nAt9_
         refine pure_ (i := 2) (N := some 119) (v := ?_) (a' := ?_) #[true, false, true, false, false, false, false, false] rfl rfl (by kernel_rfl) (fun _ _ _ h => h) (Or.inl ⟨by rfl, ?_⟩) ?_ ?_
         rotate_left
         ·exact sAt9_1
         rotate_left
         ·exact nAt9_
         refine take_ (i := 1) (N := some 118) (v := ?_) (a' := ?_) #[true, true, true, false, false, false, false, false] rfl rfl (by kernel_rfl) (fun _ _ _ h => h) (Or.inl ⟨by rfl, ?_⟩) hHeld ?_ ?_
         rotate_left
         ·intro w' s0
          go_simp
          with_reducible rfl
         rotate_left
         ·exact nAt9_
         refine one_ (i := 3) (N := some 120) #[true, true, true, true, false, false, false, false] rfl rfl (by kernel_rfl) (by decide) (fun K hK => ?_)
         refine goes_ Tryd.func29 (by kernel_rfl) rfl #[.pointer (some ⟨gr, 0, none⟩)] (by rfl) rfl rfl (by simp only [List.map_toArray, List.map_cons, List.map_nil]; rfl) ?_
         refine HC.out.mono ?_
         rintro e w11 ⟨h7, i7, c7, a7, x1, x2, hq7, rfl, g1, g2, hi11, hb11, hk11⟩
         refine ⟨_, rfl, ?_⟩
         have HQ := Aside0.mk hq7
         have HI11 := Aside0.mk hi11
         have HB11 := Aside0.mk hb11
         have HS11 : Aside0 (RS w2 w11 gr gp v0 v1 v3 s5 okS okR) := ⟨HSD.out.keep hk11⟩
         have HZ11 : Aside0 (w9.drew.heap.size ≤ w11.heap.size) := ⟨hk11.1⟩
         have HMM : Aside0 (k47.M w11 w2.heap.size (fun k => w9.drew.heap.size ≤ k) h7 [.string h7.f0, x1, x2, .bool h7.f3]) := ⟨k47_mkM w11 w2.heap.size _ h7 g1 g2⟩
         have HFR : Aside0 (∀ k, w11.heap.size ≤ k → okS k ∨ w9.drew.heap.size ≤ k) := ⟨fun k hk => .inr (Nat.le_trans HZ11.out hk)⟩
         have HR11 : Aside0 (k47.R 47 w11 w2.heap.size (fun k => okS k ∨ w9.drew.heap.size ≤ k) v1 s5.shares) := ⟨Kd.R_mono HS11.out.rS (fun k hk => .inl hk)⟩
         clear hi11 hb11 hk11 g1 g2 hq7
         refine hK.out _ _ ((blk_cell HS11.out.blk 1)) (fun hHeld => ?_)
         clear hK K
         refine norm_ (a' := ?_) ?_ ?_
         rotate_left
         ·show Act.put _ (some 120) _ = _
          exact nAt9_
         refine one_ (i := 4) (N := some 121) #[true, true, true, true, true, false, false, false] rfl rfl (by kernel_rfl) (by decide) (fun K hK => ?_)
         refine value_ (w1 := ?_) (v := ?_) (by rfl) rfl ?_ ?_
         rotate_left 2
         ·go_simp
          constructor
          ·rfl
          ·rfl
         refine hK.out _ _ ((blk_cell (show (w11.alloc _).heap[gp]? = _ from blk_alloc HS11.out.blk _) 1)) (fun hHeld => ?_)
         clear hK K
         refine norm_ (a' := ?_) ?_ ?_
         rotate_left
         ·show Act.put _ (some 121) _ = _
          exact nAt9_
         refine last_ (i := 5) (N := some 122) #[true, true, true, true, true, true, false, false] rfl rfl (by kernel_rfl) (by decide) (fun K hK => ?_)
         refine Kd.R_append_step k47 (w0 := w2) (W := w11) w2.heap.size (by rfl) _ _ 23 47 _ 72 rfl Tryd.underlying23 info_sh rfl (by decide) (by decide) v1 s5.shares h7 [.string h7.f0, x1, x2, .bool h7.f3] (fun k => okS k ∨ w9.drew.heap.size ≤ k) (fun k => w9.drew.heap.size ≤ k) rfl rfl HMM.out HOK.out HFR.out HR11.out HB11.out HB11.out.size HLB.out ?_
         intro v12 w12 hO12 hB12 hG12 hat12
         have HI13 : Aside0 (IsR w2 (w12.setCell ⟨gp, 1, none⟩ v12) gr T i7 s.size c7 a7) := ⟨IsS66.far (IsS66.grown HI11.out hG12 (fun he => (HS11.out.bS gr (HS11.out.rS.1 gr he.symm)).2.2.1 rfl)) (p := ⟨gp, 1, none⟩) HS11.out.ng _⟩
         have HB13 : Aside0 (Below w2.heap.size w2 (w12.setCell ⟨gp, 1, none⟩ v12)) := ⟨hB12.setCell (p := ⟨gp, 1, none⟩) HS11.out.lg _⟩
         have HM13 : Aside0 (MidQ w2 (w12.setCell ⟨gp, 1, none⟩ v12) gr gp T s.size R p mx df (it : Int) i7 c7 a7) := ⟨mid_sha HQ.out HRX.out (RS.share HSD.out HS11.out HZ11.out hO12 hG12 HLN5.out.2.1 HB9.out.size HGG.out) HCN.out⟩
         have hp12 : w12.heap[gp]? = some (.cells (polcells v0 v1 s5.mixed v3 s5.allow) 26 (0, 0)) := (hG12.block gp (blk_lt HS11.out.blk) (fun he => (HS11.out.bS gp (HS11.out.rS.1 gp he.symm)).2.2.2.1 rfl)).trans HS11.out.blk
         obtain ⟨A12, c12, e12⟩ := Kd.R_slice hO12
         obtain ⟨n12, hn12⟩ : ∃ n12, n12 = (s5.shares ++ [h7]).length := ⟨_, rfl⟩
         rw [← hn12] at e12
         subst e12
         have e4 : w12.cell? ⟨gp, 1, none⟩ = some v1 := blk_cell hp12 1
         have f4 := blk_frozen hp12 1
         clear hO12 hB12 hG12 hat12 hp12 hn12
         refine hK.out _ _ ?_
         clear hK K
         refine norm_ (a' := ?_) ?_ ?_
         rotate_left
         ·show Act.put _ (some 122) _ = _
          exact nAt9_
         refine pure_ (i := 6) (N := some 123) (v := ?_) (a' := ?_) #[true, true, true, true, true, true, true, false] rfl rfl (by kernel_rfl) (fun _ _ _ h => h) (Or.inl ⟨by rfl, ?_⟩) ?_ ?_
         rotate_left
         ·exact sAt9_1
         rotate_left
         ·exact nAt9_
         refine last_ (i := 7) (N := none) #[true, true, true, true, true, true, true, true] rfl rfl (by kernel_rfl) (by decide) (fun K hK => ?_)
         refine skip_ (w1 := ?_) (by rfl) rfl ?_ ?_
         rotate_left
         ·go_simp
          rfl
         refine hK.out _ _ ?_
         clear hK K
         refine done_ (by kernel_rfl) ?_

         have HIR := HI13
         have HBR := HB13
         have HMR := HM13
         exact sc_round
       ·skip
        have ts0 : (wd.toList == [99, 115, 112]) = false := (eq_word (w := wd) (a := wCsp) (by decide +kernel)).trans (decide_eq_false (by rw [hwd]; decide +kernel))
        have ts1 : (wd.toList == [115, 104, 97, 114, 101]) = false := (eq_word (w := wd) (a := wShare) (by decide +kernel)).trans (decide_eq_false (by rw [hwd]; decide +kernel))
        have ts2 : (wd.toList == [109, 105, 120, 101, 100]) = true := (eq_word (w := wd) (a := wMixed) (by decide +kernel)).trans (decide_eq_true hwd)
        have ts3 : (wd.toList == [100, 101, 102, 97, 117, 108, 116]) = false := (eq_word (w := wd) (a := wDefault) (by decide +kernel)).trans (decide_eq_false (by rw [hwd]; decide +kernel))
        have HWD := Aside0.mk hwd
        clear hwd
        cases mx with
        | true =>
         have HM1 : Aside0 (st.metM = 1) := ⟨of_decide_eq_true HMX.out.symm⟩
         have HRE0 : Aside0 (R = .error (10, p0)) := ⟨by rw [HRK.out, item_in HTK2.out HMEM.out, if_pos HWD.out, if_pos (by have := HM1.out; omega)]; rfl⟩
         go_wp2_with fail
         refine (r_wrong (T := T) (e := s.size) p 10 HI8.out HB8.out).mono ?_
         rintro e w9 ⟨rfl, hs, hb, hk⟩
         dsimp only
         have HIX := Aside0.mk hs
         have HBX := Aside0.mk hb
         have HKX := Aside0.mk hk
         clear hs hb hk
         rw [← HTK2.out] at HIX
         have hc9 : (10 : Int) ≠ 0 := by decide
         obtain ⟨cE, hcE⟩ : ∃ cE : Int, cE = 10 := ⟨_, rfl⟩
         rw [← hcE] at HIX hc9 HRE0
         have HRE := HRE0
         clear hcE HRE0
         exact sc_bad
        | false =>
         have HM0 : Aside0 (st.metM = 0) := ⟨by have := of_decide_eq_false HMX.out.symm; have := HS8.out.lM; omega⟩
         by_cases hbig : 60 ≤ it
         ·have l3 : decide ((60 : Int) ≤ (it : Int)) = true := decide_eq_true (by omega)
          have HRE0 : Aside0 (R = .error (2, p0)) := ⟨by rw [HRK.out, item_in HTK2.out HMEM.out, if_pos HWD.out, if_neg (by have := HM0.out; omega), if_pos (by have := HIT.out; omega)]; rfl⟩
          go_wp2_with fail
          refine (r_wrong (T := T) (e := s.size) p 2 HI8.out HB8.out).mono ?_
          rintro e w9 ⟨rfl, hs, hb, hk⟩
          dsimp only
          have HIX := Aside0.mk hs
          have HBX := Aside0.mk hb
          have HKX := Aside0.mk hk
          clear hs hb hk
          rw [← HTK2.out] at HIX
          have hc9 : (2 : Int) ≠ 0 := by decide
          obtain ⟨cE, hcE⟩ : ∃ cE : Int, cE = 2 := ⟨_, rfl⟩
          rw [← hcE] at HIX hc9 HRE0
          have HRE := HRE0
          clear hcE HRE0
          exact sc_bad
         ·have l3 : decide ((60 : Int) ≤ (it : Int)) = false := decide_eq_false (by omega)
          have HIL : Aside0 (it < 60) := ⟨by omega⟩
          have HRW : Aside0 (R = itemsK T s.size f' (itemK T s.size { st with metM := st.metM + 1, items := st.items + 1 } wd (p + 1))) := ⟨by rw [HRK.out, item_in HTK2.out HMEM.out, if_pos HWD.out, if_neg (by have := HM0.out; omega), if_neg (by have := HIT.out; omega)]⟩
          obtain ⟨s5, hs5⟩ : ∃ s5, s5 = ({ st with metM := st.metM + 1, items := st.items + 1 } : Pst) := ⟨_, rfl⟩
          rw [← hs5] at HRW
          have HS5 : Aside0 (RS w2 w8 gr gp v0 v1 v3 s5 okS okR) := ⟨by rw [hs5]; exact (HS8.out.count (by have := HIL.out; have := HIT.out; omega)).metM HM0.out⟩
          have HLN5 : Aside0 (s5.csp.length + 1 ≤ s5.items ∧ s5.shares.length + 1 ≤ s5.items ∧ s5.rules.length + 1 ≤ s5.items) := ⟨by rw [hs5]; exact ⟨Nat.succ_le_succ HS8.out.lC, Nat.succ_le_succ HS8.out.lS, Nat.succ_le_succ HS8.out.lR⟩⟩
          have HCN : Aside0 (Cnt true df (it : Int) p (p + 1) f' T s5) := ⟨⟨by rw [hs5]; exact (decide_eq_true (by show st.metM + 1 = 1; have := HM0.out; omega)).symm, by rw [hs5]; exact HDF.out, by have := HIT.out; rw [hs5]; show ((it : Int)) + 1 = ((st.items + 1 : Nat) : Int); omega, rfl, HFF.out⟩⟩
          have HMN : Aside0 (s5.metM ≠ 0) := ⟨by rw [hs5]; exact Nat.succ_ne_zero _⟩
          have HMB : Aside0 (s5.mixed = wBlock) := ⟨by rw [hs5]; exact HS8.out.eM HM0.out⟩
          clear hs5 hbig HS8 HRK
          obtain ⟨A8, c8, hb8, _, _⟩ := HI8.out
          have t1 : w8.cell? ⟨gr, 1, none⟩ = some (.int .i64 (p : Int)) := cellS66_1 hb8
          have f1 := blk_frozen hb8 1
          have hjb : (p : Int) ≤ 1000000 := by have := HLN.out; have := HPT.out; omega
          clear hb8
          go_upto_region 21 with (fail)
          obtain ⟨w9, hw9⟩ : ∃ w9, w9 = w8.setCell ⟨gr, 1, none⟩ (.int .i64 ((p : Int) + 1)) := ⟨_, rfl⟩
          rw [← hw9]
          have HI9 : Aside0 (IsR w2 w9 gr T ((p + 1 : Nat) : Int) s.size 0 0) := ⟨by rw [hw9, Int.natCast_add]; exact IsS66.set_1 HI8.out _⟩
          have HB9 : Aside0 (Below w2.heap.size w2 w9) := ⟨by rw [hw9]; exact HB8.out.setCell (p := ⟨gr, 1, none⟩) (IsS66.ge HI8.out) _⟩
          have HS9 : Aside0 (RS w2 w9 gr gp v0 v1 v3 s5 okS okR) := ⟨by rw [hw9]; exact HS5.out.kept (Kept.setCell (S := fun k => k = gr) (p := ⟨gr, 1, none⟩) (Kept.refl _ _) (.inl rfl) _)⟩
          clear hw9 t1 f1 hjb HS5 HI8 HB8
          have HRX : Aside0 (R = itemsK T s.size f' (mixK s5 (wordP T s.size [wBlock, wUpgrade, wAllow] (p + 1)))) := ⟨by rw [HRW.out, itemK_mixed (by rw [HWD.out]; decide +kernel) (by rw [HWD.out]; decide +kernel) HWD.out]⟩
          cases hif : isP T s.size [wBlock] (p + 1) with
          | true =>
           have HIF := Aside0.mk hif
           clear hif
           go_wp2_with fail
           refine (r_take1 (T := T) (e := s.size) wBlock (p + 1) HLN.out HI9.out HB9.out HIF.out).mono ?_
           rintro e w10 ⟨rfl, hs, hb, hk⟩
           dsimp only
           have HI10 := Aside0.mk hs
           have HB10 := Aside0.mk hb
           have HS10 : Aside0 (RS w2 w10 gr gp v0 v1 v3 s5 okS okR) := ⟨HS9.out.keep hk⟩
           clear hs hb hk HI9 HB9 HS9
           have HM : Aside0 (MidQ w2 w10 gr gp T s.size R p true df (it : Int) ((p + 1 + 1 : Nat) : Int) 0 0) := ⟨mid_ok (st := { s5 with mixed := wBlock }) (s5 := s5) (q := p + 1) (Nat.le_succ _) rfl rfl rfl (by rw [HRX.out, wordP_yes wBlock (by decide +kernel) HIF.out]; rfl) (by rw [← HMB.out]; exact HS10.out) HCN.out⟩
           have HIR := HI10
           have HBR := HB10
           have HMR := HM
           exact sc_round
          | false =>
           have HIF := Aside0.mk hif
           have HN9 := Aside0.mk hif
           clear hif
           go_wp2_with fail
           refine (r_take0 (T := T) (e := s.size) wBlock (p + 1) HLN.out HI9.out HB9.out HIF.out).mono ?_
           rintro e w10 ⟨rfl, hs, hb, hk⟩
           dsimp only
           have HI10 := Aside0.mk hs
           have HB10 := Aside0.mk hb
           have HS10 : Aside0 (RS w2 w10 gr gp v0 v1 v3 s5 okS okR) := ⟨HS9.out.keep hk⟩
           clear hs hb hk HI9 HB9 HS9
           clear HIF
           cases hif : isP T s.size [wUpgrade] (p + 1) with
           | true =>
            have HIF := Aside0.mk hif
            clear hif
            go_wp2_with fail
            refine (r_take1 (T := T) (e := s.size) wUpgrade (p + 1) HLN.out HI10.out HB10.out HIF.out).mono ?_
            rintro e w11 ⟨rfl, hs, hb, hk⟩
            dsimp only
            have HI11 := Aside0.mk hs
            have HB11 := Aside0.mk hb
            have HS11 : Aside0 (RS w2 w11 gr gp v0 v1 v3 s5 okS okR) := ⟨HS10.out.keep hk⟩
            clear hs hb hk HI10 HB10 HS10
            have e5 : w11.cell? ⟨gp, 2, none⟩ = some (.string s5.mixed) := blk_cell HS11.out.blk 2
            have f5 := blk_frozen HS11.out.blk 2
            have HI13 : Aside0 (IsR w2 (w11.setCell ⟨gp, 2, none⟩ (.string wUpgrade)) gr T ((p + 1 + 1 : Nat) : Int) s.size 0 0) := ⟨IsS66.far HI11.out (p := ⟨gp, 2, none⟩) HS11.out.ng _⟩
            have HB13 : Aside0 (Below w2.heap.size w2 (w11.setCell ⟨gp, 2, none⟩ (.string wUpgrade))) := ⟨HB11.out.setCell (p := ⟨gp, 2, none⟩) HS11.out.lg _⟩
            have HM13 : Aside0 (MidQ w2 (w11.setCell ⟨gp, 2, none⟩ (.string wUpgrade)) gr gp T s.size R p true df (it : Int) ((p + 1 + 1 : Nat) : Int) 0 0) := ⟨mid_ok (st := { s5 with mixed := wUpgrade }) (s5 := s5) (q := p + 1) (Nat.le_succ _) rfl rfl rfl (by rw [HRX.out, wordP_yes wUpgrade (by decide +kernel) HIF.out]; rfl) (HS11.out.setMixed wUpgrade HMN.out) HCN.out⟩
            have HIR := HI13
            have HBR := HB13
            have HMR := HM13
            exact sc_round
           | false =>
            have HIF := Aside0.mk hif
            have HN10 := Aside0.mk hif
            clear hif
            go_wp2_with fail
            refine (r_take0 (T := T) (e := s.size) wUpgrade (p + 1) HLN.out HI10.out HB10.out HIF.out).mono ?_
            rintro e w11 ⟨rfl, hs, hb, hk⟩
            dsimp only
            have HI11 := Aside0.mk hs
            have HB11 := Aside0.mk hb
            have HS11 : Aside0 (RS w2 w11 gr gp v0 v1 v3 s5 okS okR) := ⟨HS10.out.keep hk⟩
            clear hs hb hk HI10 HB10 HS10
            clear HIF
            cases hif : isP T s.size [wAllow] (p + 1) with
            | true =>
             have HIF := Aside0.mk hif
             clear hif
             go_wp2_with fail
             refine (r_take1 (T := T) (e := s.size) wAllow (p + 1) HLN.out HI11.out HB11.out HIF.out).mono ?_
             rintro e w12 ⟨rfl, hs, hb, hk⟩
             dsimp only
             have HI12 := Aside0.mk hs
             have HB12 := Aside0.mk hb
             have HS12 : Aside0 (RS w2 w12 gr gp v0 v1 v3 s5 okS okR) := ⟨HS11.out.keep hk⟩
             clear hs hb hk HI11 HB11 HS11
             have e5 : w12.cell? ⟨gp, 2, none⟩ = some (.string s5.mixed) := blk_cell HS12.out.blk 2
             have f5 := blk_frozen HS12.out.blk 2
             have HI13 : Aside0 (IsR w2 (w12.setCell ⟨gp, 2, none⟩ (.string wAllow)) gr T ((p + 1 + 1 : Nat) : Int) s.size 0 0) := ⟨IsS66.far HI12.out (p := ⟨gp, 2, none⟩) HS12.out.ng _⟩
             have HB13 : Aside0 (Below w2.heap.size w2 (w12.setCell ⟨gp, 2, none⟩ (.string wAllow))) := ⟨HB12.out.setCell (p := ⟨gp, 2, none⟩) HS12.out.lg _⟩
             have HM13 : Aside0 (MidQ w2 (w12.setCell ⟨gp, 2, none⟩ (.string wAllow)) gr gp T s.size R p true df (it : Int) ((p + 1 + 1 : Nat) : Int) 0 0) := ⟨mid_ok (st := { s5 with mixed := wAllow }) (s5 := s5) (q := p + 1) (Nat.le_succ _) rfl rfl rfl (by rw [HRX.out, wordP_yes wAllow (by decide +kernel) HIF.out]; rfl) (HS12.out.setMixed wAllow HMN.out) HCN.out⟩
             have HIR := HI13
             have HBR := HB13
             have HMR := HM13
             exact sc_round
            | false =>
             have HIF := Aside0.mk hif
             have HN11 := Aside0.mk hif
             clear hif
             go_wp2_with fail
             refine (r_take0 (T := T) (e := s.size) wAllow (p + 1) HLN.out HI11.out HB11.out HIF.out).mono ?_
             rintro e w12 ⟨rfl, hs, hb, hk⟩
             dsimp only
             have HI12 := Aside0.mk hs
             have HB12 := Aside0.mk hb
             have HS12 : Aside0 (RS w2 w12 gr gp v0 v1 v3 s5 okS okR) := ⟨HS11.out.keep hk⟩
             clear hs hb hk HI11 HB11 HS11
             clear HIF
             go_wp2_with fail
             refine (r_wrong (T := T) (e := s.size) (p + 1) 8 HI12.out HB12.out).mono ?_
             rintro e w13 ⟨rfl, hs, hb, hk⟩
             dsimp only
             have HIX := Aside0.mk hs
             have HBX := Aside0.mk hb
             have HKX := Aside0.mk hk
             clear hs hb hk
             have HNO : isP T s.size [wBlock, wUpgrade, wAllow] (p + 1) = false := by rw [isP_cons, isP_cons wUpgrade, HN9.out, HN10.out, HN11.out]; rfl
             have HM13 : Aside0 (MidQ w2 w13 gr gp T s.size R p true df (it : Int) ((p + 1 : Nat) : Int) 8 (nxt T s.size (p + 1)).f1) := ⟨mid_err (by decide) (by omega) (by rw [HRX.out, wordP_no HNO]; rfl)⟩
             clear HNO
             have HIR := HIX
             have HBR := HBX
             have HMR := HM13
             exact sc_round
       ·skip
        have ts0 : (wd.toList == [99, 115, 112]) = false := (eq_word (w := wd) (a := wCsp) (by decide +kernel)).trans (decide_eq_false (by rw [hwd]; decide +kernel))
        have ts1 : (wd.toList == [115, 104, 97, 114, 101]) = false := (eq_word (w := wd) (a := wShare) (by decide +kernel)).trans (decide_eq_false (by rw [hwd]; decide +kernel))
        have ts2 : (wd.toList == [109, 105, 120, 101, 100]) = false := (eq_word (w := wd) (a := wMixed) (by decide +kernel)).trans (decide_eq_false (by rw [hwd]; decide +kernel))
        have ts3 : (wd.toList == [100, 101, 102, 97, 117, 108, 116]) = true := (eq_word (w := wd) (a := wDefault) (by decide +kernel)).trans (decide_eq_true hwd)
        have HWD := Aside0.mk hwd
        clear hwd
        cases df with
        | true =>
         have HM1 : Aside0 (st.metD = 1) := ⟨of_decide_eq_true HDF.out.symm⟩
         have HRE0 : Aside0 (R = .error (10, p0)) := ⟨by rw [HRK.out, item_in HTK2.out HMEM.out, if_neg (by rw [HWD.out]; decide +kernel), if_pos HWD.out, if_pos (by have := HM1.out; omega)]; rfl⟩
         go_wp2_with fail
         refine (r_wrong (T := T) (e := s.size) p 10 HI8.out HB8.out).mono ?_
         rintro e w9 ⟨rfl, hs, hb, hk⟩
         dsimp only
         have HIX := Aside0.mk hs
         have HBX := Aside0.mk hb
         have HKX := Aside0.mk hk
         clear hs hb hk
         rw [← HTK2.out] at HIX
         have hc9 : (10 : Int) ≠ 0 := by decide
         obtain ⟨cE, hcE⟩ : ∃ cE : Int, cE = 10 := ⟨_, rfl⟩
         rw [← hcE] at HIX hc9 HRE0
         have HRE := HRE0
         clear hcE HRE0
         exact sc_bad
        | false =>
         have HM0 : Aside0 (st.metD = 0) := ⟨by have := of_decide_eq_false HDF.out.symm; have := HS8.out.lD; omega⟩
         by_cases hbig : 60 ≤ it
         ·have l3 : decide ((60 : Int) ≤ (it : Int)) = true := decide_eq_true (by omega)
          have HRE0 : Aside0 (R = .error (2, p0)) := ⟨by rw [HRK.out, item_in HTK2.out HMEM.out, if_neg (by rw [HWD.out]; decide +kernel), if_pos HWD.out, if_neg (by have := HM0.out; omega), if_pos (by have := HIT.out; omega)]; rfl⟩
          go_wp2_with fail
          refine (r_wrong (T := T) (e := s.size) p 2 HI8.out HB8.out).mono ?_
          rintro e w9 ⟨rfl, hs, hb, hk⟩
          dsimp only
          have HIX := Aside0.mk hs
          have HBX := Aside0.mk hb
          have HKX := Aside0.mk hk
          clear hs hb hk
          rw [← HTK2.out] at HIX
          have hc9 : (2 : Int) ≠ 0 := by decide
          obtain ⟨cE, hcE⟩ : ∃ cE : Int, cE = 2 := ⟨_, rfl⟩
          rw [← hcE] at HIX hc9 HRE0
          have HRE := HRE0
          clear hcE HRE0
          exact sc_bad
         ·have l3 : decide ((60 : Int) ≤ (it : Int)) = false := decide_eq_false (by omega)
          have HIL : Aside0 (it < 60) := ⟨by omega⟩
          have HRW : Aside0 (R = itemsK T s.size f' (itemK T s.size { st with metD := st.metD + 1, items := st.items + 1 } wd (p + 1))) := ⟨by rw [HRK.out, item_in HTK2.out HMEM.out, if_neg (by rw [HWD.out]; decide +kernel), if_pos HWD.out, if_neg (by have := HM0.out; omega), if_neg (by have := HIT.out; omega)]⟩
          obtain ⟨s5, hs5⟩ : ∃ s5, s5 = ({ st with metD := st.metD + 1, items := st.items + 1 } : Pst) := ⟨_, rfl⟩
          rw [← hs5] at HRW
          have HS5 : Aside0 (RS w2 w8 gr gp v0 v1 v3 s5 okS okR) := ⟨by rw [hs5]; exact (HS8.out.count (by have := HIL.out; have := HIT.out; omega)).metD HM0.out⟩
          have HLN5 : Aside0 (s5.csp.length + 1 ≤ s5.items ∧ s5.shares.length + 1 ≤ s5.items ∧ s5.rules.length + 1 ≤ s5.items) := ⟨by rw [hs5]; exact ⟨Nat.succ_le_succ HS8.out.lC, Nat.succ_le_succ HS8.out.lS, Nat.succ_le_succ HS8.out.lR⟩⟩
          have HCN : Aside0 (Cnt mx true (it : Int) p (p + 1) f' T s5) := ⟨⟨by rw [hs5]; exact HMX.out, by rw [hs5]; exact (decide_eq_true (by show st.metD + 1 = 1; have := HM0.out; omega)).symm, by have := HIT.out; rw [hs5]; show ((it : Int)) + 1 = ((st.items + 1 : Nat) : Int); omega, rfl, HFF.out⟩⟩
          have HMN : Aside0 (s5.metD ≠ 0) := ⟨by rw [hs5]; exact Nat.succ_ne_zero _⟩
          have HMB : Aside0 (s5.allow = false) := ⟨by rw [hs5]; exact HS8.out.eD HM0.out⟩
          clear hs5 hbig HS8 HRK
          obtain ⟨A8, c8, hb8, _, _⟩ := HI8.out
          have t1 : w8.cell? ⟨gr, 1, none⟩ = some (.int .i64 (p : Int)) := cellS66_1 hb8
          have f1 := blk_frozen hb8 1
          have hjb : (p : Int) ≤ 1000000 := by have := HLN.out; have := HPT.out; omega
          clear hb8
          go_upto_region 21 with (fail)
          obtain ⟨w9, hw9⟩ : ∃ w9, w9 = w8.setCell ⟨gr, 1, none⟩ (.int .i64 ((p : Int) + 1)) := ⟨_, rfl⟩
          rw [← hw9]
          have HI9 : Aside0 (IsR w2 w9 gr T ((p + 1 : Nat) : Int) s.size 0 0) := ⟨by rw [hw9, Int.natCast_add]; exact IsS66.set_1 HI8.out _⟩
          have HB9 : Aside0 (Below w2.heap.size w2 w9) := ⟨by rw [hw9]; exact HB8.out.setCell (p := ⟨gr, 1, none⟩) (IsS66.ge HI8.out) _⟩
          have HS9 : Aside0 (RS w2 w9 gr gp v0 v1 v3 s5 okS okR) := ⟨by rw [hw9]; exact HS5.out.kept (Kept.setCell (S := fun k => k = gr) (p := ⟨gr, 1, none⟩) (Kept.refl _ _) (.inl rfl) _)⟩
          clear hw9 t1 f1 hjb HS5 HI8 HB8
          have HRX : Aside0 (R = itemsK T s.size f' (defK s5 (wordP T s.size [wAllow, wDeny] (p + 1)))) := ⟨by rw [HRW.out, itemK_default (by rw [HWD.out]; decide +kernel) (by rw [HWD.out]; decide +kernel) (by rw [HWD.out]; decide +kernel) HWD.out]⟩
          cases hif : isP T s.size [wAllow] (p + 1) with
          | true =>
           have HIF := Aside0.mk hif
           clear hif
           go_wp2_with fail
           refine (r_take1 (T := T) (e := s.size) wAllow (p + 1) HLN.out HI9.out HB9.out HIF.out).mono ?_
           rintro e w10 ⟨rfl, hs, hb, hk⟩
           dsimp only
           have HI10 := Aside0.mk hs
           have HB10 := Aside0.mk hb
           have HS10 : Aside0 (RS w2 w10 gr gp v0 v1 v3 s5 okS okR) := ⟨HS9.out.keep hk⟩
           clear hs hb hk HI9 HB9 HS9
           have e5 : w10.cell? ⟨gp, 4, none⟩ = some (.bool s5.allow) := blk_cell HS10.out.blk 4
           have f5 := blk_frozen HS10.out.blk 4
           have HI13 : Aside0 (IsR w2 (w10.setCell ⟨gp, 4, none⟩ (.bool true)) gr T ((p + 1 + 1 : Nat) : Int) s.size 0 0) := ⟨IsS66.far HI10.out (p := ⟨gp, 4, none⟩) HS10.out.ng _⟩
           have HB13 : Aside0 (Below w2.heap.size w2 (w10.setCell ⟨gp, 4, none⟩ (.bool true))) := ⟨HB10.out.setCell (p := ⟨gp, 4, none⟩) HS10.out.lg _⟩
           have HM13 : Aside0 (MidQ w2 (w10.setCell ⟨gp, 4, none⟩ (.bool true)) gr gp T s.size R p mx true (it : Int) ((p + 1 + 1 : Nat) : Int) 0 0) := ⟨mid_ok (st := { s5 with allow := true }) (s5 := s5) (q := p + 1) (Nat.le_succ _) rfl rfl rfl (by rw [HRX.out, wordP_yes wAllow (by decide +kernel) HIF.out]; rfl) (HS10.out.setAllow true HMN.out) HCN.out⟩
           have HIR := HI13
           have HBR := HB13
           have HMR := HM13
           exact sc_round
          | false =>
           have HIF := Aside0.mk hif
           have HN9 := Aside0.mk hif
           clear hif
           go_wp2_with fail
           refine (r_take0 (T := T) (e := s.size) wAllow (p + 1) HLN.out HI9.out HB9.out HIF.out).mono ?_
           rintro e w10 ⟨rfl, hs, hb, hk⟩
           dsimp only
           have HI10 := Aside0.mk hs
           have HB10 := Aside0.mk hb
           have HS10 : Aside0 (RS w2 w10 gr gp v0 v1 v3 s5 okS okR) := ⟨HS9.out.keep hk⟩
           clear hs hb hk HI9 HB9 HS9
           clear HIF
           cases hif : isP T s.size [wDeny] (p + 1) with
           | true =>
            have HIF := Aside0.mk hif
            clear hif
            go_wp2_with fail
            refine (r_take1 (T := T) (e := s.size) wDeny (p + 1) HLN.out HI10.out HB10.out HIF.out).mono ?_
            rintro e w11 ⟨rfl, hs, hb, hk⟩
            dsimp only
            have HI11 := Aside0.mk hs
            have HB11 := Aside0.mk hb
            have HS11 : Aside0 (RS w2 w11 gr gp v0 v1 v3 s5 okS okR) := ⟨HS10.out.keep hk⟩
            clear hs hb hk HI10 HB10 HS10
            have HM : Aside0 (MidQ w2 w11 gr gp T s.size R p mx true (it : Int) ((p + 1 + 1 : Nat) : Int) 0 0) := ⟨mid_ok (st := { s5 with allow := false }) (s5 := s5) (q := p + 1) (Nat.le_succ _) rfl rfl rfl (by rw [HRX.out, wordP_yes wDeny (by decide +kernel) HIF.out]; rfl) (by rw [← HMB.out]; exact HS11.out) HCN.out⟩
            have HIR := HI11
            have HBR := HB11
            have HMR := HM
            exact sc_round
           | false =>
            have HIF := Aside0.mk hif
            have HN10 := Aside0.mk hif
            clear hif
            go_wp2_with fail
            refine (r_take0 (T := T) (e := s.size) wDeny (p + 1) HLN.out HI10.out HB10.out HIF.out).mono ?_
            rintro e w11 ⟨rfl, hs, hb, hk⟩
            dsimp only
            have HI11 := Aside0.mk hs
            have HB11 := Aside0.mk hb
            have HS11 : Aside0 (RS w2 w11 gr gp v0 v1 v3 s5 okS okR) := ⟨HS10.out.keep hk⟩
            clear hs hb hk HI10 HB10 HS10
            clear HIF
            go_wp2_with fail
            refine (r_wrong (T := T) (e := s.size) (p + 1) 8 HI11.out HB11.out).mono ?_
            rintro e w13 ⟨rfl, hs, hb, hk⟩
            dsimp only
            have HIX := Aside0.mk hs
            have HBX := Aside0.mk hb
            have HKX := Aside0.mk hk
            clear hs hb hk
            have HNO : isP T s.size [wAllow, wDeny] (p + 1) = false := by rw [isP_cons, HN9.out, HN10.out]; rfl
            have HM13 : Aside0 (MidQ w2 w13 gr gp T s.size R p mx true (it : Int) ((p + 1 : Nat) : Int) 8 (nxt T s.size (p + 1)).f1) := ⟨mid_err (by decide) (by omega) (by rw [HRX.out, wordP_no HNO]; rfl)⟩
            clear HNO
            have HIR := HIX
            have HBR := HBX
            have HMR := HM13
            exact sc_round
       ·replace hwd : ¬ wd = wCsp ∧ ¬ wd = wShare ∧ ¬ wd = wMixed ∧ ¬ wd = wDefault := by rcases hwd with rfl | rfl <;> decide +kernel
        have ts0 : (wd.toList == [99, 115, 112]) = false := (eq_word (w := wd) (a := wCsp) (by decide +kernel)).trans (decide_eq_false hwd.1)
        have ts1 : (wd.toList == [115, 104, 97, 114, 101]) = false := (eq_word (w := wd) (a := wShare) (by decide +kernel)).trans (decide_eq_false hwd.2.1)
        have ts2 : (wd.toList == [109, 105, 120, 101, 100]) = false := (eq_word (w := wd) (a := wMixed) (by decide +kernel)).trans (decide_eq_false hwd.2.2.1)
        have ts3 : (wd.toList == [100, 101, 102, 97, 117, 108, 116]) = false := (eq_word (w := wd) (a := wDefault) (by decide +kernel)).trans (decide_eq_false hwd.2.2.2)
        have HWD := Aside0.mk hwd
        clear hwd
        by_cases hbig : 60 ≤ it
        ·have l3 : decide ((60 : Int) ≤ (it : Int)) = true := decide_eq_true (by omega)
         have HRE0 : Aside0 (R = .error (2, p0)) := ⟨by rw [HRK.out, item_in HTK2.out HMEM.out, if_neg HWD.out.2.2.1, if_neg HWD.out.2.2.2, if_pos (by have := HIT.out; omega)]; rfl⟩
         go_wp2_with fail
         refine (r_wrong (T := T) (e := s.size) p 2 HI8.out HB8.out).mono ?_
         rintro e w9 ⟨rfl, hs, hb, hk⟩
         dsimp only
         have HIX := Aside0.mk hs
         have HBX := Aside0.mk hb
         have HKX := Aside0.mk hk
         clear hs hb hk
         rw [← HTK2.out] at HIX
         have hc9 : (2 : Int) ≠ 0 := by decide
         obtain ⟨cE, hcE⟩ : ∃ cE : Int, cE = 2 := ⟨_, rfl⟩
         rw [← hcE] at HIX hc9 HRE0
         have HRE := HRE0
         clear hcE HRE0
         exact sc_bad
        ·have l3 : decide ((60 : Int) ≤ (it : Int)) = false := decide_eq_false (by omega)
         have HIL : Aside0 (it < 60) := ⟨by omega⟩
         have HRW : Aside0 (R = itemsK T s.size f' (itemK T s.size { st with items := st.items + 1 } wd (p + 1))) := ⟨by rw [HRK.out, item_in HTK2.out HMEM.out, if_neg HWD.out.2.2.1, if_neg HWD.out.2.2.2, if_neg (by have := HIT.out; omega)]⟩
         obtain ⟨s5, hs5⟩ : ∃ s5, s5 = ({ st with items := st.items + 1 } : Pst) := ⟨_, rfl⟩
         rw [← hs5] at HRW
         have HS5 : Aside0 (RS w2 w8 gr gp v0 v1 v3 s5 okS okR) := ⟨by rw [hs5]; exact HS8.out.count (by have := HIL.out; have := HIT.out; omega)⟩
         have HLN5 : Aside0 (s5.csp.length + 1 ≤ s5.items ∧ s5.shares.length + 1 ≤ s5.items ∧ s5.rules.length + 1 ≤ s5.items) := ⟨by rw [hs5]; exact ⟨Nat.succ_le_succ HS8.out.lC, Nat.succ_le_succ HS8.out.lS, Nat.succ_le_succ HS8.out.lR⟩⟩
         have HCN : Aside0 (Cnt mx df (it : Int) p (p + 1) f' T s5) := ⟨⟨by rw [hs5]; exact HMX.out, by rw [hs5]; exact HDF.out, by have := HIT.out; rw [hs5]; show ((it : Int)) + 1 = ((st.items + 1 : Nat) : Int); omega, rfl, HFF.out⟩⟩
         clear hs5 hbig HS8 HRK
         obtain ⟨A8, c8, hb8, _, _⟩ := HI8.out
         have t1 : w8.cell? ⟨gr, 1, none⟩ = some (.int .i64 (p : Int)) := cellS66_1 hb8
         have f1 := blk_frozen hb8 1
         have hjb : (p : Int) ≤ 1000000 := by have := HLN.out; have := HPT.out; omega
         clear hb8
         go_upto_region 21 with (fail)
         obtain ⟨w9, hw9⟩ : ∃ w9, w9 = w8.setCell ⟨gr, 1, none⟩ (.int .i64 ((p : Int) + 1)) := ⟨_, rfl⟩
         rw [← hw9]
         have HI9 : Aside0 (IsR w2 w9 gr T ((p + 1 : Nat) : Int) s.size 0 0) := ⟨by rw [hw9, Int.natCast_add]; exact IsS66.set_1 HI8.out _⟩
         have HB9 : Aside0 (Below w2.heap.size w2 w9) := ⟨by rw [hw9]; exact HB8.out.setCell (p := ⟨gr, 1, none⟩) (IsS66.ge HI8.out) _⟩
         have HS9 : Aside0 (RS w2 w9 gr gp v0 v1 v3 s5 okS okR) := ⟨by rw [hw9]; exact HS5.out.kept (Kept.setCell (S := fun k => k = gr) (p := ⟨gr, 1, none⟩) (Kept.refl _ _) (.inl rfl) _)⟩
         clear hw9 t1 f1 hjb HS5 HI8 HB8
         have HRX : Aside0 (R = itemsK T s.size f' (ifK T s.size s5 wd (wordP T s.size [wIf] (p + 1)))) := ⟨by rw [HRW.out, itemK_rule HWD.out.1 HWD.out.2.1 HWD.out.2.2.1 HWD.out.2.2.2]⟩
         cases hif : isP T s.size [wIf] (p + 1) with
         | false =>
          have HIF := Aside0.mk hif
          clear hif
          go_wp2_with fail
          refine (r_take0 (T := T) (e := s.size) wIf (p + 1) HLN.out HI9.out HB9.out HIF.out).mono ?_
          rintro e w10 ⟨rfl, hs, hb, hk⟩
          dsimp only
          have HI10 := Aside0.mk hs
          have HB10 := Aside0.mk hb
          have HS10 : Aside0 (RS w2 w10 gr gp v0 v1 v3 s5 okS okR) := ⟨HS9.out.keep hk⟩
          clear hs hb hk HI9 HB9 HS9
          go_wp2_with fail
          refine (r_wrong (T := T) (e := s.size) (p + 1) 8 HI10.out HB10.out).mono ?_
          rintro e w11 ⟨rfl, hs, hb, hk⟩
          dsimp only
          have HIX := Aside0.mk hs
          have HBX := Aside0.mk hb
          have HKX := Aside0.mk hk
          clear hs hb hk
          have HM11 : Aside0 (MidQ w2 w11 gr gp T s.size R p mx df (it : Int) ((p + 1 : Nat) : Int) 8 (nxt T s.size (p + 1)).f1) := ⟨mid_err (by decide) (by omega) (by rw [HRX.out, wordP_no HIF.out]; rfl)⟩
          have HIR := HIX
          have HBR := HBX
          have HMR := HM11
          exact sc_round
         | true =>
          have HIF := Aside0.mk hif
          clear hif
          go_wp2_with fail
          refine (r_take1 (T := T) (e := s.size) wIf (p + 1) HLN.out HI9.out HB9.out HIF.out).mono ?_
          rintro e w10 ⟨rfl, hs, hb, hk⟩
          dsimp only
          have HI10 := Aside0.mk hs
          have HB10 := Aside0.mk hb
          have HS10 : Aside0 (RS w2 w10 gr gp v0 v1 v3 s5 okS okR) := ⟨HS9.out.keep hk⟩
          clear hs hb hk HI9 HB9 HS9
          have hC := rcond_calls w2 w10.drew gr T s.size HLN.out HSZ.out (p + 1 + 1) HI10.out (below_drew HB10.out)
          have HRY : Aside0 (R = itemsK T s.size f' (ruleK s5 wd (condP T s.size (p + 1 + 1)))) := ⟨by rw [HRX.out, wordP_yes wIf (by decide +kernel) HIF.out]; rfl⟩
          have HC := Aside0.mk hC
          have HLB : Aside0 ((s5.rules.length + 1) * 72 ≤ 140737488355328) := ⟨by have := HLN5.out.2.2; have := HS10.out.lI; omega⟩
          have d0 : w10.drew.cell? ⟨gp, 3, none⟩ = some v3 := blk_cell HS10.out.blk 3
          have HSD : Aside0 (RS w2 w10.drew gr gp v0 v1 v3 s5 okS okR) := ⟨HS10.out.drewN 1⟩
          have HGG : Aside0 (gr < w10.drew.heap.size ∧ gp < w10.drew.heap.size) := ⟨⟨HS10.out.lr, blk_lt HS10.out.blk⟩⟩
          have HOK : Aside0 (∀ k, w10.drew.heap.size ≤ k → (okR k ∨ w10.drew.heap.size ≤ k) ∧ some k ≠ v3.ownBlock) := ⟨fun k hk => ⟨.inr hk, fun he => by have := Kd.N_lt HSD.out.rR k he.symm; omega⟩⟩
          obtain ⟨y, hy⟩ : ∃ y, y = decide (wd = wAllow) := ⟨_, rfl⟩
          have tA : (wd.toList == [97, 108, 108, 111, 119]) = y := (eq_word (w := wd) (a := wAllow) (by decide +kernel)).trans hy.symm
          have HY := Aside0.mk hy
          clear hC HRW hy
          go_upto_region 24 with (fail)
          refine start_ (n := 11) (S := fun w' => w'.cell? ⟨gp, 3, none⟩ = some v3) (ds := [8, 10]) #[false, false, false, false, false, false, false, false, false, false, false] (by kernel_rfl) rfl rfl (d0) (fun hHeld => ?_)
          refine pure_ (i := 0) (N := some 96) (v := ?_) (a' := ?_) #[true, false, false, false, false, false, false, false, false, false, false] rfl rfl (by kernel_rfl) (fun _ _ _ h => h) (Or.inl ⟨by rfl, ?_⟩) ?_ ?_
          rotate_left
          ·exact sAt9_1
          rotate_left
          ·exact nAt9_
          refine pure_ (i := 2) (N := some 98) (v := ?_) (a' := ?_) #[true, false, true, false, false, false, false, false, false, false, false] rfl rfl (by kernel_rfl) (fun _ _ _ h => h) (Or.inl ⟨by rfl, ?_⟩) ?_ ?_
          rotate_left
          ·exact sAt9_1
          rotate_left
          ·exact nAt9_
          refine pure_ (i := 3) (N := some 99) (v := ?_) (a' := ?_) #[true, false, true, true, false, false, false, false, false, false, false] rfl rfl (by kernel_rfl) (fun _ _ _ h => h) (Or.inl ⟨by rfl, ?_⟩) ?_ ?_
          rotate_left
          ·exact sAt9_1
          rotate_left
          ·exact nAt9_
          refine pure_ (i := 4) (N := some 100) (v := ?_) (a' := ?_) #[true, false, true, true, true, false, false, false, false, false, false] rfl rfl (by kernel_rfl) (fun _ _ _ h => h) (Or.inl ⟨by rfl, ?_⟩) ?_ ?_
          rotate_left
          ·exact sAt9_1
          rotate_left
          ·exact nAt9_
          refine take_ (i := 1) (N := some 97) (v := ?_) (a' := ?_) #[true, true, true, true, true, false, false, false, false, false, false] rfl rfl (by kernel_rfl) (fun _ _ _ h => h) (Or.inl ⟨by rfl, ?_⟩) hHeld ?_ ?_
          rotate_left
          ·intro w' s0
           go_simp
           with_reducible rfl
          rotate_left
          ·exact nAt9_
          refine one_ (i := 5) (N := some 101) #[true, true, true, true, true, true, false, false, false, false, false] rfl rfl (by kernel_rfl) (by decide) (fun K hK => ?_)
          refine goes_ Tryd.func31 (by kernel_rfl) rfl #[.pointer (some ⟨gr, 0, none⟩), .int .i64 0] (by rfl) rfl rfl (by simp only [List.map_toArray, List.map_cons, List.map_nil]; rfl) ?_
          refine HC.out.mono ?_
          rintro e w11 ⟨h7, i7, c7, a7, x3, hq7, rfl, g3, hi11, hb11, hk11⟩
          refine ⟨_, rfl, ?_⟩
          unfold cdcells
          have HQ := Aside0.mk hq7
          have HI11 := Aside0.mk hi11
          have HB11 := Aside0.mk hb11
          have HS11 : Aside0 (RS w2 w11 gr gp v0 v1 v3 s5 okS okR) := ⟨HSD.out.keep hk11⟩
          have HZ11 : Aside0 (w10.drew.heap.size ≤ w11.heap.size) := ⟨hk11.1⟩
          have HMM : Aside0 (Kd.FK k41 w11 (fun k => w10.drew.heap.size ≤ k) ⟨y, h7⟩ [.bool y, .int .i64 h7.f0, .string h7.f1.f0, .string h7.f1.f1, x3]) := ⟨rl_mkF w11 _ ⟨y, h7⟩ (Kd.V_lower g3 (Nat.zero_le _))⟩
          have HFR : Aside0 (∀ k, w11.heap.size ≤ k → okR k ∨ w10.drew.heap.size ≤ k) := ⟨fun k hk => .inr (Nat.le_trans HZ11.out hk)⟩
          have HR11 : Aside0 (k41.N 41 w11 w2.heap.size (fun k => okR k ∨ w10.drew.heap.size ≤ k) v3 s5.rules) := ⟨Kd.N_mono HS11.out.rR (fun k hk => .inl hk)⟩
          clear hi11 hb11 hk11 g3 hq7
          refine hK.out _ _ ((blk_cell HS11.out.blk 3)) (fun hHeld => ?_)
          clear hK K
          refine norm_ (a' := ?_) ?_ ?_
          rotate_left
          ·show Act.put _ (some 101) _ = _
           exact nAt9_
          refine pure_ (i := 6) (N := some 102) (v := ?_) (a' := ?_) #[true, true, true, true, true, true, true, false, false, false, false] rfl rfl (by kernel_rfl) (fun _ _ _ h => h) (Or.inl ⟨by rfl, ?_⟩) ?_ ?_
          rotate_left
          ·exact sAt9_1
          rotate_left
          ·exact nAt9_
          refine one_ (i := 7) (N := some 103) #[true, true, true, true, true, true, true, true, false, false, false] rfl rfl (by kernel_rfl) (by decide) (fun K hK => ?_)
          refine value_ (w1 := ?_) (v := ?_) (by rfl) rfl ?_ ?_
          rotate_left 2
          ·go_simp
           constructor
           ·rfl
           ·rfl
          refine hK.out _ _ ((blk_cell (show (w11.alloc _).heap[gp]? = _ from blk_alloc HS11.out.blk _) 3)) (fun hHeld => ?_)
          clear hK K
          refine norm_ (a' := ?_) ?_ ?_
          rotate_left
          ·show Act.put _ (some 103) _ = _
           exact nAt9_
          refine last_ (i := 8) (N := some 104) #[true, true, true, true, true, true, true, true, true, false, false] rfl rfl (by kernel_rfl) (by decide) (fun K hK => ?_)
          refine Kd.N_append_step k41 (w0 := w2) (W := w11) w2.heap.size (by rfl) _ _ 24 41 _ 72 rfl Tryd.underlying24 info_rule rfl (by decide) (by decide) v3 s5.rules ⟨y, h7⟩ [.bool y, .int .i64 h7.f0, .string h7.f1.f0, .string h7.f1.f1, x3] (fun k => okR k ∨ w10.drew.heap.size ≤ k) (fun k => w10.drew.heap.size ≤ k) rfl rfl HMM.out HOK.out HFR.out HR11.out HB11.out HB11.out.size HLB.out ?_
          intro v12 w12 hO12 hB12 hG12 hat12
          have HI13 : Aside0 (IsR w2 (w12.setCell ⟨gp, 3, none⟩ v12) gr T i7 s.size c7 a7) := ⟨IsS66.far (IsS66.grown HI11.out hG12 (fun he => (HS11.out.bR gr (HS11.out.rR.1 gr he.symm)).2.2.1 rfl)) (p := ⟨gp, 3, none⟩) HS11.out.ng _⟩
          have HB13 : Aside0 (Below w2.heap.size w2 (w12.setCell ⟨gp, 3, none⟩ v12)) := ⟨hB12.setCell (p := ⟨gp, 3, none⟩) HS11.out.lg _⟩
          have HM13 : Aside0 (MidQ w2 (w12.setCell ⟨gp, 3, none⟩ v12) gr gp T s.size R p mx df (it : Int) i7 c7 a7) := ⟨mid_rul HQ.out (Nat.le_succ _) HRY.out (by rw [← HY.out]; exact RS.rule HSD.out HS11.out HZ11.out hO12 hG12 HLN5.out.2.2 HB10.out.size HGG.out) HCN.out⟩
          have hp12 : w12.heap[gp]? = some (.cells (polcells v0 v1 s5.mixed v3 s5.allow) 26 (0, 0)) := (hG12.block gp (blk_lt HS11.out.blk) (fun he => (HS11.out.bR gp (HS11.out.rR.1 gp he.symm)).2.2.2 rfl)).trans HS11.out.blk
          obtain ⟨A12, c12, e12⟩ := Kd.N_slice hO12
          obtain ⟨n12, hn12⟩ : ∃ n12, n12 = (s5.rules ++ [(⟨y, h7⟩ : Rl)]).length := ⟨_, rfl⟩
          rw [← hn12] at e12
          subst e12
          have e4 : w12.cell? ⟨gp, 3, none⟩ = some v3 := blk_cell hp12 3
          have f4 := blk_frozen hp12 3
          clear hO12 hB12 hG12 hat12 hp12 hn12
          refine hK.out _ _ ?_
          clear hK K
          refine norm_ (a' := ?_) ?_ ?_
          rotate_left
          ·show Act.put _ (some 104) _ = _
           exact nAt9_
          refine pure_ (i := 9) (N := some 105) (v := ?_) (a' := ?_) #[true, true, true, true, true, true, true, true, true, true, false] rfl rfl (by kernel_rfl) (fun _ _ _ h => h) (Or.inl ⟨by rfl, ?_⟩) ?_ ?_
          rotate_left
          ·exact sAt9_1
          rotate_left
          ·exact nAt9_
          refine last_ (i := 10) (N := none) #[true, true, true, true, true, true, true, true, true, true, true] rfl rfl (by kernel_rfl) (by decide) (fun K hK => ?_)
          refine skip_ (w1 := ?_) (by rfl) rfl ?_ ?_
          rotate_left
          ·go_simp
           rfl
          refine hK.out _ _ ?_
          clear hK K
          refine done_ (by kernel_rfl) ?_

          have HIR := HI13
          have HBR := HB13
          have HMR := HM13
          exact sc_round
     ·have l6 : (k0 == (1 : Int)) = false := by simp [hk0]
      have HMEM : Aside0 (memB (⟨#[]⟩ : ByteArray) six = false) := ⟨by decide +kernel⟩
      have HRE0 : Aside0 (R = .error (8, p0)) := ⟨by rw [HRK.out, item_no HTK2.out (by rw [decide_eq_false hk0]; rfl)]; rfl⟩
      have hin := parapetref1_In.calls (six.length + 1) (⟨#[]⟩ : ByteArray) (some ⟨w6.heap.size, 0, none⟩) 6 six _ (w6.alloc (.cells #[.string wCsp, .string wShare, .string wMixed, .string wDefault, .string wAllow, .string wDeny] 9)) (lit_strs w6 six (by decide)) (Nat.le_refl _) (in_f (⟨#[]⟩ : ByteArray) six (by decide))
      rw [HMEM.out] at hin
      have HIN := Aside0.mk hin
      clear hin
      go_wp2_with fail
      refine HIN.out.mono ?_
      rintro e w8 ⟨rfl, ⟨⟨nd, hw8⟩⟩⟩
      dsimp only
      have HI8 : Aside0 (IsR w2 w8 gr T (p : Int) s.size 0 0) := ⟨by rw [hw8]; exact IsS66.drewN (IsS66.alloc HI6.out _) _⟩
      have HB8 : Aside0 (Below w2.heap.size w2 w8) := ⟨by rw [hw8]; exact pw_below_drewN (below_alloc HB6.out _) _⟩
      have HS8 : Aside0 (RS w2 w8 gr gp v0 v1 v3 st okS okR) := ⟨by rw [hw8]; exact (HS6.out.keep (keep_alloc (KeepBut.refl _ _ _) _)).drewN _⟩
      clear hw8 HIN
      go_wp2_with fail
      refine (r_wrong (T := T) (e := s.size) p 8 HI8.out HB8.out).mono ?_
      rintro e w9 ⟨rfl, hs, hb, hk⟩
      dsimp only
      have HIX := Aside0.mk hs
      have HBX := Aside0.mk hb
      have HKX := Aside0.mk hk
      clear hs hb hk
      rw [← HTK2.out] at HIX
      have hc9 : (8 : Int) ≠ 0 := by decide
      obtain ⟨cE, hcE⟩ : ∃ cE : Int, cE = 8 := ⟨_, rfl⟩
      rw [← hcE] at HIX hc9 HRE0
      have HRE := HRE0
      clear hcE HRE0
      exact sc_bad
    ·skip
     have l1 : decide ((p : Int) < (n0 : Int)) = false := decide_eq_false (by omega)
     have l2 : decide (p < n0) = false := decide_eq_false hp
     obtain rfl : R = .ok st := by
      rw [hR]
      cases f with
      | zero => rfl
      | succ f => rw [itemsP, if_neg (by have := HN0.out; omega)]
     obtain ⟨A1, c1, hb1, _, _⟩ := HI.out
     have t0 : wr.cell? ⟨gr, 0, none⟩ = some (.slice A1 n0 c1) := by rw [HN0.out]; exact cellS66_0 hb1
     have t1 : wr.cell? ⟨gr, 1, none⟩ = some (.int .i64 (p : Int)) := cellS66_1 hb1
     have l0 : ((0 : Int) != 0) = false := by decide
     have HS := Aside0.mk hS
     clear hb1 hm hd hn hf hgk hS hR hp
     go_wp2
     go_quiet ((go_at_call 24; exact Calls.quiet_of_same (bad_quiet w2 _ gr T _ _ 0 0 _ l0 (IsS66.drewN HI.out _))))
     obtain ⟨w5, hw5⟩ : ∃ w5, w5 = wr.drewN nq := ⟨_, rfl⟩
     rw [← hw5]
     have HI5 : Aside0 (IsR w2 w5 gr T (p : Int) s.size 0 0) := ⟨by rw [hw5]; exact IsS66.drewN HI.out _⟩
     have HB5 : Aside0 (Below w2.heap.size w2 w5) := ⟨by rw [hw5]; exact pw_below_drewN HB.out _⟩
     have HS5 : Aside0 (RS w2 w5 gr gp v0 v1 v3 st okS okR) := ⟨by rw [hw5]; exact HS.out.drewN _⟩
     clear hw5 t0 t1 HI HB HS l1 l2
     go_wp2_with fail
     refine (bad_quiet w2 _ gr T _ _ 0 0 false l0 HI5.out).mono ?_
     rintro e w' ⟨rfl, hww⟩
     obtain rfl := hww.symm
     clear hww
     dsimp only
     obtain ⟨B0, k0, e0⟩ := Kd.R_slice HS5.out.rC
     obtain ⟨B1, k1, e1⟩ := Kd.R_slice HS5.out.rS
     obtain ⟨B3, k3, e3⟩ := Kd.N_slice HS5.out.rR
     have HC : Aside0 (v0.oneCell' = true ∧ v1.oneCell' = true ∧ v3.oneCell' = true) := ⟨by rw [e0, e1, e3]; exact ⟨rfl, rfl, rfl⟩⟩
     have HPr : Aside0 (w5.heap[gA]? = some (.cells (polcells (.slice none 0 0) (.slice none 0 0) ⟨#[]⟩ (.slice none 0 0) false) 26 (0, 0))) := ⟨blk_below HP2.out HB5.out⟩
     have HFr : Aside0 (w5.heap[gA + 1]? = some (.cells #[.int .i64 0, .int .i64 0] 50 (0, 0))) := ⟨blk_below HF2.out HB5.out⟩
     have HKS : Aside0 (∀ c1 c2, Kept w5 ((w5.setRow gA c1).setRow (gA + 1) c2) (fun k => k = gA ∨ k = gA + 1)) := ⟨fun c1 c2 => ((kept_setRow w5 gA c1).mono (fun k hk => .inl hk)).then_ (kept_setRow _ _ _) (fun k hk => .inl (.inr hk))⟩
     have HGT : Aside0 (gA + 1 < w2.heap.size) := ⟨by have := HLT.out; have := HZ2.out; omega⟩
     have HBr : Aside0 (Below w.heap.size w w5) := ⟨HB2.out.trans (HB5.out.mono HB2.out.size)⟩
     clear e0 e1 e3
     go_wp2_with (first | refine wpList_load_row rfl 26 _ rfl gp rfl 26 (polcells v0 v1 st.mixed v3 st.allow) (0, 0) _ HS5.out.blk Tryd.underlying26 rfl size_pol ?_ | refine wpList_store_row rfl 26 (.tmp 2) (.tmp 158) rfl gA (polcells v0 v1 st.mixed v3 st.allow) rfl rfl 26 _ HPr.out size_pol rfl (pol_one HC.out _ _) ?_ | refine wpList_store_row rfl 50 (.tmp 3) (.tmp 159) rfl (gA + 1) #[.int .i64 0, .int .i64 0] rfl rfl 50 #[.int .i64 0, .int .i64 0] ((setRow_other _ _ _ _ (show gA + 1 ≠ gA by omega)).trans HFr.out) size_fault rfl (by simp [Value.oneCell']) ?_)
     refine bodyPost_ret (rpol_results _ _ gA (gA + 1) _ _ rfl rfl ?_ ?_ rfl rfl) rfl ⟨v0, v1, v3, rfl, ?_, ?_, ?_, ?_⟩
     ·exact (setRow_other _ _ _ _ (show gA ≠ gA + 1 by omega)).trans (setRow_heap _ _ _ _ _ _ HPr.out)
     ·exact setRow_heap _ _ _ _ _ _ ((setRow_other _ _ _ _ (show gA + 1 ≠ gA by omega)).trans HFr.out)
     ·exact Kd.R_lower (Kd.R_mono (Kd.R_kept (Kd.R_bound HS5.out.rC) (HKS.out _ _) (fun k ho hs => by have := ho.2.1; have := HGT.out; rcases hs with hs | hs <;> omega)) (fun k ho => by have := ho.2.1; have := HB2.out.size; omega)) HB2.out.size
     ·exact Kd.R_lower (Kd.R_mono (Kd.R_kept HS5.out.rS (HKS.out _ _) (fun k ho hs => by have := (HS5.out.bS k ho).2.1; have := HGT.out; rcases hs with hs | hs <;> omega)) (fun k ho => ⟨by have := (HS5.out.bS k ho).2.1; have := HB2.out.size; omega, fun he => (HS5.out.dC k he.symm).2.2.1 ho⟩)) HB2.out.size
     ·exact Kd.N_V (Kd.N_mono (Kd.N_kept HS5.out.rR (HKS.out _ _) (fun k ho hs => by have := (HS5.out.bR k ho).2.1; have := HGT.out; rcases hs with hs | hs <;> omega)) (fun k ho => ⟨by have := (HS5.out.bR k ho).2.1; have := HB2.out.size; omega, fun he => (HS5.out.dC k he.symm).2.2.2 ho, fun he => (HS5.out.bS k (HS5.out.rS.1 k he.symm)).2.2.2.2 ho⟩))
     ·exact below_setRow (below_setRow HBr.out (by rw [HGA.out]; omega) _) (by rw [HGA.out]; omega) _
 ·have l1 : (c != (0 : Int)) = true := by simp [hc]
  obtain rfl : R = .error (c, a) := by rw [HR.out, polT, if_neg hc]
  go_upto_region 2 with (refine wpList_store_row rfl 50 _ _ rfl w1.heap.size #[.int .i64 c, .int .i64 a] rfl rfl 50 #[.int .i64 0, .int .i64 0] (blk_new _ _) size_fault rfl (by simp [Value.oneCell']) ?_)
  obtain ⟨w2, hw2⟩ : ∃ w2, w2 = (w1.alloc (.cells #[.int .i64 0, .int .i64 0] 50)).setRow w1.heap.size #[.int .i64 c, .int .i64 a] := ⟨_, rfl⟩
  rw [← hw2, ← hgf]
  have HX2 : Aside0 (w2.heap[gf]? = some (.cells #[.int .i64 c, .int .i64 a] 50 (0, 0))) := ⟨by rw [hw2, hgf]; exact setRow_heap _ _ _ _ _ _ (blk_new w1 (.cells #[.int .i64 0, .int .i64 0] 50))⟩
  have HLT : Aside0 (gA + 1 < gf) := ⟨by rw [hgf]; exact blk_lt HF1.out⟩
  have HK12 : Aside0 (Below w1.heap.size w1 w2) := ⟨by rw [hw2]; exact below_setRow (below_alloc (Below.refl _ _) _) (Nat.le_refl _) _⟩
  clear hw2
  have HF2 : Aside0 (w2.heap[gA + 1]? = some (.cells #[.int .i64 0, .int .i64 0] 50 (0, 0))) := ⟨blk_below HF1.out HK12.out⟩
  have HP2 : Aside0 (w2.heap[gA]? = some (.cells (polcells (.slice none 0 0) (.slice none 0 0) ⟨#[]⟩ (.slice none 0 0) false) 26 (0, 0))) := ⟨blk_below HP1.out HK12.out⟩
  have HB2 : Aside0 (Below w.heap.size w w2) := ⟨HB1.out.trans (HK12.out.mono HB1.out.size)⟩
  have t0 : w2.cell? ⟨gf, 0, none⟩ = some (.int .i64 c) := blk_cell HX2.out 0
  have d0 : w2.drew.cell? ⟨gf, 0, none⟩ = some (.int .i64 c) := blk_cell HX2.out 0
  have d1 : w2.drew.cell? ⟨gf, 1, none⟩ = some (.int .i64 a) := blk_cell HX2.out 1
  clear HF1 HP1 HB1 HT1 HK12 hgf
  go_upto_region 3 with (fail)
  refine start_ (n := 4) (S := fun w' => w'.cell? ⟨gf, 0, none⟩ = some (.int .i64 c) ∧ w'.cell? ⟨gf, 1, none⟩ = some (.int .i64 a)) (ds := [3]) #[false, false, false, false] (by kernel_rfl) rfl rfl ⟨d0, d1⟩ (fun hHeld => ?_)
  refine pure_ (i := 0) (N := some 20) (v := ?_) (a' := ?_) #[true, false, false, false] rfl rfl (by kernel_rfl) (fun _ _ _ h => h) (Or.inl ⟨by rfl, ?_⟩) ?_ ?_
  rotate_left
  ·exact sAt9_1
  rotate_left
  ·exact nAt9_
  refine take_ (i := 1) (N := some 21) (v := ?_) (a' := ?_) #[true, true, false, false] rfl rfl (by kernel_rfl) (fun _ _ _ h => h) (Or.inl ⟨by rfl, ?_⟩) hHeld ?_ ?_
  rotate_left
  ·rintro w' ⟨s0, s1⟩
   go_simp
   with_reducible rfl
  rotate_left
  ·exact nAt9_
  refine one_ (i := 2) (N := none) #[true, true, true, false] rfl rfl (by kernel_rfl) (by decide) (fun K hK => ?_)
  refine QT.storeRow_ (by rfl) rfl 26 (.tmp 2) (.tmp 20) rfl gA #[.slice none 0 0, .slice none 0 0, .string ⟨#[]⟩, .slice none 0 0, .bool false] rfl rfl 26 _ HP2.out (by kernel_rfl) rfl (by simp [Value.oneCell']) ?_
  refine hK.out _ _ ⟨(cell_setRow_other _ _ _ _ (show gf ≠ gA by have := HLT.out; omega)).trans hHeld.1, (cell_setRow_other _ _ _ _ (show gf ≠ gA by have := HLT.out; omega)).trans hHeld.2⟩ (fun hHeld => ?_)
  clear hK K
  refine last_ (i := 3) (N := none) #[true, true, true, true] rfl rfl (by kernel_rfl) (by decide) (fun K hK => ?_)
  refine QT.storeRow_ (by rfl) rfl 50 (.tmp 3) (.tmp 21) rfl (gA + 1) #[.int .i64 c, .int .i64 a] rfl rfl 50 #[.int .i64 0, .int .i64 0] ((setRow_other _ _ _ _ (show gA + 1 ≠ gA by omega)).trans HF2.out) (by kernel_rfl) rfl (by simp [Value.oneCell']) ?_
  refine hK.out _ _ ?_
  clear hK K
  refine done_ (by kernel_rfl) ?_

  rw [hput, hput]
  clear hput
  go_wp2
  refine bodyPost_ret (rpol_results _ _ gA (gA + 1) _ _ rfl rfl ?_ ?_ rfl rfl) rfl ⟨rfl, ?_⟩
  ·exact (setRow_other _ _ _ _ (show gA ≠ gA + 1 by omega)).trans (setRow_heap _ _ _ _ _ _ HP2.out)
  ·exact setRow_heap _ _ _ _ _ _ ((setRow_other _ _ _ _ (show gA + 1 ≠ gA by omega)).trans HF2.out)
  ·exact below_setRow (below_setRow (below_drew HB2.out) (by rw [HGA.out]; omega) _) (by rw [HGA.out]; omega) _
end Go.Proofs.YtdlahgamdigkhaaDoor.Pu
namespace Go.Proofs.YtdlahgamdigkhaaDoor.Pu
open Go.RowKit Go.Proofs.YtdlahgamdigkhaaDoor.Pr Go.Proofs.YtdlahgamdigkhaaDoorW.PrintWords Go.Proofs.YtdlahgamdigkhaaDoorW.PrintLast Go.Proofs.YtdlahgamdigkhaaDoorW.PrintMore Go.Proofs.YtdlahgamdigkhaaDoor.Lx
open Go.Proofs.YtdlahgamdigkhaaDoor.Ps hiding Tk
theorem rpolA (x : ByteArray) (w : World) : Calls Tryd.prog 14 #[.string x] w (PolQR w (polA x)) := by
 obtain ⟨k, hk⟩ := rtokens_ev x
 obtain ⟨T, hT⟩ : ∃ T, T = tokM x := ⟨_, rfl⟩
 have h := hk k (Nat.le_refl _)
 have ho := okTk_iff.1 (okTk_tokM x)
 have hz : T.2.1 = 0 → x.size ≤ 1000000 := fun h0 => by
  rw [hT] at h0
  rcases tokM_cases x with ⟨ts, h1, hs, hv, hl⟩ | ⟨j, h1, hj⟩ | ⟨h1, hl⟩
  ·omega
  ·rw [h1] at h0; exact absurd (show (8 : Int) = 0 from h0) (by decide)
  ·rw [h1] at h0; exact absurd (show (2 : Int) = 0 from h0) (by decide)
 rw [polA]
 rw [← hT] at h ho ⊢
 obtain ⟨T, c, a⟩ := T
 exact rpolicy_calls x k T c a w h ho.2 ho.1 hz
end Go.Proofs.YtdlahgamdigkhaaDoor.Pu
namespace Go.Proofs.YtdlahgamdigkhaaDoor.Sn
open Go.RowKit Go.Maps Go.Proofs.YtdlahgamdigkhaaDoor.Pr Go.Proofs.YtdlahgamdigkhaaDoorW.PrintWords Go.Proofs.YtdlahgamdigkhaaDoorW.PrintLast Go.Proofs.YtdlahgamdigkhaaDoorW.PrintMore Go.Proofs.YtdlahgamdigkhaaDoor.Mp Go.Proofs.YtdlahgamdigkhaaDoor.Lx
open Go.Proofs.YtdlahgamdigkhaaDoor.Ps hiding Tk lowB
open Go.Proofs.YtdlahgamdigkhaaDoor.Pu
structure PolAt (w : World) (A0 A1 A3 : Option Addr) (st : Pst) : Prop where
 c0 : Kd.string.C w A0 st.csp.length st.csp
 c1 : k47.C w A1 st.shares.length st.shares
 f3 : Kd.F k41 w (fun _ => True) A3 st.rules.length st.rules
theorem PolAt.below {w w' : World} {A0 A1 A3 : Option Addr} {st : Pst} (h : PolAt w A0 A1 A3 st) (hb : Below w.heap.size w w') : PolAt w' A0 A1 A3 st := ⟨Kd.C_below h.c0 hb, Kd.C_below h.c1 hb, Kd.F_below h.f3 hb⟩
def polS (A0 A1 A3 : Option Addr) (c0 c1 c3 : Nat) (st : Pst) : Value := polV A0 A1 A3 st.csp.length c0 st.shares.length c1 st.rules.length c3 st.mixed st.allow
def ReadQ (w : World) (s : ByteArray) (e : Ending) (w' : World) : Prop :=
 match polA s with
 | .ok st => ∃ A0 A1 A3 c0 c1 c3, e = .returned (.tuple #[polS A0 A1 A3 c0 c1 c3 st, .bool true]) ∧ PolAt w' A0 A1 A3 st ∧ Below w.heap.size w w'
 | .error _ => e = .returned (.tuple #[polV none none none 0 0 0 0 0 0 ⟨#[]⟩ false, .bool false]) ∧ Below w.heap.size w w'
theorem polA_le {x : ByteArray} {st : Pst} (h : polA x = .ok st) : x.size ≤ 3000 := by
 rw [polA, polT_eq] at h
 rcases tokM_cases x with ⟨ts, h1, hs, hv, hl⟩ | ⟨j, h1, hj⟩ | ⟨h1, hl⟩
 ·exact hl
 ·rw [h1] at h; rw [if_neg (by exact (by decide : ¬ (8 : Int) = 0))] at h; cases h
 ·rw [h1] at h; rw [if_neg (by exact (by decide : ¬ (2 : Int) = 0))] at h; cases h
theorem read_results (fn : Func) (h : fn.results = #[.cell 2 26, .tmp 3]) (tmps : Array Value) (w : World) (gp : Nat) (cs : Array Value) (b : Bool) (h2 : tmps.getD 2 undef = .pointer (some ⟨gp, 0, none⟩)) (h3 : tmps.getD 3 undef = .bool b)
  (hp : w.heap[gp]? = some (.cells cs 26 (0, 0))) (hc : cs.size = 5) : (results fn tmps).run Tryd.prog w = .ok (.tuple #[.agg cs, .bool b]) w := by
 have hv := results_list (P := Tryd.prog) (tmps := tmps) (w := w) (rs := [.cell 2 26, .tmp 3]) h (by simp) (.cell gp _ cs (0, 0) _ h2 hp Tryd.underlying26 rfl (by rw [hc]; exact size_pol) (.tmp .nil))
 rw [h3] at hv
 exact hv
set_option maxHeartbeats 16000000
set_option maxRecDepth 100000
theorem read_calls (s : ByteArray) (w : World) : Calls Tryd.prog 7 #[.string s] w (ReadQ w s) := by
 obtain ⟨wA, hwA⟩ : ∃ wA, wA = w.alloc (.cells #[.slice none 0 0, .slice none 0 0, .string ⟨#[]⟩, .slice none 0 0, .bool false] 26) := ⟨_, rfl⟩
 have HXA : Aside0 (wA.heap[w.heap.size]? = some (.cells #[.slice none 0 0, .slice none 0 0, .string ⟨#[]⟩, .slice none 0 0, .bool false] 26 (0, 0))) := ⟨by rw [hwA]; exact blk_new _ _⟩
 have HBA : Aside0 (Below w.heap.size w wA) := ⟨by rw [hwA]; exact below_alloc (Below.refl _ _) _⟩
 have HWA := Aside0.mk hwA
 have HSA : Aside0 (w.heap.size < wA.heap.size) := ⟨blk_lt HXA.out⟩
 have HP := Aside0.mk (rpolA s wA)
 clear hwA
 unfold ReadQ
 cases hp : polA s with
 | error f =>
  obtain ⟨fc, fa⟩ := f
  have hnz : fc ≠ 0 := polA_nz s _ hp
  rw [hp] at HP
  go_enter Tryd.func7, Tryd.ntmps7
  go_upto_region 1 with (fail)
  rw [← HWA.out]
  go_wp2_with fail
  refine HP.out.mono ?_
  rintro e w1 ⟨rfl, hb⟩
  unfold zeroPol polcells faultV
  dsimp only
  have hQ : True := trivial
  obtain ⟨w2, hw2⟩ : ∃ w2, w2 = (((w1.alloc (.cells #[.slice none 0 0, .slice none 0 0, .string ⟨#[]⟩, .slice none 0 0, .bool false] 26)).alloc (.cells #[.int .i64 0, .int .i64 0] 50)).setRow w1.heap.size #[.slice none 0 0, .slice none 0 0, .string ⟨#[]⟩, .slice none 0 0, .bool false]).setRow (w1.heap.size + 1) #[.int .i64 fc, .int .i64 fa] := ⟨_, rfl⟩
  have hb2 : Below w1.heap.size w1 w2 := by rw [hw2]; exact below_setRow (below_setRow (below_alloc (below_alloc (Below.refl _ _) _) _) (Nat.le_refl _) _) (Nat.le_succ _) _
  have hp0 : w2.heap[w1.heap.size]? = some (.cells #[.slice none 0 0, .slice none 0 0, .string ⟨#[]⟩, .slice none 0 0, .bool false] 26 (0, 0)) := by rw [hw2]; exact (setRow_other _ _ _ _ (by omega)).trans (setRow_heap _ _ _ _ _ _ (blk_alloc (blk_new w1 (.cells #[.slice none 0 0, .slice none 0 0, .string ⟨#[]⟩, .slice none 0 0, .bool false] 26)) _))
  have hp1 : w2.heap[w1.heap.size + 1]? = some (.cells #[.int .i64 fc, .int .i64 fa] 50 (0, 0)) := by rw [hw2]; exact setRow_heap _ _ _ _ _ _ ((setRow_other _ _ _ _ (by omega)).trans (blk_new2 w1 #[.slice none 0 0, .slice none 0 0, .string ⟨#[]⟩, .slice none 0 0, .bool false] #[.int .i64 0, .int .i64 0] 26 50))
  have HQ0 := Aside0.mk hp0
  have HXB : Aside0 (w2.heap[w.heap.size]? = some (.cells #[.slice none 0 0, .slice none 0 0, .string ⟨#[]⟩, .slice none 0 0, .bool false] 26 (0, 0))) := ⟨blk_below (blk_below HXA.out hb) hb2⟩
  have HB2 : Aside0 (Below wA.heap.size wA w2) := ⟨hb.trans (hb2.mono hb.size)⟩
  have HB3 : Aside0 (Below w.heap.size w w2) := ⟨HBA.out.trans (HB2.out.mono HBA.out.size)⟩
  have u0 : w2.cell? ⟨w1.heap.size + 1, 0, none⟩ = some (.int .i64 fc) := blk_cell hp1 0
  have HW2 := Aside0.mk hw2
  have HQQ : Aside0 _ := ⟨hQ⟩
  have l0 : (fc == (0 : Int)) = false := by simp [hnz]
  clear hw2 hp0 hp1 hb hb2 hQ HP
  go_upto_region 2 with (first | refine wpList_store_row rfl 26 _ _ rfl w1.heap.size #[.slice none 0 0, .slice none 0 0, .string ⟨#[]⟩, .slice none 0 0, .bool false] rfl rfl 26 #[.slice none 0 0, .slice none 0 0, .string ⟨#[]⟩, .slice none 0 0, .bool false] (blk_alloc (blk_new _ _) _) size_pol rfl (by simp [Value.oneCell']) ?_ | refine wpList_store_row rfl 50 _ _ rfl (w1.heap.size + 1) #[.int .i64 fc, .int .i64 fa] rfl rfl 50 #[.int .i64 0, .int .i64 0] ((setRow_other _ _ _ _ (by omega)).trans (blk_new2 _ _ _ _ _)) size_fault rfl (by simp [Value.oneCell']) ?_)
  rw [← HW2.out]
  go_wp2_with (first | refine wpList_load_row rfl 26 _ rfl w1.heap.size rfl 26 #[.slice none 0 0, .slice none 0 0, .string ⟨#[]⟩, .slice none 0 0, .bool false] (0, 0) _ HQ0.out Tryd.underlying26 rfl size_pol ?_ | refine wpList_store_row rfl 26 _ _ rfl w.heap.size #[.slice none 0 0, .slice none 0 0, .string ⟨#[]⟩, .slice none 0 0, .bool false] rfl rfl 26 #[.slice none 0 0, .slice none 0 0, .string ⟨#[]⟩, .slice none 0 0, .bool false] HXB.out size_pol rfl (by simp [Value.oneCell']) ?_)
  exact bodyPost_ret (read_results _ rfl _ _ w.heap.size #[.slice none 0 0, .slice none 0 0, .string ⟨#[]⟩, .slice none 0 0, .bool false] false rfl rfl (setRow_heap _ _ _ _ _ _ HXB.out) rfl) rfl ⟨rfl, below_setRow HB3.out (Nat.le_refl _) _⟩
 | ok st =>
  rw [hp] at HP
  go_enter Tryd.func7, Tryd.ntmps7
  go_upto_region 1 with (fail)
  rw [← HWA.out]
  go_wp2_with fail
  refine HP.out.mono ?_
  rintro e w1 ⟨v0, v1, v3, rfl, hR0, hR1, hV3, hb⟩
  unfold polcells faultV
  dsimp only
  obtain ⟨A0, c0, e0⟩ := Kd.R_slice hR0
  obtain ⟨A1, c1, e1⟩ := Kd.R_slice hR1
  obtain ⟨A3, c3, e3⟩ := Kd.V_slice hV3
  rw [e0] at hR0
  rw [e1] at hR1
  rw [e3] at hV3
  have hQ : ∀ w', (∀ k, wA.heap.size ≤ k → k < w1.heap.size → w'.heap[k]? = w1.heap[k]?) → PolAt w' A0 A1 A3 st := fun w' h => ⟨(Kd.R_reads' (Kd.R_step hR0 (fun k ho hl => h k ho hl))).2.2, (Kd.R_reads' (Kd.R_step hR1 (fun k ho hl => h k ho.1 hl))).2.2, Kd.F_mono (Kd.V_F (Kd.V_step hV3 (fun k ho hl => h k ho.1 hl))) (fun _ _ => trivial)⟩
  obtain ⟨n0, hn0⟩ : ∃ n, n = st.csp.length := ⟨_, rfl⟩
  obtain ⟨n1, hn1⟩ : ∃ n, n = st.shares.length := ⟨_, rfl⟩
  obtain ⟨n3, hn3⟩ : ∃ n, n = st.rules.length := ⟨_, rfl⟩
  rw [← hn0] at e0
  rw [← hn1] at e1
  rw [← hn3] at e3
  have HPS : Aside0 (polS A0 A1 A3 c0 c1 c3 st = .agg #[.slice A0 n0 c0, .slice A1 n1 c1, .string st.mixed, .slice A3 n3 c3, .bool st.allow]) := ⟨by rw [hn0, hn1, hn3]; rfl⟩
  subst e0 e1 e3
  clear hR0 hR1 hV3 hn0 hn1 hn3
  obtain ⟨w2, hw2⟩ : ∃ w2, w2 = (((w1.alloc (.cells #[.slice none 0 0, .slice none 0 0, .string ⟨#[]⟩, .slice none 0 0, .bool false] 26)).alloc (.cells #[.int .i64 0, .int .i64 0] 50)).setRow w1.heap.size #[.slice A0 n0 c0, .slice A1 n1 c1, .string st.mixed, .slice A3 n3 c3, .bool st.allow]).setRow (w1.heap.size + 1) #[.int .i64 0, .int .i64 0] := ⟨_, rfl⟩
  have hb2 : Below w1.heap.size w1 w2 := by rw [hw2]; exact below_setRow (below_setRow (below_alloc (below_alloc (Below.refl _ _) _) _) (Nat.le_refl _) _) (Nat.le_succ _) _
  have hp0 : w2.heap[w1.heap.size]? = some (.cells #[.slice A0 n0 c0, .slice A1 n1 c1, .string st.mixed, .slice A3 n3 c3, .bool st.allow] 26 (0, 0)) := by rw [hw2]; exact (setRow_other _ _ _ _ (by omega)).trans (setRow_heap _ _ _ _ _ _ (blk_alloc (blk_new w1 (.cells #[.slice none 0 0, .slice none 0 0, .string ⟨#[]⟩, .slice none 0 0, .bool false] 26)) _))
  have hp1 : w2.heap[w1.heap.size + 1]? = some (.cells #[.int .i64 0, .int .i64 0] 50 (0, 0)) := by rw [hw2]; exact setRow_heap _ _ _ _ _ _ ((setRow_other _ _ _ _ (by omega)).trans (blk_new2 w1 #[.slice none 0 0, .slice none 0 0, .string ⟨#[]⟩, .slice none 0 0, .bool false] #[.int .i64 0, .int .i64 0] 26 50))
  have HQ0 := Aside0.mk hp0
  have HXB : Aside0 (w2.heap[w.heap.size]? = some (.cells #[.slice none 0 0, .slice none 0 0, .string ⟨#[]⟩, .slice none 0 0, .bool false] 26 (0, 0))) := ⟨blk_below (blk_below HXA.out hb) hb2⟩
  have HB2 : Aside0 (Below wA.heap.size wA w2) := ⟨hb.trans (hb2.mono hb.size)⟩
  have HB3 : Aside0 (Below w.heap.size w w2) := ⟨HBA.out.trans (HB2.out.mono HBA.out.size)⟩
  have u0 : w2.cell? ⟨w1.heap.size + 1, 0, none⟩ = some (.int .i64 0) := blk_cell hp1 0
  have HW2 := Aside0.mk hw2
  have HQQ : Aside0 (∀ w', (∀ k, wA.heap.size ≤ k → k < w2.heap.size → w'.heap[k]? = w2.heap[k]?) → PolAt w' A0 A1 A3 st) := ⟨fun w' h => hQ w' (fun k h1 h2 => (h k h1 (Nat.lt_of_lt_of_le h2 hb2.size)).trans (hb2.block k h2))⟩
  have hsz := polA_le hp
  have l1 : decide ((s.size : Int) ≤ 3000) = true := decide_eq_true (by omega)
  have l2 : (s.size : Int) ≤ 3000 := by omega
  clear hw2 hp0 hp1 hb hb2 hQ HP
  go_upto_region 2 with (first | refine wpList_store_row rfl 26 _ _ rfl w1.heap.size #[.slice A0 n0 c0, .slice A1 n1 c1, .string st.mixed, .slice A3 n3 c3, .bool st.allow] rfl rfl 26 #[.slice none 0 0, .slice none 0 0, .string ⟨#[]⟩, .slice none 0 0, .bool false] (blk_alloc (blk_new _ _) _) size_pol rfl (by simp [Value.oneCell']) ?_ | refine wpList_store_row rfl 50 _ _ rfl (w1.heap.size + 1) #[.int .i64 0, .int .i64 0] rfl rfl 50 #[.int .i64 0, .int .i64 0] ((setRow_other _ _ _ _ (by omega)).trans (blk_new2 _ _ _ _ _)) size_fault rfl (by simp [Value.oneCell']) ?_)
  rw [← HW2.out]
  go_wp2_with (first | refine wpList_load_row rfl 26 _ rfl w1.heap.size rfl 26 #[.slice A0 n0 c0, .slice A1 n1 c1, .string st.mixed, .slice A3 n3 c3, .bool st.allow] (0, 0) _ HQ0.out Tryd.underlying26 rfl size_pol ?_ | refine wpList_store_row rfl 26 _ _ rfl w.heap.size #[.slice A0 n0 c0, .slice A1 n1 c1, .string st.mixed, .slice A3 n3 c3, .bool st.allow] rfl rfl 26 #[.slice none 0 0, .slice none 0 0, .string ⟨#[]⟩, .slice none 0 0, .bool false] HXB.out size_pol rfl (by simp [Value.oneCell']) ?_)
  refine bodyPost_ret (read_results _ rfl _ _ w.heap.size #[.slice A0 n0 c0, .slice A1 n1 c1, .string st.mixed, .slice A3 n3 c3, .bool st.allow] true rfl rfl (setRow_heap _ _ _ _ _ _ HXB.out) rfl) rfl ⟨A0, A1, A3, c0, c1, c3, by rw [HPS.out], ?_, below_setRow HB3.out (Nat.le_refl _) _⟩
  exact HQQ.out _ (fun k h1 _ => setRow_other _ _ _ _ (by have := HSA.out; omega))
end Go.Proofs.YtdlahgamdigkhaaDoor.Sn
namespace Go.Proofs.YtdlahgamdigkhaaDoor.Sn
open Go.RowKit Go.Proofs.YtdlahgamdigkhaaDoor.Pr Go.Proofs.YtdlahgamdigkhaaDoorW.PrintWords Go.Proofs.YtdlahgamdigkhaaDoor.Lx
open Go.Proofs.YtdlahgamdigkhaaDoor.Ps hiding Tk lowB
open Go.Proofs.YtdlahgamdigkhaaDoor.Pu
abbrev Tk := S69
section
variable {T : List Tk} {e : Int}
def DeepB (D : Nat) (f : Nat → Res Cd) : Prop := ∀ p c q, f p = .ok (c, q) → dpC c ≤ D
theorem kidsL_deep {D : Nat} {one : Nat → Res Cd} (h : DeepB D one) {w : ByteArray} : ∀ (f : Nat) (acc : List Cd) (p : Nat) (l : List Cd) (q : Nat), (∀ c ∈ acc, dpC c ≤ D) → kidsL T e one w f acc p = .ok (l, q) → ∀ c ∈ l, dpC c ≤ D
 | 0, acc, p, l, q, ha, hr => by cases hr; exact ha
 | f + 1, acc, p, l, q, ha, hr => by
  rw [kidsL] at hr
  split at hr
  ·cases h1 : one (p + 1) with
   | error x => rw [h1] at hr; cases hr
   | ok x =>
    obtain ⟨c, q1⟩ := x
    rw [h1] at hr
    refine kidsL_deep h f _ _ _ _ (fun d hd => ?_) hr
    rcases List.mem_append.1 hd with hd | hd
    ·exact ha d hd
    ·rw [List.mem_singleton.1 hd]; exact h _ _ _ h1
  ·cases hr; exact ha
theorem kidsP_deep {D : Nat} {one : Nat → Res Cd} (h : DeepB D one) {w : ByteArray} {kind : Int} : DeepB (D + 1) (kidsP T e kind w one) := by
 intro p c q hr
 rw [kidsP] at hr
 cases h1 : one p with
 | error x => rw [h1] at hr; cases hr
 | ok x =>
  obtain ⟨c1, q1⟩ := x
  rw [h1] at hr
  simp only at hr
  cases hl : kidsL T e one w (T.length + 1 - q1) [c1] q1 with
  | error x => rw [hl] at hr; cases hr
  | ok y =>
   obtain ⟨l, q2⟩ := y
   rw [hl] at hr
   have hs := kidsL_deep h _ _ _ _ _ (fun d hd => by rw [List.mem_singleton.1 hd]; exact h _ _ _ h1) hl
   simp only at hr
   split at hr
   ·rename_i h1l
    have h3 := Except.ok.inj hr; simp only [Prod.mk.injEq] at h3
    obtain ⟨x, rfl⟩ : ∃ x, l = [x] := List.length_eq_one_iff.1 h1l
    rw [← h3.1]
    exact Nat.le_succ_of_le (hs x (List.mem_cons_self ..))
   ·have h3 := Except.ok.inj hr; simp only [Prod.mk.injEq] at h3
    rw [← h3.1, cond0, dpC]
    have := dpL_le hs
    omega
theorem atomP_deep : DeepB 1 (atomP T e) := by
 intro p c q h
 rw [atomP] at h
 cases h1 : wordP T e atomWords p with
 | error x => rw [h1] at h; cases h
 | ok x =>
  obtain ⟨w, q1⟩ := x
  rw [h1] at h
  simp only at h
  unfold atomK at h
  have hA : ∀ {f : ByteArray → ByteArray} {r : Res ByteArray}, atomT w f r = .ok (c, q) → dpC c ≤ 1 := by
   intro f r hr
   cases r with
   | error x => cases hr
   | ok x => obtain ⟨t, q3⟩ := x; simp only [atomT] at hr; have h3 := Except.ok.inj hr; simp only [Prod.mk.injEq] at h3; rw [← h3.1, dpC, dpL]; exact Nat.le_refl 1
  split at h
  ·have h3 := Except.ok.inj h; simp only [Prod.mk.injEq] at h3; rw [← h3.1, cond0, dpC, dpL]; exact Nat.le_refl 1
  split at h
  ·have h3 := Except.ok.inj h; simp only [Prod.mk.injEq] at h3; rw [← h3.1, cond0, dpC, dpL]; exact Nat.le_refl 1
  split at h
  ·exact hA h
  split at h
  ·exact hA h
  split at h
  ·exact hA h
  have h3 := Except.ok.inj h; simp only [Prod.mk.injEq] at h3; rw [← h3.1, dpC, dpL]; exact Nat.le_refl 1
theorem closeK_one {c d : Cd} {r : Res ByteArray} {q : Nat} (h : closeK c r = .ok (d, q)) : d = c := by
 cases r with
 | error x => cases h
 | ok x => obtain ⟨t, q2⟩ := x; simp only [closeK] at h; have h3 := Except.ok.inj h; simp only [Prod.mk.injEq] at h3; exact h3.1.symm
theorem notN_deep : ∀ n, DeepB (2 * n + 1) (notN T e n)
 | 0 => by
  intro p c q h
  rw [notN] at h
  split at h
  ·cases h
  ·split at h
   ·cases h
   ·exact atomP_deep _ _ _ h
 | n + 1 => by
  intro p c q h
  rw [notN] at h
  split at h
  ·obtain ⟨c1, q1, h1, h2⟩ := wrapNot_ok h
   cases h2
   have := notN_deep n _ _ _ h1
   rw [cond0, dpC, dpL, dpL]; omega
  ·split at h
   ·obtain ⟨c1, q1, h1, h2⟩ := closeP_ok h
    rw [closeK_one h2]
    have := kidsP_deep (kidsP_deep (notN_deep n)) _ _ _ h1
    omega
   ·have := atomP_deep _ _ _ h; omega
theorem condP_deep : DeepB 63 (condP T e) := kidsP_deep (kidsP_deep (notN_deep 30))
end
theorem shape_tree {c : Cd} (h : Shape c) : treeB c = true := by
 induction h with
 | true_ => rw [treeB_eq]; rfl
 | false_ => rw [treeB_eq]; rfl
 | bare w hw =>
  rw [treeB_eq]
  have : atomB ⟨w, ⟨#[]⟩⟩ = true := by
   simp only [List.mem_cons, List.not_mem_nil, or_false] at hw
   rcases hw with rfl | rfl | rfl | rfl <;> decide +kernel
  simp [this]
 | wordA w t hw ht hlow =>
  rw [treeB_eq]
  have : ∀ t, atomB ⟨w, t⟩ = true := fun t => by
   simp only [List.mem_cons, List.not_mem_nil, or_false] at hw
   rcases hw with rfl | rfl | rfl | rfl <;> rfl
  simp [this]
 | strA w t hw ht =>
  rw [treeB_eq]
  have : ∀ t, atomB ⟨w, t⟩ = true := fun t => by
   simp only [List.mem_cons, List.not_mem_nil, or_false] at hw
   rcases hw with rfl | rfl <;> rfl
  simp [this]
 | not_ c h ih =>
  rw [treeB_eq]
  have : everyB [c] = true := by rw [everyB_all]; simp [ih]
  simp [cond0, noAtom, this]
 | many k hk l hl h ih =>
  rw [treeB_eq]
  have : everyB l = true := by rw [everyB_all]; exact List.all_eq_true.2 ih
  rcases hk with rfl | rfl <;> simp [cond0, noAtom, this, hl]
theorem atomsL_all {P : At → Prop} : ∀ l : List Cd, (∀ c ∈ l, ∀ a ∈ atomsC c, P a) → ∀ a ∈ atomsL l, P a
 | [], _ => fun a ha => by rw [atomsL] at ha; cases ha
 | c :: l, h => fun a ha => by
  rw [atomsL, List.mem_append] at ha
  rcases ha with ha | ha
  ·exact h c (List.mem_cons_self ..) a ha
  ·exact atomsL_all l (fun d hd => h d (List.mem_cons_of_mem _ hd)) a ha
def TxA (a : At) : Prop := a.f0.size ≤ 100 ∧ a.f1.size ≤ 3000
theorem shape_atoms {c : Cd} (h : Shape c) : ∀ a ∈ atomsC c, TxA a := by
 induction h with
 | true_ => rw [atomsC_eq]; intro a ha; simp [cond0, atomsL] at ha
 | false_ => rw [atomsC_eq]; intro a ha; simp [cond0, atomsL] at ha
 | bare w hw =>
  rw [atomsC_eq]; intro a ha
  simp only [if_true, atomsL, List.append_nil, List.mem_singleton] at ha
  rw [ha]
  simp only [List.mem_cons, List.not_mem_nil, or_false] at hw
  rcases hw with rfl | rfl | rfl | rfl <;> exact ⟨by decide, by decide⟩
 | wordA w t hw ht hlow =>
  rw [atomsC_eq]; intro a ha
  simp only [if_true, atomsL, List.append_nil, List.mem_singleton] at ha
  rw [ha]
  refine ⟨?_, ht.2⟩
  simp only [List.mem_cons, List.not_mem_nil, or_false] at hw
  rcases hw with rfl | rfl | rfl | rfl <;> exact Nat.le_of_ble_eq_true rfl
 | strA w t hw ht =>
  rw [atomsC_eq]; intro a ha
  simp only [if_true, atomsL, List.append_nil, List.mem_singleton] at ha
  rw [ha]
  refine ⟨?_, ht.2.2⟩
  simp only [List.mem_cons, List.not_mem_nil, or_false] at hw
  rcases hw with rfl | rfl <;> exact Nat.le_of_ble_eq_true rfl
 | not_ c h ih =>
  rw [atomsC_eq]; intro a ha
  simp only [cond0, List.mem_append] at ha
  rcases ha with ha | ha
  ·simp at ha
  ·rw [atoms_one] at ha; exact ih a ha
 | many k hk l hl h ih =>
  rw [atomsC_eq]; intro a ha
  simp only [cond0, List.mem_append] at ha
  rcases ha with ha | ha
  ·rcases hk with rfl | rfl <;> simp at ha
  ·exact atomsL_all l ih a ha
structure PolOk (st : Pst) : Prop where
 l0 : st.csp.length ≤ 900000
 l1 : st.shares.length ≤ 900000
 hz : sizeL (condsR st.rules) ≤ 900000
 hs : SzA (atomsL (condsR st.rules))
 hcs : ∀ s ∈ st.csp, s.size ≤ 1000000
 hsh : ∀ s ∈ st.shares, s.f0.size ≤ 1000000 ∧ s.f1.length ≤ 1000000 ∧ s.f2.length ≤ 1000000 ∧ (∀ x ∈ s.f1, x.size ≤ 1000000) ∧ ∀ x ∈ s.f2, x.size ≤ 1000000
theorem sizes_le {n : Nat} : ∀ l : List Cd, (∀ c ∈ l, sizeC c ≤ n) → sizeL l ≤ n * l.length
 | [], _ => by rw [sizeL]; exact Nat.zero_le _
 | c :: l, h => by
  rw [sizeL, List.length_cons, Nat.mul_succ]
  have h1 := h c (List.mem_cons_self ..)
  have h2 := sizes_le l (fun d hd => h d (List.mem_cons_of_mem _ hd))
  omega
theorem read_pol {x : ByteArray} {st : Pst} (h : polA x = .ok st) : PolOk st := by
 have hr := (read_ok h).a
 have hn := hr.n
 have hi := hr.i
 have hc : ∀ c ∈ condsR st.rules, Shape c ∧ sizeC c ≤ 3000 := fun c hc => by
  rw [condsR, List.mem_map] at hc
  obtain ⟨r, hr2, rfl⟩ := hc
  exact hr.r r hr2
 refine ⟨by omega, by omega, ?_, fun a ha => ?_, fun s hs => ?_, fun s hs => ?_⟩
 ·have h1 := sizes_le (condsR st.rules) (fun c h2 => (hc c h2).2)
  rw [condsR, List.length_map] at h1
  rw [condsR]
  have : 3000 * st.rules.length ≤ 3000 * 60 := Nat.mul_le_mul_left _ (by omega)
  omega
 ·have := atomsL_all (P := TxA) _ (fun c h2 => shape_atoms (hc c h2).1) a ha
  exact ⟨by have := this.1; omega, by have := this.2; omega⟩
 ·have := (hr.c s hs).2.2; omega
 ·obtain ⟨ho, h1, h2⟩ := hr.s s hs
  exact ⟨by have := ho.o.2.2; omega, by omega, by omega, fun x hx => by have := (ho.m x hx).2; omega, fun x hx => by have := (ho.h x hx).2; omega⟩
theorem read_deep {x : ByteArray} {st : Pst} (h : polA x = .ok st) : ∀ r ∈ st.rules, dpC r.f1 ≤ 63 := by
 rw [polA, polT_eq] at h
 rcases tokM_cases x with ⟨ts, h1, hs, hv, hl⟩ | ⟨j, h1, hj⟩ | ⟨h1, hl⟩
 ·rw [h1, if_pos rfl] at h
  have := polP_all (A := fun _ => True) (S := fun _ => True) (C := fun c => dpC c ≤ 63) (fun _ _ _ _ => trivial) (fun _ _ _ _ => trivial) (fun p c q hc => condP_deep _ _ _ hc) h
  exact this.r
 ·rw [h1] at h; rw [if_neg (by exact (by decide : ¬ (8 : Int) = 0))] at h; cases h
 ·rw [h1] at h; rw [if_neg (by exact (by decide : ¬ (2 : Int) = 0))] at h; cases h
theorem read_cond {x : ByteArray} {st : Pst} (h : polA x = .ok st) : ∀ r ∈ st.rules, condB r.f1 = true := fun r hr => by
 have h1 := (read_ok h).a.r r hr
 have h2 := read_deep h r hr
 rw [condB, shape_tree h1.1, Bool.true_and]
 exact decide_eq_true (by omega)
end Go.Proofs.YtdlahgamdigkhaaDoor.Sn
namespace Go.Proofs.YtdlahgamdigkhaaDoor.Sn
open Go.RowKit Go.Proofs.YtdlahgamdigkhaaDoor.Pr Go.Proofs.YtdlahgamdigkhaaDoorW.PrintWords Go.Proofs.YtdlahgamdigkhaaDoorW.PrintLast Go.Proofs.YtdlahgamdigkhaaDoorW.PrintMore Go.Proofs.YtdlahgamdigkhaaDoor.Lx
open Go.Proofs.YtdlahgamdigkhaaDoor.Ps hiding Tk lowB
open Go.Proofs.YtdlahgamdigkhaaDoor.Pu
def chkS (f : Sh → Bool) (st : Pst) : Int := chkI f st.csp st.shares st.mixed st.rules
theorem check_pol (f : Sh → Bool) (st : Pst) (ho : PolOk st) (hf : ∀ s ∈ st.shares, s.f0 ≠ wStar → OrgB s.f0 (f s)) (A0 A1 A3 : Option Addr) (c0 c1 c3 : Nat) (w : World) (hP : PolAt w A0 A1 A3 st) (hL : Laid w) :
  Calls Tryd.prog 13 #[polS A0 A1 A3 c0 c1 c3 st] w fun e w' => e = .returned (.int .i64 (chkS f st)) ∧ Below w.heap.size w w' :=
 check_calls f A0 A1 A3 _ c0 _ c1 _ c3 st.mixed st.allow st.csp st.shares st.rules w hL hP.c0 hP.c1 hP.f3 rfl rfl rfl ho.l0 ho.l1 ho.hz ho.hs ho.hcs ho.hsh hf
theorem atoms_pol (st : Pst) (ho : PolOk st) (A0 A1 A3 : Option Addr) (c0 c1 c3 : Nat) (w : World) (hP : PolAt w A0 A1 A3 st) :
  Calls Tryd.prog 9 #[polS A0 A1 A3 c0 c1 c3 st] w fun e w' => ∃ v, e = .returned v ∧ k33.R 33 w' w.heap.size (fun _ => True) v (atomsP st.rules) ∧ Below w.heap.size w w' :=
 atoms_calls A0 A1 A3 _ c0 _ c1 _ c3 st.mixed st.allow st.rules w hP.f3 rfl ho.hz ho.hs
theorem ratoms_pol (st : Pst) (ho : PolOk st) (A0 A1 A3 : Option Addr) (c0 c1 c3 : Nat) (w : World) (hP : PolAt w A0 A1 A3 st) :
  Calls Tryd.prog 11 #[polS A0 A1 A3 c0 c1 c3 st] w fun e w' => ∃ v, e = .returned v ∧ k33.R 33 w' w.heap.size (fun _ => True) v ((refL (condsR st.rules)).foldl addA []) ∧ Below w.heap.size w w' :=
 ratoms_calls A0 A1 A3 _ c0 _ c1 _ c3 st.mixed st.allow st.rules w hP.f3 rfl ho.hz
def tx1 : ByteArray := ⟨#[115, 104, 97, 114, 101, 32, 34, 104, 116, 116, 112, 115, 58, 47, 47, 97, 47, 34, 59, 32, 97, 108, 108, 111, 119, 32, 105, 102, 32, 99, 111, 114, 115, 32, 97, 110, 100, 32, 110, 111, 116, 32, 99, 111, 114, 115, 59]⟩
def tx2 : ByteArray := ⟨#[115, 104, 97, 114, 101, 32, 34, 104, 116, 116, 112, 115, 58, 47, 47, 97, 34, 32, 99, 114, 101, 100, 115, 59, 32, 97, 108, 108, 111, 119, 32, 105, 102, 32, 99, 111, 114, 115, 32, 97, 110, 100, 32, 110, 111, 116, 32, 99, 114, 101, 100, 115, 59]⟩
def org1 : ByteArray := ⟨#[104, 116, 116, 112, 115, 58, 47, 47, 97, 47]⟩
def org2 : ByteArray := ⟨#[104, 116, 116, 112, 115, 58, 47, 47, 97]⟩
def cdA (w : ByteArray) : Cd := ⟨3, ⟨w, ⟨#[]⟩⟩, []⟩
def st1 : Pst := ⟨[], [⟨org1, [], [], false⟩], wBlock, [⟨true, cond0 5 [cdA wCors, cond0 4 [cdA wCors]]⟩], false, 2, 0, 0⟩
def st2 : Pst := ⟨[], [⟨org2, [], [], true⟩], wBlock, [⟨true, cond0 5 [cdA wCors, cond0 4 [cdA wCreds]]⟩], false, 2, 0, 0⟩
theorem polA_1 : polA tx1 = .ok st1 := by kernel_rfl
theorem polA_2 : polA tx2 = .ok st2 := by kernel_rfl
theorem org_1 : OrgB org1 false := ⟨60, ⟨#[]⟩, ⟨#[]⟩, 0, 8, by kernel_rfl, rfl⟩
theorem org_2 : OrgB org2 true := ⟨60, ⟨#[104, 116, 116, 112, 115]⟩, ⟨#[97]⟩, 443, 0, by kernel_rfl, by decide +kernel⟩
theorem chk_1 : chkS (fun _ => false) st1 = 1 := by decide +kernel
theorem chk_2 : chkS (fun _ => true) st2 = 0 := by decide +kernel
theorem len_2 : (atomsP st2.rules).length = 2 := by decide +kernel
theorem chk_awake1 (A0 A1 A3 : Option Addr) (c0 c1 c3 : Nat) (w : World) (hP : PolAt w A0 A1 A3 st1) (hL : Laid w) : Calls Tryd.prog 13 #[.agg #[.slice A0 0 c0, .slice A1 1 c1, .string wBlock, .slice A3 1 c3, .bool false]] w fun e w' => e = .returned (.int .i64 1) ∧ Below w.heap.size w w' := by
 have h := check_pol (fun _ => false) st1 (read_pol polA_1) (fun s hs _ => by rw [st1] at hs; simp only [List.mem_singleton] at hs; rw [hs]; exact org_1) A0 A1 A3 c0 c1 c3 w hP hL
 rw [chk_1] at h
 exact h
theorem chk_awake2 (A0 A1 A3 : Option Addr) (c0 c1 c3 : Nat) (w : World) (hP : PolAt w A0 A1 A3 st2) (hL : Laid w) : Calls Tryd.prog 13 #[.agg #[.slice A0 0 c0, .slice A1 1 c1, .string wBlock, .slice A3 1 c3, .bool false]] w fun e w' => e = .returned (.int .i64 0) ∧ Below w.heap.size w w' := by
 have h := check_pol (fun _ => true) st2 (read_pol polA_2) (fun s hs _ => by rw [st2] at hs; simp only [List.mem_singleton] at hs; rw [hs]; exact org_2) A0 A1 A3 c0 c1 c3 w hP hL
 rw [chk_2] at h
 exact h
theorem atoms_awake (A0 A1 A3 : Option Addr) (c0 c1 c3 : Nat) (w : World) (hP : PolAt w A0 A1 A3 st2) : Calls Tryd.prog 9 #[.agg #[.slice A0 0 c0, .slice A1 1 c1, .string wBlock, .slice A3 1 c3, .bool false]] w fun e w' => ∃ A c, e = .returned (.slice A 2 c) ∧ Below w.heap.size w w' := by
 refine (atoms_pol st2 (read_pol polA_2) A0 A1 A3 c0 c1 c3 w hP).mono ?_
 rintro e w' ⟨v, rfl, hR, hb⟩
 obtain ⟨A, c, rfl⟩ := Kd.R_slice hR
 rw [len_2]
 exact ⟨A, c, rfl, hb⟩
set_option maxHeartbeats 16000000
set_option maxRecDepth 100000
theorem awake_calls (w : World) (hL : Laid w) : Calls Tryd.prog 8 #[] w fun e w' => e = .returned (.bool true) ∧ Below w.heap.size w w' := by
 have h1 := read_calls tx1 w
 unfold ReadQ at h1
 rw [polA_1] at h1
 have H1 := Aside0.mk h1
 have HLD := Aside0.mk hL
 clear h1 hL
 go_enter Tryd.func8, Tryd.ntmps8
 go_wp2_with fail
 refine H1.out.mono ?_
 rintro e w1 ⟨A0, A1, A3, c0, c1, c3, rfl, hP1, hb1⟩
 have e1 : polS A0 A1 A3 c0 c1 c3 st1 = .agg #[.slice A0 0 c0, .slice A1 1 c1, .string wBlock, .slice A3 1 c3, .bool false] := rfl
 rw [e1]
 dsimp only
 obtain ⟨wB, hwB⟩ : ∃ wB, wB = (w1.alloc (.cells #[.slice none 0 0, .slice none 0 0, .string ⟨#[]⟩, .slice none 0 0, .bool false] 26)).setRow w1.heap.size #[.slice A0 0 c0, .slice A1 1 c1, .string wBlock, .slice A3 1 c3, .bool false] := ⟨_, rfl⟩
 have hbB : Below w1.heap.size w1 wB := by rw [hwB]; exact below_setRow (below_alloc (Below.refl _ _) _) (Nat.le_refl _) _
 have HXB : Aside0 (wB.heap[w1.heap.size]? = some (.cells #[.slice A0 0 c0, .slice A1 1 c1, .string wBlock, .slice A3 1 c3, .bool false] 26 (0, 0))) := ⟨by rw [hwB]; exact setRow_heap _ _ _ _ _ _ (blk_new w1 (.cells #[.slice none 0 0, .slice none 0 0, .string ⟨#[]⟩, .slice none 0 0, .bool false] 26))⟩
 have HPB := Aside0.mk (hP1.below hbB)
 have HBB : Aside0 (Below w.heap.size w wB) := ⟨hb1.trans (hbB.mono hb1.size)⟩
 have HWB := Aside0.mk hwB
 have h2 := read_calls tx2 wB
 unfold ReadQ at h2
 rw [polA_2] at h2
 have H2 := Aside0.mk h2
 clear hP1 hb1 e1 hwB hbB h2 H1
 go_upto_region 2 with (refine wpList_store_row rfl 26 _ _ rfl w1.heap.size #[.slice A0 0 c0, .slice A1 1 c1, .string wBlock, .slice A3 1 c3, .bool false] rfl rfl 26 #[.slice none 0 0, .slice none 0 0, .string ⟨#[]⟩, .slice none 0 0, .bool false] (blk_new _ _) size_pol rfl (by simp [Value.oneCell']) ?_)
 rw [← HWB.out]
 go_wp2_with fail
 refine H2.out.mono ?_
 rintro e w2 ⟨B0, B1, B3, d0, d1, d3, rfl, hP2, hb2⟩
 have e2 : polS B0 B1 B3 d0 d1 d3 st2 = .agg #[.slice B0 0 d0, .slice B1 1 d1, .string wBlock, .slice B3 1 d3, .bool false] := rfl
 rw [e2]
 dsimp only
 obtain ⟨wC, hwC⟩ : ∃ wC, wC = (w2.alloc (.cells #[.slice none 0 0, .slice none 0 0, .string ⟨#[]⟩, .slice none 0 0, .bool false] 26)).setRow w2.heap.size #[.slice B0 0 d0, .slice B1 1 d1, .string wBlock, .slice B3 1 d3, .bool false] := ⟨_, rfl⟩
 have hbC : Below w2.heap.size w2 wC := by rw [hwC]; exact below_setRow (below_alloc (Below.refl _ _) _) (Nat.le_refl _) _
 have HXC : Aside0 (wC.heap[w2.heap.size]? = some (.cells #[.slice B0 0 d0, .slice B1 1 d1, .string wBlock, .slice B3 1 d3, .bool false] 26 (0, 0))) := ⟨by rw [hwC]; exact setRow_heap _ _ _ _ _ _ (blk_new w2 (.cells #[.slice none 0 0, .slice none 0 0, .string ⟨#[]⟩, .slice none 0 0, .bool false] 26))⟩
 have HPC := Aside0.mk (hP2.below hbC)
 have hb3 : Below wB.heap.size wB wC := hb2.trans (hbC.mono hb2.size)
 have HP1 := Aside0.mk (HPB.out.below hb3)
 have HX1 : Aside0 (wC.heap[w1.heap.size]? = some (.cells #[.slice A0 0 c0, .slice A1 1 c1, .string wBlock, .slice A3 1 c3, .bool false] 26 (0, 0))) := ⟨blk_below HXB.out hb3⟩
 have HBC : Aside0 (Below w.heap.size w wC) := ⟨HBB.out.trans (hb3.mono HBB.out.size)⟩
 have HWC := Aside0.mk hwC
 clear hP2 hb2 e2 hwC hbC hb3 H2 HPB HXB HBB HWB
 go_upto_region 3 with (refine wpList_store_row rfl 26 _ _ rfl w2.heap.size #[.slice B0 0 d0, .slice B1 1 d1, .string wBlock, .slice B3 1 d3, .bool false] rfl rfl 26 #[.slice none 0 0, .slice none 0 0, .string ⟨#[]⟩, .slice none 0 0, .bool false] (blk_new _ _) size_pol rfl (by simp [Value.oneCell']) ?_)
 rw [← HWC.out]
 have x0 : wC.cell? ⟨w1.heap.size, 0, none⟩ = some (.slice A0 0 c0) := blk_cell HX1.out 0
 have x1 : wC.cell? ⟨w1.heap.size, 1, none⟩ = some (.slice A1 1 c1) := blk_cell HX1.out 1
 have x2 : wC.cell? ⟨w1.heap.size, 2, none⟩ = some (.string wBlock) := blk_cell HX1.out 2
 have x3 : wC.cell? ⟨w1.heap.size, 3, none⟩ = some (.slice A3 1 c3) := blk_cell HX1.out 3
 have x4 : wC.cell? ⟨w1.heap.size, 4, none⟩ = some (.bool false) := blk_cell HX1.out 4
 go_wp2_with fail
 refine (chk_awake1 A0 A1 A3 c0 c1 c3 wC HP1.out (HLD.out.below HBC.out)).mono ?_
 rintro e w4 ⟨rfl, hb4⟩
 dsimp only
 have HB4 : Aside0 (Below w.heap.size w w4) := ⟨HBC.out.trans (hb4.mono HBC.out.size)⟩
 have HX4 : Aside0 (w4.heap[w2.heap.size]? = some (.cells #[.slice B0 0 d0, .slice B1 1 d1, .string wBlock, .slice B3 1 d3, .bool false] 26 (0, 0))) := ⟨blk_below HXC.out hb4⟩
 have HP4 := Aside0.mk (HPC.out.below hb4)
 have y0 : w4.cell? ⟨w2.heap.size, 0, none⟩ = some (.slice B0 0 d0) := blk_cell HX4.out 0
 have y1 : w4.cell? ⟨w2.heap.size, 1, none⟩ = some (.slice B1 1 d1) := blk_cell HX4.out 1
 have y2 : w4.cell? ⟨w2.heap.size, 2, none⟩ = some (.string wBlock) := blk_cell HX4.out 2
 have y3 : w4.cell? ⟨w2.heap.size, 3, none⟩ = some (.slice B3 1 d3) := blk_cell HX4.out 3
 have y4 : w4.cell? ⟨w2.heap.size, 4, none⟩ = some (.bool false) := blk_cell HX4.out 4
 clear hb4 x0 x1 x2 x3 x4 HP1 HX1 HPC HXC HWC HBC
 go_wp2_with fail
 refine (chk_awake2 B0 B1 B3 d0 d1 d3 w4 HP4.out (HLD.out.below HB4.out)).mono ?_
 rintro e w5 ⟨rfl, hb5⟩
 dsimp only
 have HB5 : Aside0 (Below w.heap.size w w5) := ⟨HB4.out.trans (hb5.mono HB4.out.size)⟩
 have HX5 : Aside0 (w5.heap[w2.heap.size]? = some (.cells #[.slice B0 0 d0, .slice B1 1 d1, .string wBlock, .slice B3 1 d3, .bool false] 26 (0, 0))) := ⟨blk_below HX4.out hb5⟩
 have HP5 := Aside0.mk (HP4.out.below hb5)
 have z0 : w5.cell? ⟨w2.heap.size, 0, none⟩ = some (.slice B0 0 d0) := blk_cell HX5.out 0
 have z1 : w5.cell? ⟨w2.heap.size, 1, none⟩ = some (.slice B1 1 d1) := blk_cell HX5.out 1
 have z2 : w5.cell? ⟨w2.heap.size, 2, none⟩ = some (.string wBlock) := blk_cell HX5.out 2
 have z3 : w5.cell? ⟨w2.heap.size, 3, none⟩ = some (.slice B3 1 d3) := blk_cell HX5.out 3
 have z4 : w5.cell? ⟨w2.heap.size, 4, none⟩ = some (.bool false) := blk_cell HX5.out 4
 clear hb5 y0 y1 y2 y3 y4 HP4 HX4
 go_wp2_with fail
 refine (atoms_awake B0 B1 B3 d0 d1 d3 w5 HP5.out).mono ?_
 rintro e w6 ⟨A6, c6, rfl, hb6⟩
 dsimp only
 have HB6 : Aside0 (Below w.heap.size w w6) := ⟨HB5.out.trans (hb6.mono HB5.out.size)⟩
 clear hb6 z0 z1 z2 z3 z4 HP5 HX5
 go_wp2
 go_ret
 exact ⟨rfl, HB6.out⟩
theorem same_l (l : List At) (hl : l.length ≤ 1000000) : ∀ k i : Nat, i + k = l.length → parapetlaw21_same.l0 (k + 1) l l i = some true
 | 0, i, h => by rw [parapetlaw21_same.l0, if_neg (by omega)]
 | k + 1, i, h => by
  rw [parapetlaw21_same.l0, if_pos (by omega), if_pos (by omega), if_pos (by omega), if_neg (by simp), show wrap64 ((i : Int) + 1) = ((i + 1 : Nat) : Int) by unfold wrap64; omega]
  exact same_l l hl k (i + 1) (by omega)
theorem same_f (l : List At) (hl : l.length ≤ 1000000) : parapetlaw21_same.f (l.length + 1) l l = some true := by
 rw [parapetlaw21_same.f, if_pos rfl]
 exact same_l l hl l.length 0 (by omega)
theorem addA_nodup (l : List At) : ∀ L : List At, L.Nodup → (l.foldl addA L).Nodup := by
 induction l with
 | nil => exact fun L h => h
 | cons a l ih =>
  intro L h
  rw [List.foldl_cons]
  refine ih _ ?_
  unfold addA
  split
  ·exact h
  ·rename_i hn
   rw [List.nodup_append]
   exact ⟨h, List.nodup_cons.2 ⟨List.not_mem_nil, List.nodup_nil⟩, fun x hx y hy he => by rw [List.mem_singleton] at hy; rw [he, hy] at hx; exact hn hx⟩
theorem atomsP_nodup (rules : List Rl) : (atomsP rules).Nodup := addA_nodup _ _ List.nodup_nil
theorem every_all : ∀ l : List Cd, (∀ c ∈ l, treeB c = true) → everyB l = true
 | [], _ => by rw [everyB]
 | c :: l, h => by rw [everyB, h c (List.mem_cons_self ..), Bool.true_and]; exact every_all l (fun d hd => h d (List.mem_cons_of_mem _ hd))
theorem cond_tree {c : Cd} (h : condB c = true) : treeB c = true := by
 rw [condB, Bool.and_eq_true] at h
 exact h.1
theorem ref_atoms {rules : List Rl} (h : ∀ x ∈ rules, condB x.f1 = true) : (refL (condsR rules)).foldl addA [] = atomsP rules := by
 rw [atomsP, (ref_tree _).2 (condsR rules) (Nat.le_refl _) (every_all _ (fun c hc => by
  rw [condsR, List.mem_map] at hc
  obtain ⟨x, hx, rfl⟩ := hc
  exact cond_tree (h x hx))), condsR]
theorem atomsP_len {st : Pst} (ho : PolOk st) (h : ∀ x ∈ st.rules, condB x.f1 = true) : (atomsP st.rules).length ≤ 1000000 := by
 rw [← ref_atoms h]
 have h1 := addA_len [] (refL (condsR st.rules))
 have h2 := (ref_size _).2 (condsR st.rules) (Nat.le_refl _)
 have h3 := ho.hz
 rw [List.length_nil] at h1
 omega
set_option maxHeartbeats 16000000
set_option maxRecDepth 100000
theorem soundatoms_calls (a0 : ByteArray) (w : World) (hL : Laid w) : Calls Tryd.prog 3 #[.string a0] w fun e w' => e = .returned (.bool true) ∧ Below w.heap.size w w' := by
  have h1 := read_calls a0 w
  unfold ReadQ at h1
  have HLD := Aside0.mk hL
  clear hL
  cases hp : polA a0 with
  | error f =>
    rw [hp] at h1
    have H1 := Aside0.mk h1
    clear h1 hp
    go_enter Tryd.func3, Tryd.ntmps3
    go_wp2_with fail
    refine H1.out.mono ?_
    rintro e w1 ⟨rfl, hb1⟩
    unfold polV
    dsimp only
    obtain ⟨wB, hwB⟩ : ∃ wB, wB = (w1.alloc (.cells #[.slice none 0 0, .slice none 0 0, .string ⟨#[]⟩, .slice none 0 0, .bool false] 26)).setRow w1.heap.size #[.slice none 0 0, .slice none 0 0, .string ⟨#[]⟩, .slice none 0 0, .bool false] := ⟨_, rfl⟩
    have hbB : Below w1.heap.size w1 wB := by rw [hwB]; exact below_setRow (below_alloc (Below.refl _ _) _) (Nat.le_refl _) _
    have HBB : Aside0 (Below w.heap.size w wB) := ⟨hb1.trans (hbB.mono hb1.size)⟩
    have HWB := Aside0.mk hwB
    clear hb1 hbB hwB H1
    go_upto_region 2 with (refine wpList_store_row rfl 26 _ _ rfl w1.heap.size #[.slice none 0 0, .slice none 0 0, .string ⟨#[]⟩, .slice none 0 0, .bool false] rfl rfl 26 #[.slice none 0 0, .slice none 0 0, .string ⟨#[]⟩, .slice none 0 0, .bool false] (blk_new _ _) size_pol rfl (by simp [Value.oneCell']) ?_)
    rw [← HWB.out]
    go_wp2_with fail
    refine (awake_calls wB (HLD.out.below HBB.out)).mono ?_
    rintro e w2 ⟨rfl, hb2⟩
    dsimp only
    have HB2 : Aside0 (Below w.heap.size w w2) := ⟨HBB.out.trans (hb2.mono HBB.out.size)⟩
    clear hb2
    go_wp2
    go_ret
    exact ⟨rfl, HB2.out⟩
  | ok st =>
    rw [hp] at h1
    have H1 := Aside0.mk h1
    have HOK := Aside0.mk (read_pol hp)
    have HCD := Aside0.mk (read_cond hp)
    clear h1 hp
    go_enter Tryd.func3, Tryd.ntmps3
    go_wp2_with fail
    refine H1.out.mono ?_
    rintro e w1 ⟨A0, A1, A3, c0, c1, c3, rfl, hP1, hb1⟩
    unfold polS polV
    dsimp only
    obtain ⟨wB, hwB⟩ : ∃ wB, wB = (w1.alloc (.cells #[.slice none 0 0, .slice none 0 0, .string ⟨#[]⟩, .slice none 0 0, .bool false] 26)).setRow w1.heap.size #[.slice A0 st.csp.length c0, .slice A1 st.shares.length c1, .string st.mixed, .slice A3 st.rules.length c3, .bool st.allow] := ⟨_, rfl⟩
    have hbB : Below w1.heap.size w1 wB := by rw [hwB]; exact below_setRow (below_alloc (Below.refl _ _) _) (Nat.le_refl _) _
    have HXB : Aside0 (wB.heap[w1.heap.size]? = some (.cells #[.slice A0 st.csp.length c0, .slice A1 st.shares.length c1, .string st.mixed, .slice A3 st.rules.length c3, .bool st.allow] 26 (0, 0))) := ⟨by rw [hwB]; exact setRow_heap _ _ _ _ _ _ (blk_new w1 (.cells #[.slice none 0 0, .slice none 0 0, .string ⟨#[]⟩, .slice none 0 0, .bool false] 26))⟩
    have HP := Aside0.mk (hP1.below hbB)
    have HBB : Aside0 (Below w.heap.size w wB) := ⟨hb1.trans (hbB.mono hb1.size)⟩
    have h2 := atoms_pol st HOK.out A0 A1 A3 c0 c1 c3 wB HP.out
    have h3 := fun w' hP => ratoms_pol st HOK.out A0 A1 A3 c0 c1 c3 w' hP
    unfold polS polV at h2 h3
    obtain ⟨L, hLL⟩ : ∃ L, L = atomsP st.rules := ⟨_, rfl⟩
    rw [ref_atoms HCD.out] at h3
    rw [← hLL] at h2 h3
    have HND : Aside0 L.Nodup := ⟨by rw [hLL]; exact atomsP_nodup _⟩
    have HLN : Aside0 (L.length ≤ 1000000) := ⟨by rw [hLL]; exact atomsP_len HOK.out HCD.out⟩
    have H2 := Aside0.mk h2
    have H3 : Aside0 (∀ w', PolAt w' A0 A1 A3 st → _) := Aside0.mk h3
    have HWB := Aside0.mk hwB
    clear hP1 hb1 hbB hwB H1 h2 h3 hLL
    obtain ⟨n0, hn0⟩ : ∃ n, n = st.csp.length := ⟨_, rfl⟩
    obtain ⟨n1, hn1⟩ : ∃ n, n = st.shares.length := ⟨_, rfl⟩
    obtain ⟨n3, hn3⟩ : ∃ n, n = st.rules.length := ⟨_, rfl⟩
    obtain ⟨mx, hmx⟩ : ∃ m, m = st.mixed := ⟨_, rfl⟩
    obtain ⟨al, hal⟩ : ∃ m, m = st.allow := ⟨_, rfl⟩
    rw [← hn0, ← hn1, ← hn3, ← hmx, ← hal] at HXB HWB H2 H3
    rw [← hn0, ← hn1, ← hn3, ← hmx, ← hal]
    clear hn0 hn1 hn3 hmx hal
    obtain ⟨gp, hgp⟩ : ∃ gp, gp = w1.heap.size := ⟨_, rfl⟩
    go_upto_region 2 with (refine wpList_store_row rfl 26 _ _ rfl w1.heap.size #[.slice A0 n0 c0, .slice A1 n1 c1, .string mx, .slice A3 n3 c3, .bool al] rfl rfl 26 #[.slice none 0 0, .slice none 0 0, .string ⟨#[]⟩, .slice none 0 0, .bool false] (blk_new _ _) size_pol rfl (by simp [Value.oneCell']) ?_)
    rw [← HWB.out, ← hgp]
    rw [← hgp] at HXB
    clear hgp HWB
    have x0 : wB.cell? ⟨gp, 0, none⟩ = some (.slice A0 n0 c0) := blk_cell HXB.out 0
    have x1 : wB.cell? ⟨gp, 1, none⟩ = some (.slice A1 n1 c1) := blk_cell HXB.out 1
    have x2 : wB.cell? ⟨gp, 2, none⟩ = some (.string mx) := blk_cell HXB.out 2
    have x3 : wB.cell? ⟨gp, 3, none⟩ = some (.slice A3 n3 c3) := blk_cell HXB.out 3
    have x4 : wB.cell? ⟨gp, 4, none⟩ = some (.bool al) := blk_cell HXB.out 4
    go_wp2_with fail
    refine H2.out.mono ?_
    rintro e w2 ⟨v, rfl, hR, hb2⟩
    dsimp only
    obtain ⟨A5, c5, rfl⟩ := Kd.R_slice hR
    have hrd := Kd.R_reads' hR
    have HC2 : Aside0 (k33.C w2 A5 L.length L) := ⟨hrd.2.2⟩
    have HL5 : Aside0 (L.length ≤ c5) := ⟨hrd.2.1⟩
    have HB2 : Aside0 (Below w.heap.size w w2) := ⟨HBB.out.trans (hb2.mono HBB.out.size)⟩
    have HX2 : Aside0 (w2.heap[gp]? = some (.cells #[.slice A0 n0 c0, .slice A1 n1 c1, .string mx, .slice A3 n3 c3, .bool al] 26 (0, 0))) := ⟨blk_below HXB.out hb2⟩
    have HP2 := Aside0.mk (HP.out.below hb2)
    clear x0 x1 x2 x3 x4 hR hrd hb2 H2 HP HXB HBB
    obtain ⟨n5, hn5⟩ : ∃ n, n = L.length := ⟨_, rfl⟩
    rw [← hn5]
    have HN := Aside0.mk hn5
    clear hn5
    go_wp2
    go_loopg [6, 7] n5 (fun gk v6 v7 wr => ∃ (i : Nat), v6 = .int .i64 i ∧ Aside0 (i ≤ n5) ∧ Aside0 (n5 - i ≤ gk) ∧ Aside0 (Below w2.heap.size w2 wr))
    case atStart => exact ⟨0, rfl, ⟨Nat.zero_le _⟩, ⟨Nat.sub_le _ _⟩, ⟨Below.refl _ _⟩⟩
    case round =>
      obtain ⟨i, rfl, HI, HGK, HB⟩ := hrel
      by_cases hi : i < n5
      · have l1 : decide (i < n5) = true := decide_eq_true hi
        have l2 : decide ((i : Int) < (n5 : Int)) = true := decide_eq_true (by omega)
        have l3 : (i : Int) < (n5 : Int) := by omega
        have HIL : Aside0 (i < L.length) := ⟨by rw [← HN.out]; exact hi⟩
        have hib : (i : Int) ≤ 1000000 := by have := HLN.out; have := HIL.out; omega
        have hip : (0 : Int) ≤ (i : Int) := by omega
        have HIN := Aside0.mk hi
        clear hi
        go_wp2
        obtain ⟨wo, hwo⟩ : ∃ wo, wo = wr := ⟨_, rfl⟩
        rw [← hwo] at HB ⊢
        clear hwo
        go_loopg [7] i (fun hk v7 wq => ∃ (j : Nat), v7 = .int .i64 j ∧ Aside0 (j ≤ i) ∧ Aside0 (i - j ≤ hk) ∧ Aside0 (Below w2.heap.size w2 wq))
        case atStart => exact ⟨0, rfl, ⟨Nat.zero_le _⟩, ⟨Nat.sub_le _ _⟩, HB⟩
        case round =>
          obtain ⟨j, rfl, HJ, HHK, HBQ⟩ := hrel
          by_cases hj : j < i
          · have m2 : decide ((j : Int) < (i : Int)) = true := decide_eq_true (by omega)
            have m3 : (j : Int) < (i : Int) := by omega
            have m4 : (j : Int) < (n5 : Int) := by omega
            have m5 : decide (j < n5) = true := decide_eq_true (by omega)
            have HJL : Aside0 (j < L.length) := ⟨by have := HIL.out; omega⟩
            have hjp : (0 : Int) ≤ (j : Int) := by omega
            have hjb : (j : Int) ≤ 1000000 := by omega
            have HJI := Aside0.mk hj
            have hC := Kd.C_below HC2.out HBQ.out
            obtain ⟨ad, hA, q0, q1⟩ := at_T33 hC (i : Int) (by omega) (by have := HIL.out; omega)
            have hA2 : A5 = some ad := hA
            obtain ⟨ad', hA', r0, r1⟩ := at_T33 hC (j : Int) (by omega) (by have := HJL.out; omega)
            have hA3 : A5 = some ad' := hA'
            obtain rfl : ad = ad' := Option.some.inj (hA2.symm.trans hA3)
            subst hA2
            obtain ⟨x, hx⟩ : ∃ x, x = rd_T33 L (i : Int) := ⟨_, rfl⟩
            obtain ⟨y, hy⟩ : ∃ y, y = rd_T33 L (j : Int) := ⟨_, rfl⟩
            have HX : x = L[i]'HIL.out := by rw [hx]; have := HIL.out; simp [rd_T33, this]
            have HY : y = L[j]'HJL.out := by rw [hy]; have := HJL.out; simp [rd_T33, this]
            have hne : x ≠ y := fun he => by
              rw [HX, HY] at he
              exact List.pairwise_iff_getElem.1 HND.out j i HJL.out HIL.out hj he.symm
            rw [← hx] at q0 q1
            rw [← hy] at r0 r1
            simp only [Int.toNat_natCast] at q0 q1 r0 r1
            obtain ⟨p0, hp0⟩ : ∃ p0, (x.f0.toList == y.f0.toList) = p0 := ⟨_, rfl⟩
            obtain ⟨p1, hp1⟩ : ∃ p1, (x.f1.toList == y.f1.toList) = p1 := ⟨_, rfl⟩
            have HEQ : (p0 && p1) = false := by
              cases hpp : (p0 && p1) with
              | false => rfl
              | true =>
                rw [Bool.and_eq_true, ← hp0, ← hp1, beq_iff_eq, beq_iff_eq, bytes_toList, bytes_toList] at hpp
                exact absurd (by cases x; cases y; simp only at hpp; rw [hpp.1, hpp.2]) hne
            obtain ⟨u0, hu0⟩ : ∃ u0, u0 = x.f0 := ⟨_, rfl⟩
            obtain ⟨u1, hu1⟩ : ∃ u1, u1 = x.f1 := ⟨_, rfl⟩
            obtain ⟨v0, hv0⟩ : ∃ v0, v0 = y.f0 := ⟨_, rfl⟩
            obtain ⟨v1, hv1⟩ : ∃ v1, v1 = y.f1 := ⟨_, rfl⟩
            rw [← hu0] at q0 hp0
            rw [← hu1] at q1 hp1
            rw [← hv0] at r0 hp0
            rw [← hv1] at r1 hp1
            clear hx hy hA hA' hA3 hC hj hu0 hu1 hv0 hv1 hne HX HY
            cases p0 <;> cases p1 <;> first
              | exact absurd HEQ (by decide)
              | (clear HEQ
                 go_wp2
                 go_region
                 clear q0 q1 r0 r1 m2 m3 m4 m5 hp0 hp1
                 go_wp2
                 go_roundg (i - (j + 1))
                 case measure => have := HHK.out; have := HJI.out; omega
                 case rel => exact ⟨j + 1, by first | rfl | go_num, ⟨HJI.out⟩, ⟨Nat.le_refl _⟩, ⟨below_drew1 HBQ.out⟩⟩)
          · have m2 : decide ((j : Int) < (i : Int)) = false := decide_eq_false (by omega)
            have m3 : ¬ (j : Int) < (i : Int) := by omega
            clear hj
            go_wp2
            go_roundg (n5 - (i + 1))
            case measure => have := HGK.out; have := HIN.out; omega
            case rel => exact ⟨i + 1, by first | rfl | go_num, ⟨HIN.out⟩, ⟨Nat.le_refl _⟩, HBQ⟩
      · have l1 : decide (i < n5) = false := decide_eq_false hi
        have l2 : decide ((i : Int) < (n5 : Int)) = false := decide_eq_false (by omega)
        have l3 : ¬ (i : Int) < (n5 : Int) := by omega
        have HBW : Aside0 (Below w.heap.size w wr) := ⟨HB2.out.trans (HB.out.mono HB2.out.size)⟩
        have HXR : Aside0 (wr.heap[gp]? = some (.cells #[.slice A0 n0 c0, .slice A1 n1 c1, .string mx, .slice A3 n3 c3, .bool al] 26 (0, 0))) := ⟨blk_below HX2.out HB.out⟩
        have h3 := H3.out wr (HP2.out.below HB.out)
        have HCR := Aside0.mk (Kd.C_below HC2.out HB.out)
        have H4 := Aside0.mk h3
        have x0 : wr.cell? ⟨gp, 0, none⟩ = some (.slice A0 n0 c0) := blk_cell HXR.out 0
        have x1 : wr.cell? ⟨gp, 1, none⟩ = some (.slice A1 n1 c1) := blk_cell HXR.out 1
        have x2 : wr.cell? ⟨gp, 2, none⟩ = some (.string mx) := blk_cell HXR.out 2
        have x3 : wr.cell? ⟨gp, 3, none⟩ = some (.slice A3 n3 c3) := blk_cell HXR.out 3
        have x4 : wr.cell? ⟨gp, 4, none⟩ = some (.bool al) := blk_cell HXR.out 4
        clear hi h3
        go_wp2_with fail
        refine H4.out.mono ?_
        rintro e w6 ⟨v, rfl, hR, hb6⟩
        obtain ⟨A6, c6, rfl⟩ := Kd.R_slice hR
        have hrd := Kd.R_reads' hR
        have hs := parapetlaw21_same.calls (L.length + 1) A5 c5 L A6 c6 L true w6 (Kd.C_below HCR.out hb6) HL5.out hrd.2.2 hrd.2.1 (same_f L HLN.out)
        rw [← HN.out] at hs ⊢
        have HS := Aside0.mk hs
        have HB6 : Aside0 (Below w.heap.size w w6) := ⟨HBW.out.trans (hb6.mono HBW.out.size)⟩
        clear hR hrd hb6 hs x0 x1 x2 x3 x4
        dsimp only
        go_wp2_with fail
        refine HS.out.mono ?_
        rintro e w7 ⟨rfl, hd7⟩
        dsimp only
        have HB7 : Aside0 (Below w.heap.size w w7) := ⟨HB6.out.trans (hd7.below.mono HB6.out.size)⟩
        clear hd7
        go_wp2_with fail
        refine (awake_calls _ (HLD.out.below HB7.out)).mono ?_
        rintro e w8 ⟨rfl, hb8⟩
        dsimp only
        have HB8 : Aside0 (Below w.heap.size w w8) := ⟨HB7.out.trans (hb8.mono HB7.out.size)⟩
        clear hb8
        go_wp2
        go_ret
        exact ⟨rfl, HB8.out⟩
end Go.Proofs.YtdlahgamdigkhaaDoor.Sn
