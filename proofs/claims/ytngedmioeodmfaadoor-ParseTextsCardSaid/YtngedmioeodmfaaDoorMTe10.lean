/- 2 texts of the proof, put together, less what is not used; what a tool printed stands among them. -/
import Derived.Deep.AppendSrc
import Derived.Laws.AppendOwn
import Derived.Laws.IdiomCopy
import Derived.KernelRfl
import Derived.Test.YtngedmioeodmfaaDoorMTe9
set_option maxRecDepth 100000
namespace Go.Proofs
open Go.RowKit
theorem nTe10_ {p_ : Prop} (h_ : p_ := by
 simp only [Act.put, List.setIfInBounds_toArray, List.set_cons_zero, List.set_cons_succ, i64_w, i32_w]
 rfl) : p_ := h_
theorem sTe10_0 {p_ : Prop} (h_ : p_ := by
 intro w'
 go_simp
 with_reducible rfl) : p_ := h_
theorem sTe10_1 {p_ : Prop} (h_ : p_ := by
 have l3 : decide ((60 : Int) ≤ (it : Int)) = true := decide_eq_true (by omega)
 have HRE0 : Aside0 (R = .error (2, p0)) := ⟨by rw [HRK.out, item_in HTK2.out HMEM.out, if_neg (by rw [HWD.out]; decide +kernel), if_neg (by rw [HWD.out]; decide +kernel), if_pos (by have := HIT.out; omega)]; rfl⟩
 go_wp2_with fail
 refine (r_wrong (T := T) (e := s.size) p 2 HI8.out HB8.out).mono ?_
 rintro e w9 ⟨rfl, hs, hb, hk⟩
 dsimp only
 have HIX := Aside0.mk hs
 have HBX := Aside0.mk hb
 have HKX := Aside0.mk hk
 clear hs hb hk
 rw [← HTK2.out] at HIX
 have hc9 : (2 : Int) ≠ 0 := by decide
 obtain ⟨cE, hcE⟩ : ∃ cE : Int, cE = 2 := ⟨_, rfl⟩
 rw [← hcE] at HIX hc9 HRE0
 have HRE := HRE0
 clear hcE HRE0
 exact sc_bad) : p_ := h_
theorem sTe10_2 {p_ : Prop} (h_ : p_ := by
 rintro w' ⟨s0, s1, s2, s3, s4⟩
 go_simp
 with_reducible rfl) : p_ := h_
end Go.Proofs
namespace Go.Proofs.YtngedmioeodmfaaDoor.Pu
open Go.RowKit Go.Proofs.YtngedmioeodmfaaDoor.Pr Go.Proofs.YtngedmioeodmfaaDoorW.PrintWords Go.Proofs.YtngedmioeodmfaaDoorW.PrintLast Go.Proofs.YtngedmioeodmfaaDoorW.PrintMore Go.Proofs.YtngedmioeodmfaaDoor.Lx
open Go.Proofs.YtngedmioeodmfaaDoor.Ps hiding Tk
theorem memB_nil (s : ByteArray) : memB s [] = false := rfl
theorem six_of {wd : ByteArray} (h : memB wd six = true) : wd = wCsp ∨ wd = wShare ∨ wd = wMixed ∨ wd = wDefault ∨ (wd = wAllow ∨ wd = wDeny) := by
 simp only [memB, six, List.any_cons, List.any_nil, Bool.or_eq_true, decide_eq_true_eq, Bool.or_false] at h
 exact h
theorem isP_six {T : List Tk} {e : Int} {p : Nat} {k0 p0 : Int} {wd : ByteArray} (ht : (⟨k0, p0, wd⟩ : Tk) = nxt T e p) : isP T e [wCsp, wShare, wMixed, wDefault, wAllow, wDeny] p = (decide (k0 = 1) && memB wd six) := by
 rw [isP, ← ht]; rfl
theorem item_no {T : List Tk} {e : Int} {st : Pst} {p : Nat} {k0 p0 : Int} {wd : ByteArray} (ht : (⟨k0, p0, wd⟩ : Tk) = nxt T e p) (h : (decide (k0 = 1) && memB wd six) = false) : itemP T e st p = .error (8, p0) := by
 rw [itemP, isP_six ht, h, if_neg Bool.false_ne_true, ← ht]
theorem item_in {T : List Tk} {e : Int} {st : Pst} {p : Nat} {p0 : Int} {wd : ByteArray} (ht : (⟨1, p0, wd⟩ : Tk) = nxt T e p) (h : memB wd six = true) : itemP T e st p =
  if wd = wMixed then (if st.metM + 1 > 1 then .error (10, p0) else if st.items + 1 > 60 then .error (2, p0) else itemK T e { st with metM := st.metM + 1, items := st.items + 1 } wd (p + 1))
  else if wd = wDefault then (if st.metD + 1 > 1 then .error (10, p0) else if st.items + 1 > 60 then .error (2, p0) else itemK T e { st with metD := st.metD + 1, items := st.items + 1 } wd (p + 1))
  else if st.items + 1 > 60 then .error (2, p0) else itemK T e { st with items := st.items + 1 } wd (p + 1) := by
 have htk : takeP T e 1 p = .ok (wd, p + 1) := by rw [takeP, ← ht]; rfl
 have hmd : isP T e [wMixed, wDefault] p = memB wd [wMixed, wDefault] := by rw [isP, ← ht]; rfl
 rw [itemP, isP_six ht, h, if_pos (by rfl), onceP, hmd, ← ht, htk]
 by_cases h1 : wd = wMixed
 ·subst h1
  rw [show memB wMixed [wMixed, wDefault] = true from by decide +kernel, if_pos rfl, if_pos rfl]
  dsimp only
  rw [if_pos rfl]
  by_cases h2 : st.metM + 1 > 1
  ·rw [if_pos h2, if_pos h2]
  ·rw [if_neg h2, if_neg h2]
 ·by_cases h2 : wd = wDefault
  ·subst h2
   rw [show memB wDefault [wMixed, wDefault] = true from by decide +kernel, if_pos rfl, if_neg h1, if_pos rfl]
   dsimp only
   rw [if_neg h1]
   by_cases h3 : st.metD + 1 > 1
   ·rw [if_pos h3, if_pos h3]
   ·rw [if_neg h3, if_neg h3]
  ·rw [show memB wd [wMixed, wDefault] = false from by rw [memB_cons, memB_cons, memB_nil, decide_eq_false h1, decide_eq_false h2]; rfl, if_neg Bool.false_ne_true, if_neg h1, if_neg h2]
theorem wordP_yes {T : List Tk} {e : Int} {ws : List ByteArray} {p : Nat} (w : ByteArray) (hw : memB w ws = true) (h : isP T e [w] p = true) : wordP T e ws p = .ok (w, p + 1) := by
 obtain ⟨h1, h2⟩ := one_word h
 rw [wordP, show isP T e ws p = true from by rw [isP, h1, h2, hw]; rfl, if_pos rfl, takeP, if_pos h1, h2]
theorem wordP_no {T : List Tk} {e : Int} {ws : List ByteArray} {p : Nat} (h : isP T e ws p = false) : wordP T e ws p = .error (8, (nxt T e p).f1) := by
 rw [wordP, h, if_neg Bool.false_ne_true]
theorem step_eq {T : List Tk} {e : Int} {f : Nat} {st : Pst} {p : Nat} {R : Except (Int × Int) Pst} (hR : R = itemsP T e f st p) (hf : T.length + 1 ≤ f + p) (hp : p < T.length) : ∃ f', T.length ≤ f' + p ∧ R = itemsK T e f' (itemP T e st p) := by
 obtain ⟨f', rfl⟩ : ∃ f', f = f' + 1 := ⟨f - 1, by omega⟩
 exact ⟨f', by omega, by rw [hR, itemsP_succ hp]⟩
section
variable {w0 W : World} {gr gp : Nat} {T : List Tk} {e : Int} {R : Except (Int × Int) Pst} {p0 : Nat} {mx df : Bool} {n i c a : Int} {f : Nat} {s5 : Pst} {q : Nat} {v0 v1 v3 : Value} {okS okR : Nat → Prop}
structure Cnt (mx df : Bool) (n : Int) (p0 q f : Nat) (T : List Tk) (s5 : Pst) : Prop where
 m : mx = decide (s5.metM = 1)
 d : df = decide (s5.metD = 1)
 n : n + 1 = (s5.items : Int)
 q : q = p0 + 1
 f : T.length ≤ f + p0
theorem mid_csp {t : ByteArray} (hQ : NxQ (takeP T e 2 q) t i c a) (hR : R = itemsK T e f (cspK s5 (takeP T e 2 q))) (hS : RS w0 W gr gp v0 v1 v3 { s5 with csp := s5.csp ++ [t] } okS okR) (hc : Cnt mx df n p0 q f T s5) : MidQ w0 W gr gp T e R p0 mx df n i c a := by
 cases ht : takeP T e 2 q with
 | error x =>
  obtain ⟨x, y⟩ := x
  rw [ht] at hQ hR
  obtain ⟨hx, hi, rfl, rfl, _⟩ := hQ
  exact .inl ⟨hx, hi, hR⟩
 | ok x =>
  obtain ⟨t', q2⟩ := x
  rw [ht] at hQ hR
  obtain ⟨rfl, rfl, rfl, rfl⟩ := hQ
  have := takeP_mono ht
  have := hc.q
  exact .inr ⟨f, { s5 with csp := s5.csp ++ [t] }, q2, v0, v1, v3, okS, okR, rfl, rfl, rfl, by omega, hc.m, hc.d, hc.n, hc.f, hR, hS⟩
theorem mid_sha {h : Sh} (hQ : ShQ (shareP T e q) h i c a) (hR : R = itemsK T e f (shaK s5 (shareP T e q))) (hS : RS w0 W gr gp v0 v1 v3 { s5 with shares := s5.shares ++ [h] } okS okR) (hc : Cnt mx df n p0 q f T s5) : MidQ w0 W gr gp T e R p0 mx df n i c a := by
 cases ht : shareP T e q with
 | error x =>
  obtain ⟨x, y⟩ := x
  rw [ht] at hQ hR
  obtain ⟨hx, hi, rfl, rfl⟩ := hQ
  exact .inl ⟨hx, hi, hR⟩
 | ok x =>
  obtain ⟨t', q2⟩ := x
  rw [ht] at hQ hR
  obtain ⟨rfl, rfl, rfl, rfl⟩ := hQ
  have := shareP_mono ht
  have := hc.q
  exact .inr ⟨f, { s5 with shares := s5.shares ++ [h] }, q2, v0, v1, v3, okS, okR, rfl, rfl, rfl, by omega, hc.m, hc.d, hc.n, hc.f, hR, hS⟩
theorem mid_rul {h : Cd} {wd : ByteArray} {q1 : Nat} (hQ : CdQ (condP T e q1) h i c a) (hq : q ≤ q1) (hR : R = itemsK T e f (ruleK s5 wd (condP T e q1))) (hS : RS w0 W gr gp v0 v1 v3 { s5 with rules := s5.rules ++ [⟨decide (wd = wAllow), h⟩] } okS okR) (hc : Cnt mx df n p0 q f T s5) : MidQ w0 W gr gp T e R p0 mx df n i c a := by
 cases ht : condP T e q1 with
 | error x =>
  obtain ⟨x, y⟩ := x
  rw [ht] at hQ hR
  obtain ⟨hx, hi, rfl, rfl⟩ := hQ
  exact .inl ⟨hx, hi, hR⟩
 | ok x =>
  obtain ⟨t', q2⟩ := x
  rw [ht] at hQ hR
  obtain ⟨rfl, rfl, rfl, rfl⟩ := hQ
  have := condP_mono T e _ _ _ ht
  have := hc.q
  exact .inr ⟨f, { s5 with rules := s5.rules ++ [⟨decide (wd = wAllow), h⟩] }, q2, v0, v1, v3, okS, okR, rfl, rfl, rfl, by omega, hc.m, hc.d, hc.n, hc.f, hR, hS⟩
theorem mid_ok {st : Pst} {q2 : Nat} (hq : q ≤ q2) (hm : st.metM = s5.metM) (hd : st.metD = s5.metD) (hn : st.items = s5.items) (hR : R = itemsK T e f (.ok (st, q2))) (hS : RS w0 W gr gp v0 v1 v3 st okS okR) (hc : Cnt mx df n p0 q f T s5) : MidQ w0 W gr gp T e R p0 mx df n (q2 : Int) 0 0 := by
 have := hc.q
 exact .inr ⟨f, st, q2, v0, v1, v3, okS, okR, rfl, rfl, rfl, by omega, by rw [hm]; exact hc.m, by rw [hd]; exact hc.d, by rw [hn]; exact hc.n, hc.f, hR, hS⟩
theorem mid_err {x y : Int} (hx : x ≠ 0) (hi : 0 ≤ i) (hR : R = itemsK T e f (.error (x, y))) : MidQ w0 W gr gp T e R p0 mx df n i x y := .inl ⟨hx, hi, hR⟩
end
set_option maxHeartbeats 40000000
set_option maxRecDepth 100000
theorem sc_bad {p_ : Prop} (h_ : p_ := by
 obtain rfl : R = .error (cE, p0) := HRE.out
 have l0 : (cE != (0 : Int)) = true := by simp [hc9]
 go_wp2_with fail
 refine (bad_quiet w2 _ gr T _ _ cE p0 true l0 HIX.out).mono ?_
 rintro e w' ⟨rfl, hww⟩
 obtain rfl := hww.symm
 clear hww
 dsimp only
 obtain ⟨A9, c9, hb9, _, _⟩ := HIX.out
 have d3 : w9.drew.cell? ⟨gr, 3, none⟩ = some (.int .i64 cE) := cellS67_3 hb9
 have d4 : w9.drew.cell? ⟨gr, 4, none⟩ = some (.int .i64 p0) := cellS67_4 hb9
 have HP9 : Aside0 (w9.heap[gA]? = some (.cells (polcells (.slice none 0 0) (.slice none 0 0) ⟨#[]⟩ (.slice none 0 0) false) 27 (0, 0))) := ⟨blk_below HP2.out HBX.out⟩
 have HF9 : Aside0 (w9.heap[gA + 1]? = some (.cells #[.int .i64 0, .int .i64 0] 30 (0, 0))) := ⟨blk_below HF2.out HBX.out⟩
 have HGR : Aside0 (gA + 1 < gr) := ⟨by have := HLT.out; have := HZ2.out; have := HGX.out; omega⟩
 clear hb9
 go_upto_region 45 with (fail)
 refine start_ (n := 7) (S := fun w' => w'.cell? ⟨gr, 3, none⟩ = some (.int .i64 cE) ∧ w'.cell? ⟨gr, 4, none⟩ = some (.int .i64 p0)) (ds := [6]) #[false, false, false, false, false, false, false] (by kernel_rfl) rfl rfl ⟨d3, d4⟩ (fun hHeld => ?_)
 refine pure_ (i := 0) (N := some 153) (v := ?_) (a' := ?_) #[true, false, false, false, false, false, false] rfl rfl (by kernel_rfl) (fun _ _ _ h => h) (Or.inl ⟨by rfl, ?_⟩) ?_ ?_
 rotate_left
 ·exact sTe10_0
 rotate_left
 ·exact nTe10_
 refine pure_ (i := 1) (N := some 154) (v := ?_) (a' := ?_) #[true, true, false, false, false, false, false] rfl rfl (by kernel_rfl) (fun _ _ _ h => h) (Or.inl ⟨by rfl, ?_⟩) ?_ ?_
 rotate_left
 ·exact sTe10_0
 rotate_left
 ·exact nTe10_
 refine pure_ (i := 2) (N := some 155) (v := ?_) (a' := ?_) #[true, true, true, false, false, false, false] rfl rfl (by kernel_rfl) (fun _ _ _ h => h) (Or.inl ⟨by rfl, ?_⟩) ?_ ?_
 rotate_left
 ·exact sTe10_0
 rotate_left
 ·exact nTe10_
 refine pure_ (i := 3) (N := some 156) (v := ?_) (a' := ?_) #[true, true, true, true, false, false, false] rfl rfl (by kernel_rfl) (fun _ _ _ h => h) (Or.inl ⟨by rfl, ?_⟩) ?_ ?_
 rotate_left
 ·exact sTe10_0
 rotate_left
 ·exact nTe10_
 refine take_ (i := 4) (N := some 157) (v := ?_) (a' := ?_) #[true, true, true, true, true, false, false] rfl rfl (by kernel_rfl) (fun _ _ _ h => h) (Or.inl ⟨by rfl, ?_⟩) hHeld ?_ ?_
 rotate_left
 ·rintro w' ⟨s0, s1⟩
  go_simp
  with_reducible rfl
 rotate_left
 ·exact nTe10_
 refine one_ (i := 5) (N := none) #[true, true, true, true, true, true, false] rfl rfl (by kernel_rfl) (by decide) (fun K hK => ?_)
 refine QT.storeRow_ (by rfl) rfl 27 (.tmp 2) (.tmp 153) rfl gA #[.slice none 0 0, .slice none 0 0, .string ⟨#[]⟩, .slice none 0 0, .bool false] rfl rfl 27 _ HP9.out (by kernel_rfl) rfl (by simp [Value.oneCell']) ?_
 refine hK.out _ _ ⟨(cell_setRow_other _ _ _ _ (show gr ≠ gA by have := HGR.out; omega)).trans hHeld.1, (cell_setRow_other _ _ _ _ (show gr ≠ gA by have := HGR.out; omega)).trans hHeld.2⟩ (fun hHeld => ?_)
 clear hK K
 refine last_ (i := 6) (N := none) #[true, true, true, true, true, true, true] rfl rfl (by kernel_rfl) (by decide) (fun K hK => ?_)
 refine QT.storeRow_ (by rfl) rfl 30 (.tmp 3) (.tmp 157) rfl (gA + 1) #[.int .i64 cE, .int .i64 p0] rfl rfl 30 #[.int .i64 0, .int .i64 0] ((setRow_other _ _ _ _ (show gA + 1 ≠ gA by omega)).trans HF9.out) (by kernel_rfl) rfl (by simp [Value.oneCell']) ?_
 refine hK.out _ _ ?_
 clear hK K
 refine done_ (by kernel_rfl) ?_

 rw [hput, hput]
 clear hput
 go_wp2
 refine bodyPost_ret (rpol_results _ _ gA (gA + 1) _ _ rfl rfl ?_ ?_ rfl rfl) rfl ⟨rfl, ?_⟩
 ·exact (setRow_other _ _ _ _ (show gA ≠ gA + 1 by omega)).trans (setRow_heap _ _ _ _ _ _ HP9.out)
 ·exact setRow_heap _ _ _ _ _ _ ((setRow_other _ _ _ _ (show gA + 1 ≠ gA by omega)).trans HF9.out)
 ·exact below_setRow (below_setRow (below_drew (HB2.out.trans (HBX.out.mono HB2.out.size))) (by rw [HGA.out]; omega) _) (by rw [HGA.out]; omega) _) : p_ := h_
theorem sc_round {p_ : Prop} (h_ : p_ := by
 go_wp2_with fail
 refine (mid_next HMR.out HPT.out HLN.out HIR.out HBR.out).mono ?_
 rintro e w20 ⟨t20, i20, c20, a20, rfl, hi20, hb20, hs20⟩
 dsimp only
 have HI20 := Aside0.mk hi20
 have HB20 := Aside0.mk hb20
 have HS20 := Aside0.mk hs20
 clear hi20 hb20 hs20
 go_wp2
 go_roundg (T.length - p)
 case measure => have := HGK.out; have := HPT.out; omega
 case rel => exact ⟨_, _, _, i20, c20, a20, rfl, rfl, rfl, HI20, HB20, HS20⟩) : p_ := h_
theorem rpolicy_calls (s : ByteArray) (k : Nat) (T : List Tk) (c a : Int) (w : World) (h : parapetref19_Tokens.f k s = some (T, c, a)) (hsz : ∀ t ∈ T, t.f2.size ≤ 1000000) (hln : T.length ≤ 1000000) (hss : s.size ≤ 1000000) :
  Calls Tryd.prog 13 #[.string s] w (PolQR w (polT s.size (T, c, a))) := by
 have HSZ := Aside0.mk hsz
 have HLN := Aside0.mk hln
 have HSS := Aside0.mk hss
 obtain ⟨gA, hgA⟩ : ∃ gA, gA = w.heap.size := ⟨_, rfl⟩
 obtain ⟨R, hR⟩ : ∃ R, R = polT s.size (T, c, a) := ⟨_, rfl⟩
 rw [← hR]
 have HR := Aside0.mk hR
 clear hR hsz hln hss
 have HTK := Aside0.mk h
 clear h
 go_enter Tryd.func13, Tryd.ntmps13
 go_wp2_with fail
 refine (parapetref19_Tokens.calls k s T c a _ HTK.out).mono ?_
 rintro e w1 ⟨v0, rfl, hT, hb⟩
 dsimp only
 have HF1 : Aside0 (w1.heap[gA + 1]? = some (.cells #[.int .i64 0, .int .i64 0] 30 (0, 0))) := ⟨by rw [hgA]; exact blk_below (blk_new2 _ _ _ _ _) hb⟩
 have HP1 : Aside0 (w1.heap[gA]? = some (.cells (polcells (.slice none 0 0) (.slice none 0 0) ⟨#[]⟩ (.slice none 0 0) false) 27 (0, 0))) := ⟨by rw [hgA]; exact blk_below (blk_alloc (blk_new _ _) _) hb⟩
 have HB1 : Aside0 (Below w.heap.size w w1) := ⟨(below_alloc (below_alloc (Below.refl _ _) _) _).trans (hb.mono (below_alloc (below_alloc (Below.refl _ _) _) _).size)⟩
 obtain ⟨A0, c0, e0⟩ := Kd.R_slice hT
 obtain ⟨n0, hn0⟩ : ∃ n0, n0 = T.length := ⟨_, rfl⟩
 rw [← hn0] at e0
 subst e0
 rw [size_two, ← hgA] at hT
 have HT1 := Aside0.mk hT
 have HN0 := Aside0.mk hn0
 have HGA := Aside0.mk hgA
 clear hT hb hn0
 rw [← hgA]
 clear hgA
 obtain ⟨gf, hgf⟩ : ∃ gf, gf = w1.heap.size := ⟨_, rfl⟩
 have hput : ∀ (a : Act) (v : Value), a.put none v = a := fun _ _ => rfl
 by_cases hc : c = 0
 ·have l1 : (c != (0 : Int)) = false := by simp [hc]
  subst hc
  go_upto_region 2 with (refine wpList_store_row rfl 30 _ _ rfl w1.heap.size #[.int .i64 0, .int .i64 a] rfl rfl 30 #[.int .i64 0, .int .i64 0] (blk_new _ _) size_fault rfl (by simp [Value.oneCell']) ?_)
  obtain ⟨w2, hw2⟩ : ∃ w2, w2 = (w1.alloc (.cells #[.int .i64 0, .int .i64 0] 30)).setRow w1.heap.size #[.int .i64 0, .int .i64 a] := ⟨_, rfl⟩
  rw [← hw2, ← hgf]
  have HZ2 : Aside0 (gf < w2.heap.size) := ⟨by rw [hw2, hgf]; exact blk_lt (setRow_heap _ _ _ _ _ _ (blk_new w1 (.cells #[.int .i64 0, .int .i64 0] 30)))⟩
  have HX2 : Aside0 (w2.heap[gf]? = some (.cells #[.int .i64 0, .int .i64 a] 30 (0, 0))) := ⟨by rw [hw2, hgf]; exact setRow_heap _ _ _ _ _ _ (blk_new w1 (.cells #[.int .i64 0, .int .i64 0] 30))⟩
  have HLT : Aside0 (gA + 1 < gf) := ⟨by rw [hgf]; exact blk_lt HF1.out⟩
  have HK12 : Aside0 (Below w1.heap.size w1 w2) := ⟨by rw [hw2]; exact below_setRow (below_alloc (Below.refl _ _) _) (Nat.le_refl _) _⟩
  clear hw2
  have HF2 : Aside0 (w2.heap[gA + 1]? = some (.cells #[.int .i64 0, .int .i64 0] 30 (0, 0))) := ⟨blk_below HF1.out HK12.out⟩
  have HP2 : Aside0 (w2.heap[gA]? = some (.cells (polcells (.slice none 0 0) (.slice none 0 0) ⟨#[]⟩ (.slice none 0 0) false) 27 (0, 0))) := ⟨blk_below HP1.out HK12.out⟩
  have HB2 : Aside0 (Below w.heap.size w w2) := ⟨HB1.out.trans (HK12.out.mono HB1.out.size)⟩
  have HC2 : Aside0 (n0 ≤ c0 ∧ k40.C w2 A0 T.length T) := ⟨(Kd.R_reads' HT1.out).2.1, (Kd.R_reads' (Kd.R_below HT1.out HK12.out)).2.2⟩
  clear HF1 HP1 HB1 HT1 HK12 hgf
  have t0 : w2.cell? ⟨gf, 0, none⟩ = some (.int .i64 0) := blk_cell HX2.out 0
  obtain ⟨gr, hgr⟩ : ∃ gr, gr = w2.heap.size := ⟨_, rfl⟩
  go_wp2_with (refine wpList_store_row rfl 27 _ _ rfl (w2.heap.size + 1) (polcells (.slice none 0 0) (.slice none 0 0) wBlock (.slice none 0 0) false) rfl rfl 27 (polcells (.slice none 0 0) (.slice none 0 0) ⟨#[]⟩ (.slice none 0 0) false) (blk_new2 _ _ _ _ _) size_pol rfl (pol_one ⟨rfl, rfl, rfl⟩ _ _) ?_)
  obtain ⟨w3, hw3⟩ : ∃ w3, w3 = ((w2.alloc (.cells #[.slice A0 n0 c0, .int .i64 0, .int .i64 s.size, .int .i64 0, .int .i64 0] 67)).alloc (.cells #[.slice none 0 0, .slice none 0 0, .string ⟨#[]⟩, .slice none 0 0, .bool false] 27)).setRow (w2.heap.size + 1) (polcells (.slice none 0 0) (.slice none 0 0) wBlock (.slice none 0 0) false) := ⟨_, rfl⟩
  obtain ⟨gp, hgp⟩ : ∃ gp, gp = gr + 1 := ⟨_, rfl⟩
  have HX3 : Aside0 (w3.heap[gr]? = some (.cells #[.slice A0 n0 c0, .int .i64 0, .int .i64 s.size, .int .i64 0, .int .i64 0] 67 (0, 0))) := ⟨by rw [hw3, hgr]; exact (setRow_other _ _ _ _ (by omega)).trans (blk_alloc (blk_new _ _) _)⟩
  have HQ3 : Aside0 (w3.heap[gp]? = some (.cells (polcells (.slice none 0 0) (.slice none 0 0) wBlock (.slice none 0 0) false) 27 (0, 0))) := ⟨by rw [hw3, hgp, hgr]; exact setRow_heap _ _ _ _ _ _ (blk_new2 _ _ _ _ _)⟩
  have HB3 : Aside0 (Below w2.heap.size w2 w3) := ⟨by rw [hw3]; exact below_setRow (below_alloc (below_alloc (Below.refl _ _) _) _) (Nat.le_succ _) _⟩
  have HGX : Aside0 (gr = w2.heap.size ∧ gp = gr + 1) := ⟨⟨hgr, hgp⟩⟩
  rw [← hw3, ← hgr, ← hgp]
  clear hw3 hgr hgp t0 l1
  have HI3 : Aside0 (IsR w2 w3 gr T 0 s.size 0 0) := ⟨⟨A0, c0, by rw [← HN0.out]; exact HX3.out, by rw [HGX.out.1]; exact Nat.le_refl _, HC2.out.2⟩⟩
  have HS3 : Aside0 (RS w2 w3 gr gp (.slice none 0 0) (.slice none 0 0) (.slice none 0 0) pst0 (fun _ => False) (fun _ => False)) := ⟨{ blk := HQ3.out, rC := Kd.R_nil _ _ _ _ _, rS := Kd.R_nil _ _ _ _ _, rR := Kd.N_nil _ _ _ _ _, dC := fun k hk => by simp [Value.ownBlock] at hk, bS := fun _ h => h.elim, bR := fun _ h => h.elim, ng := by have := HGX.out.2; omega, lg := by have := HGX.out; omega, lr := blk_lt HX3.out, lC := Nat.le_refl _, lS := Nat.le_refl _, lR := Nat.le_refl _, lI := by decide, lM := by decide, lD := by decide, eM := fun _ => rfl, eD := fun _ => rfl }⟩
  have HR0 : Aside0 (R = itemsP T s.size (T.length + 1) pst0 0) := ⟨by rw [HR.out, polT, if_pos rfl]; rfl⟩
  clear HX3 HQ3 HR
  go_loopg [8, 9, 10] (T.length + 1) (fun gk v8 v9 v10 wr => ∃ (mx df : Bool) (n i c2 a2 : Int), v8 = .bool mx ∧ v9 = .bool df ∧ v10 = .int .i64 n ∧ Aside0 (IsR w2 wr gr T i s.size c2 a2) ∧ Aside0 (Below w2.heap.size w2 wr) ∧ Aside0 (Sit w2 wr gr gp T s.size R gk mx df n i c2 a2))
  case atStart => exact ⟨false, false, 0, 0, 0, 0, rfl, rfl, rfl, HI3, HB3, ⟨.inr ⟨T.length + 1, pst0, 0, _, _, _, _, _, rfl, rfl, rfl, rfl, rfl, rfl, Nat.le_refl _, Nat.le_refl _, HR0.out, HS3.out⟩⟩⟩
  case round =>
   clear HI3 HB3 HS3 HR0
   obtain ⟨mx, df, n, i, c2, a2, rfl, rfl, rfl, HI, HB, HSit⟩ := hrel
   rcases HSit.out with ⟨hc, hi, hR⟩ | ⟨f, st, p, v0, v1, v3, okS, okR, rfl, rfl, rfl, hm, hd, hn, hf, hgk, hR, hS⟩
   ·skip
    have l0 : (c2 != (0 : Int)) = true := by simp [hc]
    have HRE0 : Aside0 (R = .error (c2, a2)) := ⟨hR⟩
    have HC2' := Aside0.mk hc
    go_wp2
    go_quiet ((go_at_call 24; exact Calls.quiet_of_same (bad_quiet w2 _ gr T _ _ c2 a2 _ l0 (IsS67.drewN HI.out _))))
    obtain ⟨w5, hw5⟩ : ∃ w5, w5 = wr.drewN nq := ⟨_, rfl⟩
    rw [← hw5]
    have HI5 : Aside0 (IsR w2 w5 gr T i s.size c2 a2) := ⟨by rw [hw5]; exact IsS67.drewN HI.out _⟩
    have HB5 : Aside0 (Below w2.heap.size w2 w5) := ⟨by rw [hw5]; exact pw_below_drewN HB.out _⟩
    clear hw5 HI HB hc l0
    have hc9 := HC2'.out
    obtain ⟨cE, hcE⟩ : ∃ cE, cE = c2 := ⟨_, rfl⟩
    obtain ⟨p0, hp0⟩ : ∃ p0, p0 = a2 := ⟨_, rfl⟩
    obtain ⟨w9, hw9⟩ : ∃ w9, w9 = w5 := ⟨_, rfl⟩
    have HIX : Aside0 (IsR w2 w9 gr T i s.size cE p0) := ⟨by rw [hcE, hp0, hw9]; exact HI5.out⟩
    have HBX : Aside0 (Below w2.heap.size w2 w9) := ⟨by rw [hw9]; exact HB5.out⟩
    have HRE : Aside0 (R = .error (cE, p0)) := ⟨by rw [hcE, hp0]; exact HRE0.out⟩
    rw [← hw9]
    rw [← hcE] at hc9
    clear hcE hp0 hw9 HI5 HB5 HRE0
    exact sc_bad
   ·by_cases hp : p < n0
    ·skip
     have l1 : decide ((p : Int) < (n0 : Int)) = true := decide_eq_true (by omega)
     have l2 : decide (p < n0) = true := decide_eq_true hp
     have HPT : Aside0 (p < T.length) := ⟨by have := HN0.out; omega⟩
     obtain ⟨f', hf1, hf2⟩ := step_eq hR hf HPT.out
     have HRK : Aside0 (R = itemsK T s.size f' (itemP T s.size st p)) := ⟨hf2⟩
     have HFF : Aside0 (T.length ≤ f' + p) := ⟨hf1⟩
     have HGK : Aside0 (T.length - p + 1 ≤ gk) := ⟨hgk⟩
     obtain ⟨it, hit⟩ : ∃ it, it = st.items := ⟨_, rfl⟩
     obtain rfl : n = (it : Int) := by rw [hit]; exact hn
     have HIT := Aside0.mk hit
     have hli : (it : Int) ≤ 60 := by have := hS.lI; omega
     have HS := Aside0.mk hS
     have HMX := Aside0.mk hm
     have HDF := Aside0.mk hd
     obtain ⟨A1, c1, hb1, _, _⟩ := HI.out
     have t0 : wr.cell? ⟨gr, 0, none⟩ = some (.slice A1 n0 c1) := by rw [HN0.out]; exact cellS67_0 hb1
     have t1 : wr.cell? ⟨gr, 1, none⟩ = some (.int .i64 (p : Int)) := cellS67_1 hb1
     have l0 : ((0 : Int) != 0) = false := by decide
     clear hf1 hf2 hR hf hgk hn hm hd hS hit hp hb1 HSit
     go_wp2
     go_quiet ((go_at_call 24; exact Calls.quiet_of_same (bad_quiet w2 _ gr T _ _ 0 0 _ l0 (IsS67.drewN HI.out _))))
     obtain ⟨w5, hw5⟩ : ∃ w5, w5 = wr.drewN nq := ⟨_, rfl⟩
     rw [← hw5]
     have HI5 : Aside0 (IsR w2 w5 gr T (p : Int) s.size 0 0) := ⟨by rw [hw5]; exact IsS67.drewN HI.out _⟩
     have HB5 : Aside0 (Below w2.heap.size w2 w5) := ⟨by rw [hw5]; exact pw_below_drewN HB.out _⟩
     have HS5 : Aside0 (RS w2 w5 gr gp v0 v1 v3 st okS okR) := ⟨by rw [hw5]; exact HS.out.drewN _⟩
     clear hw5 t0 t1 l0 l1 l2 HI HB HS
     have h6 := r_kind (T := T) (e := s.size) p HI5.out HB5.out
     obtain ⟨tk, htk⟩ : ∃ tk, tk = nxt T s.size p := ⟨_, rfl⟩
     rw [← htk] at h6
     obtain ⟨k0, p0, wd⟩ := tk
     dsimp only at h6
     have H6 := Aside0.mk h6
     have HTK2 := Aside0.mk htk
     clear h6 htk
     go_wp2_with fail
     refine H6.out.mono ?_
     rintro e w6 ⟨rfl, hs, hb, hk⟩
     dsimp only
     have HI6 := Aside0.mk hs
     have HB6 := Aside0.mk hb
     have HS6 : Aside0 (RS w2 w6 gr gp v0 v1 v3 st okS okR) := ⟨HS5.out.keep hk⟩
     clear hs hb hk HI5 HB5 HS5 H6
     by_cases hk0 : k0 = 1
     ·subst hk0
      obtain ⟨A6, c6, hb6, _, hC6⟩ := HI6.out
      obtain ⟨ad, hA1, _, _, q2⟩ := at_T40 hC6 (p : Int) (by omega) (by have := HPT.out; omega)
      have hA2 : A6 = some ad := hA1
      subst hA2
      change _ = some (Value.string (rtok T (p : Int)).f2) at q2
      rw [rtok_nxt (e := s.size) HPT.out, ← HTK2.out] at q2
      dsimp only at q2
      simp only [Int.toNat_natCast] at q2
      replace q2 := (HB6.out.cell (World.block_lt_of_cell? w2 _ q2)).trans q2
      have hbl := World.block_lt_of_cell? w6 _ q2
      have t0 : w6.cell? ⟨gr, 0, none⟩ = some (.slice (some ad) n0 c6) := by rw [HN0.out]; exact cellS67_0 hb6
      have t1 : w6.cell? ⟨gr, 1, none⟩ = some (.int .i64 (p : Int)) := cellS67_1 hb6
      have hlt2 : (p : Int) < (n0 : Int) := by have := HPT.out; have := HN0.out; omega
      clear hb6 hC6 hA1
      go_wp2
      go_quiet (fail)
      obtain ⟨w7, hw7⟩ : ∃ w7, w7 = w6.drewN nq := ⟨_, rfl⟩
      rw [← hw7]
      have HI7 : Aside0 (IsR w2 w7 gr T (p : Int) s.size 0 0) := ⟨by rw [hw7]; exact IsS67.drewN HI6.out _⟩
      have HB7 : Aside0 (Below w2.heap.size w2 w7) := ⟨by rw [hw7]; exact pw_below_drewN HB6.out _⟩
      have HS7 : Aside0 (RS w2 w7 gr gp v0 v1 v3 st okS okR) := ⟨by rw [hw7]; exact HS6.out.drewN _⟩
      clear hw7 q2 hbl t0 t1 HI6 HB6 HS6
      cases hmem : memB wd six with
      | false =>
       have HMEM := Aside0.mk hmem
       clear hmem
       have hin := parapetref1_In.calls (six.length + 1) wd (some ⟨w7.heap.size, 0, none⟩) 6 six _ (w7.alloc (.cells #[.string wCsp, .string wShare, .string wMixed, .string wDefault, .string wAllow, .string wDeny] 9)) (lit_strs w7 six (by decide)) (Nat.le_refl _) (in_f wd six (by decide))
       rw [HMEM.out] at hin
       have HIN := Aside0.mk hin
       clear hin
       go_wp2_with fail
       refine HIN.out.mono ?_
       rintro e w8 ⟨rfl, ⟨⟨nd, hw8⟩⟩⟩
       dsimp only
       have HI8 : Aside0 (IsR w2 w8 gr T (p : Int) s.size 0 0) := ⟨by rw [hw8]; exact IsS67.drewN (IsS67.alloc HI7.out _) _⟩
       have HB8 : Aside0 (Below w2.heap.size w2 w8) := ⟨by rw [hw8]; exact pw_below_drewN (below_alloc HB7.out _) _⟩
       have HS8 : Aside0 (RS w2 w8 gr gp v0 v1 v3 st okS okR) := ⟨by rw [hw8]; exact (HS7.out.keep (keep_alloc (KeepBut.refl _ _ _) _)).drewN _⟩
       clear hw8 HIN
       have HRE0 : Aside0 (R = .error (8, p0)) := ⟨by rw [HRK.out, item_no HTK2.out (by rw [HMEM.out]; rfl)]; rfl⟩
       go_wp2_with fail
       refine (r_wrong (T := T) (e := s.size) p 8 HI8.out HB8.out).mono ?_
       rintro e w9 ⟨rfl, hs, hb, hk⟩
       dsimp only
       have HIX := Aside0.mk hs
       have HBX := Aside0.mk hb
       have HKX := Aside0.mk hk
       clear hs hb hk
       rw [← HTK2.out] at HIX
       have hc9 : (8 : Int) ≠ 0 := by decide
       obtain ⟨cE, hcE⟩ : ∃ cE : Int, cE = 8 := ⟨_, rfl⟩
       rw [← hcE] at HIX hc9 HRE0
       have HRE := HRE0
       clear hcE HRE0
       exact sc_bad
      | true =>
       have HMEM := Aside0.mk hmem
       clear hmem
       have hin := parapetref1_In.calls (six.length + 1) wd (some ⟨w7.heap.size, 0, none⟩) 6 six _ (w7.alloc (.cells #[.string wCsp, .string wShare, .string wMixed, .string wDefault, .string wAllow, .string wDeny] 9)) (lit_strs w7 six (by decide)) (Nat.le_refl _) (in_f wd six (by decide))
       rw [HMEM.out] at hin
       have HIN := Aside0.mk hin
       clear hin
       go_wp2_with fail
       refine HIN.out.mono ?_
       rintro e w8 ⟨rfl, ⟨⟨nd, hw8⟩⟩⟩
       dsimp only
       have HI8 : Aside0 (IsR w2 w8 gr T (p : Int) s.size 0 0) := ⟨by rw [hw8]; exact IsS67.drewN (IsS67.alloc HI7.out _) _⟩
       have HB8 : Aside0 (Below w2.heap.size w2 w8) := ⟨by rw [hw8]; exact pw_below_drewN (below_alloc HB7.out _) _⟩
       have HS8 : Aside0 (RS w2 w8 gr gp v0 v1 v3 st okS okR) := ⟨by rw [hw8]; exact (HS7.out.keep (keep_alloc (KeepBut.refl _ _ _) _)).drewN _⟩
       clear hw8 HIN
       clear HI7 HB7 HS7
       rcases six_of HMEM.out with hwd | hwd | hwd | hwd | hwd
       ·skip
        have ts0 : (wd.toList == [99, 115, 112]) = true := (eq_word (w := wd) (a := wCsp) (by decide +kernel)).trans (decide_eq_true hwd)
        have ts1 : (wd.toList == [115, 104, 97, 114, 101]) = false := (eq_word (w := wd) (a := wShare) (by decide +kernel)).trans (decide_eq_false (by rw [hwd]; decide +kernel))
        have ts2 : (wd.toList == [109, 105, 120, 101, 100]) = false := (eq_word (w := wd) (a := wMixed) (by decide +kernel)).trans (decide_eq_false (by rw [hwd]; decide +kernel))
        have ts3 : (wd.toList == [100, 101, 102, 97, 117, 108, 116]) = false := (eq_word (w := wd) (a := wDefault) (by decide +kernel)).trans (decide_eq_false (by rw [hwd]; decide +kernel))
        have HWD := Aside0.mk hwd
        clear hwd
        by_cases hbig : 60 ≤ it
        ·exact sTe10_1
        ·have l3 : decide ((60 : Int) ≤ (it : Int)) = false := decide_eq_false (by omega)
         have HIL : Aside0 (it < 60) := ⟨by omega⟩
         have HRW : Aside0 (R = itemsK T s.size f' (itemK T s.size { st with items := st.items + 1 } wd (p + 1))) := ⟨by rw [HRK.out, item_in HTK2.out HMEM.out, if_neg (by rw [HWD.out]; decide +kernel), if_neg (by rw [HWD.out]; decide +kernel), if_neg (by have := HIT.out; omega)]⟩
         obtain ⟨s5, hs5⟩ : ∃ s5, s5 = ({ st with items := st.items + 1 } : Pst) := ⟨_, rfl⟩
         rw [← hs5] at HRW
         have HS5 : Aside0 (RS w2 w8 gr gp v0 v1 v3 s5 okS okR) := ⟨by rw [hs5]; exact HS8.out.count (by have := HIL.out; have := HIT.out; omega)⟩
         have HLN5 : Aside0 (s5.csp.length + 1 ≤ s5.items ∧ s5.shares.length + 1 ≤ s5.items ∧ s5.rules.length + 1 ≤ s5.items) := ⟨by rw [hs5]; exact ⟨Nat.succ_le_succ HS8.out.lC, Nat.succ_le_succ HS8.out.lS, Nat.succ_le_succ HS8.out.lR⟩⟩
         have HCN : Aside0 (Cnt mx df (it : Int) p (p + 1) f' T s5) := ⟨⟨by rw [hs5]; exact HMX.out, by rw [hs5]; exact HDF.out, by have := HIT.out; rw [hs5]; show ((it : Int)) + 1 = ((st.items + 1 : Nat) : Int); omega, rfl, HFF.out⟩⟩
         clear hs5 hbig HS8 HRK
         obtain ⟨A8, c8, hb8, _, _⟩ := HI8.out
         have t1 : w8.cell? ⟨gr, 1, none⟩ = some (.int .i64 (p : Int)) := cellS67_1 hb8
         have f1 := blk_frozen hb8 1
         have hjb : (p : Int) ≤ 1000000 := by have := HLN.out; have := HPT.out; omega
         clear hb8
         go_upto_region 21 with (fail)
         obtain ⟨w9, hw9⟩ : ∃ w9, w9 = w8.setCell ⟨gr, 1, none⟩ (.int .i64 ((p : Int) + 1)) := ⟨_, rfl⟩
         rw [← hw9]
         have HI9 : Aside0 (IsR w2 w9 gr T ((p + 1 : Nat) : Int) s.size 0 0) := ⟨by rw [hw9, Int.natCast_add]; exact IsS67.set_1 HI8.out _⟩
         have HB9 : Aside0 (Below w2.heap.size w2 w9) := ⟨by rw [hw9]; exact HB8.out.setCell (p := ⟨gr, 1, none⟩) (IsS67.ge HI8.out) _⟩
         have HS9 : Aside0 (RS w2 w9 gr gp v0 v1 v3 s5 okS okR) := ⟨by rw [hw9]; exact HS5.out.kept (Kept.setCell (S := fun k => k = gr) (p := ⟨gr, 1, none⟩) (Kept.refl _ _) (.inl rfl) _)⟩
         clear hw9 t1 f1 hjb HS5 HI8 HB8
         obtain ⟨t, i7, c7, a7, hQ, hC⟩ := r_next (w0 := w2) (w := w9.drew) (g := gr) (T := T) (e := s.size) 2 (p + 1) (by decide) HLN.out HI9.out (below_drew HB9.out)
         have HRX : Aside0 (R = itemsK T s.size f' (cspK s5 (takeP T s.size 2 (p + 1)))) := ⟨by rw [HRW.out, itemK_csp HWD.out]⟩
         have HQ := Aside0.mk hQ
         have HC := Aside0.mk hC
         have HLB : Aside0 ((s5.csp.length + 1) * 16 ≤ 140737488355328) := ⟨by have := HLN5.out.1; have := HS9.out.lI; omega⟩
         have d0 : w9.drew.cell? ⟨gp, 0, none⟩ = some v0 := blk_cell HS9.out.blk 0
         clear hQ hC HRW
         go_upto_region 26 with (fail)
         refine start_ (n := 8) (S := fun w' => w'.cell? ⟨gp, 0, none⟩ = some v0) (ds := [5, 7]) #[false, false, false, false, false, false, false, false] (by kernel_rfl) rfl rfl (d0) (fun hHeld => ?_)
         refine pure_ (i := 0) (N := some 108) (v := ?_) (a' := ?_) #[true, false, false, false, false, false, false, false] rfl rfl (by kernel_rfl) (fun _ _ _ h => h) (Or.inl ⟨by rfl, ?_⟩) ?_ ?_
         rotate_left
         ·exact sTe10_0
         rotate_left
         ·exact nTe10_
         refine pure_ (i := 2) (N := some 110) (v := ?_) (a' := ?_) #[true, false, true, false, false, false, false, false] rfl rfl (by kernel_rfl) (fun _ _ _ h => h) (Or.inl ⟨by rfl, ?_⟩) ?_ ?_
         rotate_left
         ·exact sTe10_0
         rotate_left
         ·exact nTe10_
         refine take_ (i := 1) (N := some 109) (v := ?_) (a' := ?_) #[true, true, true, false, false, false, false, false] rfl rfl (by kernel_rfl) (fun _ _ _ h => h) (Or.inl ⟨by rfl, ?_⟩) hHeld ?_ ?_
         rotate_left
         ·intro w' s0
          go_simp
          with_reducible rfl
         rotate_left
         ·exact nTe10_
         refine one_ (i := 3) (N := some 111) #[true, true, true, true, false, false, false, false] rfl rfl (by kernel_rfl) (by decide) (fun K hK => ?_)
         refine goes_ Tryd.func28 (by kernel_rfl) rfl #[.pointer (some ⟨gr, 0, none⟩), .int .i64 2] (by rfl) rfl rfl (by simp only [List.map_toArray, List.map_cons, List.map_nil]; rfl) ?_
         refine HC.out.mono ?_
         rintro e w11 ⟨rfl, hi11, hb11, hk11⟩
         refine ⟨_, rfl, ?_⟩
         have HI11 := Aside0.mk hi11
         have HB11 := Aside0.mk hb11
         have HS11 : Aside0 (RS w2 w11 gr gp v0 v1 v3 s5 okS okR) := ⟨HS9.out.keep hk11⟩
         clear hi11 hb11 hk11
         refine hK.out _ _ ((blk_cell HS11.out.blk 0)) (fun hHeld => ?_)
         clear hK K
         refine norm_ (a' := ?_) ?_ ?_
         rotate_left
         ·show Act.put _ (some 111) _ = _
          exact nTe10_
         refine one_ (i := 4) (N := some 112) #[true, true, true, true, true, false, false, false] rfl rfl (by kernel_rfl) (by decide) (fun K hK => ?_)
         refine value_ (w1 := ?_) (v := ?_) (by rfl) rfl ?_ ?_
         rotate_left 2
         ·go_simp
          constructor
          ·rfl
          ·rfl
         refine hK.out _ _ ((blk_cell (show (w11.alloc _).heap[gp]? = _ from blk_alloc HS11.out.blk _) 0)) (fun hHeld => ?_)
         clear hK K
         refine norm_ (a' := ?_) ?_ ?_
         rotate_left
         ·show Act.put _ (some 112) _ = _
          exact nTe10_
         refine last_ (i := 5) (N := some 113) #[true, true, true, true, true, true, false, false] rfl rfl (by kernel_rfl) (by decide) (fun K hK => ?_)
         refine Kd.R_append_step Kd.string (w0 := w2) (W := w11) w2.heap.size (by rfl) _ _ 23 9 (.string ⟨#[]⟩) 16 rfl Tryd.underlying23 info_str rfl (by decide) (by decide) v0 s5.csp t [.string t] (fun _ => True) (fun _ => False) rfl rfl rfl (fun _ hk => hk.elim) (fun _ _ => trivial) HS11.out.rC HB11.out HB11.out.size HLB.out ?_
         intro v12 w12 hO12 hB12 hG12 hat12
         have HI13 : Aside0 (IsR w2 (w12.setCell ⟨gp, 0, none⟩ v12) gr T i7 s.size c7 a7) := ⟨IsS67.far (IsS67.grown HI11.out hG12 (fun he => (HS11.out.dC gr he.symm).1 rfl)) (p := ⟨gp, 0, none⟩) HS11.out.ng _⟩
         have HB13 : Aside0 (Below w2.heap.size w2 (w12.setCell ⟨gp, 0, none⟩ v12)) := ⟨hB12.setCell (p := ⟨gp, 0, none⟩) HS11.out.lg _⟩
         have HM13 : Aside0 (MidQ w2 (w12.setCell ⟨gp, 0, none⟩ v12) gr gp T s.size R p mx df (it : Int) i7 c7 a7) := ⟨mid_csp HQ.out HRX.out (HS11.out.csp hO12 hG12 hat12 HLN5.out.1) HCN.out⟩
         have hp12 : w12.heap[gp]? = some (.cells (polcells v0 v1 s5.mixed v3 s5.allow) 27 (0, 0)) := (hG12.block gp (blk_lt HS11.out.blk) (fun he => (HS11.out.dC gp he.symm).2.1 rfl)).trans HS11.out.blk
         obtain ⟨A12, c12, e12⟩ := Kd.R_slice hO12
         obtain ⟨n12, hn12⟩ : ∃ n12, n12 = (s5.csp ++ [t]).length := ⟨_, rfl⟩
         rw [← hn12] at e12
         subst e12
         have e4 : w12.cell? ⟨gp, 0, none⟩ = some v0 := blk_cell hp12 0
         have f4 := blk_frozen hp12 0
         clear hO12 hB12 hG12 hat12 hp12 hn12
         refine hK.out _ _ ?_
         clear hK K
         refine norm_ (a' := ?_) ?_ ?_
         rotate_left
         ·show Act.put _ (some 113) _ = _
          exact nTe10_
         refine pure_ (i := 6) (N := some 114) (v := ?_) (a' := ?_) #[true, true, true, true, true, true, true, false] rfl rfl (by kernel_rfl) (fun _ _ _ h => h) (Or.inl ⟨by rfl, ?_⟩) ?_ ?_
         rotate_left
         ·exact sTe10_0
         rotate_left
         ·exact nTe10_
         refine last_ (i := 7) (N := none) #[true, true, true, true, true, true, true, true] rfl rfl (by kernel_rfl) (by decide) (fun K hK => ?_)
         refine skip_ (w1 := ?_) (by rfl) rfl ?_ ?_
         rotate_left
         ·go_simp
          rfl
         refine hK.out _ _ ?_
         clear hK K
         refine done_ (by kernel_rfl) ?_

         have HIR := HI13
         have HBR := HB13
         have HMR := HM13
         exact sc_round
       ·skip
        have ts0 : (wd.toList == [99, 115, 112]) = false := (eq_word (w := wd) (a := wCsp) (by decide +kernel)).trans (decide_eq_false (by rw [hwd]; decide +kernel))
        have ts1 : (wd.toList == [115, 104, 97, 114, 101]) = true := (eq_word (w := wd) (a := wShare) (by decide +kernel)).trans (decide_eq_true hwd)
        have ts2 : (wd.toList == [109, 105, 120, 101, 100]) = false := (eq_word (w := wd) (a := wMixed) (by decide +kernel)).trans (decide_eq_false (by rw [hwd]; decide +kernel))
        have ts3 : (wd.toList == [100, 101, 102, 97, 117, 108, 116]) = false := (eq_word (w := wd) (a := wDefault) (by decide +kernel)).trans (decide_eq_false (by rw [hwd]; decide +kernel))
        have HWD := Aside0.mk hwd
        clear hwd
        by_cases hbig : 60 ≤ it
        ·exact sTe10_1
        ·have l3 : decide ((60 : Int) ≤ (it : Int)) = false := decide_eq_false (by omega)
         have HIL : Aside0 (it < 60) := ⟨by omega⟩
         have HRW : Aside0 (R = itemsK T s.size f' (itemK T s.size { st with items := st.items + 1 } wd (p + 1))) := ⟨by rw [HRK.out, item_in HTK2.out HMEM.out, if_neg (by rw [HWD.out]; decide +kernel), if_neg (by rw [HWD.out]; decide +kernel), if_neg (by have := HIT.out; omega)]⟩
         obtain ⟨s5, hs5⟩ : ∃ s5, s5 = ({ st with items := st.items + 1 } : Pst) := ⟨_, rfl⟩
         rw [← hs5] at HRW
         have HS5 : Aside0 (RS w2 w8 gr gp v0 v1 v3 s5 okS okR) := ⟨by rw [hs5]; exact HS8.out.count (by have := HIL.out; have := HIT.out; omega)⟩
         have HLN5 : Aside0 (s5.csp.length + 1 ≤ s5.items ∧ s5.shares.length + 1 ≤ s5.items ∧ s5.rules.length + 1 ≤ s5.items) := ⟨by rw [hs5]; exact ⟨Nat.succ_le_succ HS8.out.lC, Nat.succ_le_succ HS8.out.lS, Nat.succ_le_succ HS8.out.lR⟩⟩
         have HCN : Aside0 (Cnt mx df (it : Int) p (p + 1) f' T s5) := ⟨⟨by rw [hs5]; exact HMX.out, by rw [hs5]; exact HDF.out, by have := HIT.out; rw [hs5]; show ((it : Int)) + 1 = ((st.items + 1 : Nat) : Int); omega, rfl, HFF.out⟩⟩
         clear hs5 hbig HS8 HRK
         obtain ⟨A8, c8, hb8, _, _⟩ := HI8.out
         have t1 : w8.cell? ⟨gr, 1, none⟩ = some (.int .i64 (p : Int)) := cellS67_1 hb8
         have f1 := blk_frozen hb8 1
         have hjb : (p : Int) ≤ 1000000 := by have := HLN.out; have := HPT.out; omega
         clear hb8
         go_upto_region 21 with (fail)
         obtain ⟨w9, hw9⟩ : ∃ w9, w9 = w8.setCell ⟨gr, 1, none⟩ (.int .i64 ((p : Int) + 1)) := ⟨_, rfl⟩
         rw [← hw9]
         have HI9 : Aside0 (IsR w2 w9 gr T ((p + 1 : Nat) : Int) s.size 0 0) := ⟨by rw [hw9, Int.natCast_add]; exact IsS67.set_1 HI8.out _⟩
         have HB9 : Aside0 (Below w2.heap.size w2 w9) := ⟨by rw [hw9]; exact HB8.out.setCell (p := ⟨gr, 1, none⟩) (IsS67.ge HI8.out) _⟩
         have HS9 : Aside0 (RS w2 w9 gr gp v0 v1 v3 s5 okS okR) := ⟨by rw [hw9]; exact HS5.out.kept (Kept.setCell (S := fun k => k = gr) (p := ⟨gr, 1, none⟩) (Kept.refl _ _) (.inl rfl) _)⟩
         clear hw9 t1 f1 hjb HS5 HI8 HB8
         have hC := rshare_calls w2 w9.drew gr T s.size (p + 1) HI9.out (below_drew HB9.out) HLN.out
         have HRX : Aside0 (R = itemsK T s.size f' (shaK s5 (shareP T s.size (p + 1)))) := ⟨by rw [HRW.out, itemK_share (by rw [HWD.out]; decide +kernel) HWD.out]⟩
         have HC := Aside0.mk hC
         have HLB : Aside0 ((s5.shares.length + 1) * 72 ≤ 140737488355328) := ⟨by have := HLN5.out.2.1; have := HS9.out.lI; omega⟩
         have d0 : w9.drew.cell? ⟨gp, 1, none⟩ = some v1 := blk_cell HS9.out.blk 1
         have HSD : Aside0 (RS w2 w9.drew gr gp v0 v1 v3 s5 okS okR) := ⟨HS9.out.drewN 1⟩
         have HGG : Aside0 (gr < w9.drew.heap.size ∧ gp < w9.drew.heap.size) := ⟨⟨HS9.out.lr, blk_lt HS9.out.blk⟩⟩
         have HOK : Aside0 (∀ k, w9.drew.heap.size ≤ k → (okS k ∨ w9.drew.heap.size ≤ k) ∧ some k ≠ v1.ownBlock) := ⟨fun k hk => ⟨.inr hk, fun he => by have := Kd.R_lt HSD.out.rS k he.symm; omega⟩⟩
         clear hC HRW
         go_upto_region 28 with (fail)
         refine start_ (n := 8) (S := fun w' => w'.cell? ⟨gp, 1, none⟩ = some v1) (ds := [5, 7]) #[false, false, false, false, false, false, false, false] (by kernel_rfl) rfl rfl (d0) (fun hHeld => ?_)
         refine pure_ (i := 0) (N := some 117) (v := ?_) (a' := ?_) #[true, false, false, false, false, false, false, false] rfl rfl (by kernel_rfl) (fun _ _ _ h => h) (Or.inl ⟨by rfl, ?_⟩) ?_ ?_
         rotate_left
         ·exact sTe10_0
         rotate_left
         ·exact nTe10_
         refine pure_ (i := 2) (N := some 119) (v := ?_) (a' := ?_) #[true, false, true, false, false, false, false, false] rfl rfl (by kernel_rfl) (fun _ _ _ h => h) (Or.inl ⟨by rfl, ?_⟩) ?_ ?_
         rotate_left
         ·exact sTe10_0
         rotate_left
         ·exact nTe10_
         refine take_ (i := 1) (N := some 118) (v := ?_) (a' := ?_) #[true, true, true, false, false, false, false, false] rfl rfl (by kernel_rfl) (fun _ _ _ h => h) (Or.inl ⟨by rfl, ?_⟩) hHeld ?_ ?_
         rotate_left
         ·intro w' s0
          go_simp
          with_reducible rfl
         rotate_left
         ·exact nTe10_
         refine one_ (i := 3) (N := some 120) #[true, true, true, true, false, false, false, false] rfl rfl (by kernel_rfl) (by decide) (fun K hK => ?_)
         refine goes_ Tryd.func29 (by kernel_rfl) rfl #[.pointer (some ⟨gr, 0, none⟩)] (by rfl) rfl rfl (by simp only [List.map_toArray, List.map_cons, List.map_nil]; rfl) ?_
         refine HC.out.mono ?_
         rintro e w11 ⟨h7, i7, c7, a7, x1, x2, hq7, rfl, g1, g2, hi11, hb11, hk11⟩
         refine ⟨_, rfl, ?_⟩
         have HQ := Aside0.mk hq7
         have HI11 := Aside0.mk hi11
         have HB11 := Aside0.mk hb11
         have HS11 : Aside0 (RS w2 w11 gr gp v0 v1 v3 s5 okS okR) := ⟨HSD.out.keep hk11⟩
         have HZ11 : Aside0 (w9.drew.heap.size ≤ w11.heap.size) := ⟨hk11.1⟩
         have HMM : Aside0 (k44.M w11 w2.heap.size (fun k => w9.drew.heap.size ≤ k) h7 [.string h7.f0, x1, x2, .bool h7.f3]) := ⟨k44_mkM w11 w2.heap.size _ h7 g1 g2⟩
         have HFR : Aside0 (∀ k, w11.heap.size ≤ k → okS k ∨ w9.drew.heap.size ≤ k) := ⟨fun k hk => .inr (Nat.le_trans HZ11.out hk)⟩
         have HR11 : Aside0 (k44.R 44 w11 w2.heap.size (fun k => okS k ∨ w9.drew.heap.size ≤ k) v1 s5.shares) := ⟨Kd.R_mono HS11.out.rS (fun k hk => .inl hk)⟩
         clear hi11 hb11 hk11 g1 g2 hq7
         refine hK.out _ _ ((blk_cell HS11.out.blk 1)) (fun hHeld => ?_)
         clear hK K
         refine norm_ (a' := ?_) ?_ ?_
         rotate_left
         ·show Act.put _ (some 120) _ = _
          exact nTe10_
         refine one_ (i := 4) (N := some 121) #[true, true, true, true, true, false, false, false] rfl rfl (by kernel_rfl) (by decide) (fun K hK => ?_)
         refine value_ (w1 := ?_) (v := ?_) (by rfl) rfl ?_ ?_
         rotate_left 2
         ·go_simp
          constructor
          ·rfl
          ·rfl
         refine hK.out _ _ ((blk_cell (show (w11.alloc _).heap[gp]? = _ from blk_alloc HS11.out.blk _) 1)) (fun hHeld => ?_)
         clear hK K
         refine norm_ (a' := ?_) ?_ ?_
         rotate_left
         ·show Act.put _ (some 121) _ = _
          exact nTe10_
         refine last_ (i := 5) (N := some 122) #[true, true, true, true, true, true, false, false] rfl rfl (by kernel_rfl) (by decide) (fun K hK => ?_)
         refine Kd.R_append_step k44 (w0 := w2) (W := w11) w2.heap.size (by rfl) _ _ 24 44 _ 72 rfl Tryd.underlying24 info_sh rfl (by decide) (by decide) v1 s5.shares h7 [.string h7.f0, x1, x2, .bool h7.f3] (fun k => okS k ∨ w9.drew.heap.size ≤ k) (fun k => w9.drew.heap.size ≤ k) rfl rfl HMM.out HOK.out HFR.out HR11.out HB11.out HB11.out.size HLB.out ?_
         intro v12 w12 hO12 hB12 hG12 hat12
         have HI13 : Aside0 (IsR w2 (w12.setCell ⟨gp, 1, none⟩ v12) gr T i7 s.size c7 a7) := ⟨IsS67.far (IsS67.grown HI11.out hG12 (fun he => (HS11.out.bS gr (HS11.out.rS.1 gr he.symm)).2.2.1 rfl)) (p := ⟨gp, 1, none⟩) HS11.out.ng _⟩
         have HB13 : Aside0 (Below w2.heap.size w2 (w12.setCell ⟨gp, 1, none⟩ v12)) := ⟨hB12.setCell (p := ⟨gp, 1, none⟩) HS11.out.lg _⟩
         have HM13 : Aside0 (MidQ w2 (w12.setCell ⟨gp, 1, none⟩ v12) gr gp T s.size R p mx df (it : Int) i7 c7 a7) := ⟨mid_sha HQ.out HRX.out (RS.share HSD.out HS11.out HZ11.out hO12 hG12 HLN5.out.2.1 HB9.out.size HGG.out) HCN.out⟩
         have hp12 : w12.heap[gp]? = some (.cells (polcells v0 v1 s5.mixed v3 s5.allow) 27 (0, 0)) := (hG12.block gp (blk_lt HS11.out.blk) (fun he => (HS11.out.bS gp (HS11.out.rS.1 gp he.symm)).2.2.2.1 rfl)).trans HS11.out.blk
         obtain ⟨A12, c12, e12⟩ := Kd.R_slice hO12
         obtain ⟨n12, hn12⟩ : ∃ n12, n12 = (s5.shares ++ [h7]).length := ⟨_, rfl⟩
         rw [← hn12] at e12
         subst e12
         have e4 : w12.cell? ⟨gp, 1, none⟩ = some v1 := blk_cell hp12 1
         have f4 := blk_frozen hp12 1
         clear hO12 hB12 hG12 hat12 hp12 hn12
         refine hK.out _ _ ?_
         clear hK K
         refine norm_ (a' := ?_) ?_ ?_
         rotate_left
         ·show Act.put _ (some 122) _ = _
          exact nTe10_
         refine pure_ (i := 6) (N := some 123) (v := ?_) (a' := ?_) #[true, true, true, true, true, true, true, false] rfl rfl (by kernel_rfl) (fun _ _ _ h => h) (Or.inl ⟨by rfl, ?_⟩) ?_ ?_
         rotate_left
         ·exact sTe10_0
         rotate_left
         ·exact nTe10_
         refine last_ (i := 7) (N := none) #[true, true, true, true, true, true, true, true] rfl rfl (by kernel_rfl) (by decide) (fun K hK => ?_)
         refine skip_ (w1 := ?_) (by rfl) rfl ?_ ?_
         rotate_left
         ·go_simp
          rfl
         refine hK.out _ _ ?_
         clear hK K
         refine done_ (by kernel_rfl) ?_

         have HIR := HI13
         have HBR := HB13
         have HMR := HM13
         exact sc_round
       ·skip
        have ts0 : (wd.toList == [99, 115, 112]) = false := (eq_word (w := wd) (a := wCsp) (by decide +kernel)).trans (decide_eq_false (by rw [hwd]; decide +kernel))
        have ts1 : (wd.toList == [115, 104, 97, 114, 101]) = false := (eq_word (w := wd) (a := wShare) (by decide +kernel)).trans (decide_eq_false (by rw [hwd]; decide +kernel))
        have ts2 : (wd.toList == [109, 105, 120, 101, 100]) = true := (eq_word (w := wd) (a := wMixed) (by decide +kernel)).trans (decide_eq_true hwd)
        have ts3 : (wd.toList == [100, 101, 102, 97, 117, 108, 116]) = false := (eq_word (w := wd) (a := wDefault) (by decide +kernel)).trans (decide_eq_false (by rw [hwd]; decide +kernel))
        have HWD := Aside0.mk hwd
        clear hwd
        cases mx with
        | true =>
         have HM1 : Aside0 (st.metM = 1) := ⟨of_decide_eq_true HMX.out.symm⟩
         have HRE0 : Aside0 (R = .error (10, p0)) := ⟨by rw [HRK.out, item_in HTK2.out HMEM.out, if_pos HWD.out, if_pos (by have := HM1.out; omega)]; rfl⟩
         go_wp2_with fail
         refine (r_wrong (T := T) (e := s.size) p 10 HI8.out HB8.out).mono ?_
         rintro e w9 ⟨rfl, hs, hb, hk⟩
         dsimp only
         have HIX := Aside0.mk hs
         have HBX := Aside0.mk hb
         have HKX := Aside0.mk hk
         clear hs hb hk
         rw [← HTK2.out] at HIX
         have hc9 : (10 : Int) ≠ 0 := by decide
         obtain ⟨cE, hcE⟩ : ∃ cE : Int, cE = 10 := ⟨_, rfl⟩
         rw [← hcE] at HIX hc9 HRE0
         have HRE := HRE0
         clear hcE HRE0
         exact sc_bad
        | false =>
         have HM0 : Aside0 (st.metM = 0) := ⟨by have := of_decide_eq_false HMX.out.symm; have := HS8.out.lM; omega⟩
         by_cases hbig : 60 ≤ it
         ·have l3 : decide ((60 : Int) ≤ (it : Int)) = true := decide_eq_true (by omega)
          have HRE0 : Aside0 (R = .error (2, p0)) := ⟨by rw [HRK.out, item_in HTK2.out HMEM.out, if_pos HWD.out, if_neg (by have := HM0.out; omega), if_pos (by have := HIT.out; omega)]; rfl⟩
          go_wp2_with fail
          refine (r_wrong (T := T) (e := s.size) p 2 HI8.out HB8.out).mono ?_
          rintro e w9 ⟨rfl, hs, hb, hk⟩
          dsimp only
          have HIX := Aside0.mk hs
          have HBX := Aside0.mk hb
          have HKX := Aside0.mk hk
          clear hs hb hk
          rw [← HTK2.out] at HIX
          have hc9 : (2 : Int) ≠ 0 := by decide
          obtain ⟨cE, hcE⟩ : ∃ cE : Int, cE = 2 := ⟨_, rfl⟩
          rw [← hcE] at HIX hc9 HRE0
          have HRE := HRE0
          clear hcE HRE0
          exact sc_bad
         ·have l3 : decide ((60 : Int) ≤ (it : Int)) = false := decide_eq_false (by omega)
          have HIL : Aside0 (it < 60) := ⟨by omega⟩
          have HRW : Aside0 (R = itemsK T s.size f' (itemK T s.size { st with metM := st.metM + 1, items := st.items + 1 } wd (p + 1))) := ⟨by rw [HRK.out, item_in HTK2.out HMEM.out, if_pos HWD.out, if_neg (by have := HM0.out; omega), if_neg (by have := HIT.out; omega)]⟩
          obtain ⟨s5, hs5⟩ : ∃ s5, s5 = ({ st with metM := st.metM + 1, items := st.items + 1 } : Pst) := ⟨_, rfl⟩
          rw [← hs5] at HRW
          have HS5 : Aside0 (RS w2 w8 gr gp v0 v1 v3 s5 okS okR) := ⟨by rw [hs5]; exact (HS8.out.count (by have := HIL.out; have := HIT.out; omega)).metM HM0.out⟩
          have HLN5 : Aside0 (s5.csp.length + 1 ≤ s5.items ∧ s5.shares.length + 1 ≤ s5.items ∧ s5.rules.length + 1 ≤ s5.items) := ⟨by rw [hs5]; exact ⟨Nat.succ_le_succ HS8.out.lC, Nat.succ_le_succ HS8.out.lS, Nat.succ_le_succ HS8.out.lR⟩⟩
          have HCN : Aside0 (Cnt true df (it : Int) p (p + 1) f' T s5) := ⟨⟨by rw [hs5]; exact (decide_eq_true (by show st.metM + 1 = 1; have := HM0.out; omega)).symm, by rw [hs5]; exact HDF.out, by have := HIT.out; rw [hs5]; show ((it : Int)) + 1 = ((st.items + 1 : Nat) : Int); omega, rfl, HFF.out⟩⟩
          have HMN : Aside0 (s5.metM ≠ 0) := ⟨by rw [hs5]; exact Nat.succ_ne_zero _⟩
          have HMB : Aside0 (s5.mixed = wBlock) := ⟨by rw [hs5]; exact HS8.out.eM HM0.out⟩
          clear hs5 hbig HS8 HRK
          obtain ⟨A8, c8, hb8, _, _⟩ := HI8.out
          have t1 : w8.cell? ⟨gr, 1, none⟩ = some (.int .i64 (p : Int)) := cellS67_1 hb8
          have f1 := blk_frozen hb8 1
          have hjb : (p : Int) ≤ 1000000 := by have := HLN.out; have := HPT.out; omega
          clear hb8
          go_upto_region 21 with (fail)
          obtain ⟨w9, hw9⟩ : ∃ w9, w9 = w8.setCell ⟨gr, 1, none⟩ (.int .i64 ((p : Int) + 1)) := ⟨_, rfl⟩
          rw [← hw9]
          have HI9 : Aside0 (IsR w2 w9 gr T ((p + 1 : Nat) : Int) s.size 0 0) := ⟨by rw [hw9, Int.natCast_add]; exact IsS67.set_1 HI8.out _⟩
          have HB9 : Aside0 (Below w2.heap.size w2 w9) := ⟨by rw [hw9]; exact HB8.out.setCell (p := ⟨gr, 1, none⟩) (IsS67.ge HI8.out) _⟩
          have HS9 : Aside0 (RS w2 w9 gr gp v0 v1 v3 s5 okS okR) := ⟨by rw [hw9]; exact HS5.out.kept (Kept.setCell (S := fun k => k = gr) (p := ⟨gr, 1, none⟩) (Kept.refl _ _) (.inl rfl) _)⟩
          clear hw9 t1 f1 hjb HS5 HI8 HB8
          have HRX : Aside0 (R = itemsK T s.size f' (mixK s5 (wordP T s.size [wBlock, wUpgrade, wAllow] (p + 1)))) := ⟨by rw [HRW.out, itemK_mixed (by rw [HWD.out]; decide +kernel) (by rw [HWD.out]; decide +kernel) HWD.out]⟩
          cases hif : isP T s.size [wBlock] (p + 1) with
          | true =>
           have HIF := Aside0.mk hif
           clear hif
           go_wp2_with fail
           refine (r_take1 (T := T) (e := s.size) wBlock (p + 1) HLN.out HI9.out HB9.out HIF.out).mono ?_
           rintro e w10 ⟨rfl, hs, hb, hk⟩
           dsimp only
           have HI10 := Aside0.mk hs
           have HB10 := Aside0.mk hb
           have HS10 : Aside0 (RS w2 w10 gr gp v0 v1 v3 s5 okS okR) := ⟨HS9.out.keep hk⟩
           clear hs hb hk HI9 HB9 HS9
           have HM : Aside0 (MidQ w2 w10 gr gp T s.size R p true df (it : Int) ((p + 1 + 1 : Nat) : Int) 0 0) := ⟨mid_ok (st := { s5 with mixed := wBlock }) (s5 := s5) (q := p + 1) (Nat.le_succ _) rfl rfl rfl (by rw [HRX.out, wordP_yes wBlock (by decide +kernel) HIF.out]; rfl) (by rw [← HMB.out]; exact HS10.out) HCN.out⟩
           have HIR := HI10
           have HBR := HB10
           have HMR := HM
           exact sc_round
          | false =>
           have HIF := Aside0.mk hif
           have HN9 := Aside0.mk hif
           clear hif
           go_wp2_with fail
           refine (r_take0 (T := T) (e := s.size) wBlock (p + 1) HLN.out HI9.out HB9.out HIF.out).mono ?_
           rintro e w10 ⟨rfl, hs, hb, hk⟩
           dsimp only
           have HI10 := Aside0.mk hs
           have HB10 := Aside0.mk hb
           have HS10 : Aside0 (RS w2 w10 gr gp v0 v1 v3 s5 okS okR) := ⟨HS9.out.keep hk⟩
           clear hs hb hk HI9 HB9 HS9
           clear HIF
           cases hif : isP T s.size [wUpgrade] (p + 1) with
           | true =>
            have HIF := Aside0.mk hif
            clear hif
            go_wp2_with fail
            refine (r_take1 (T := T) (e := s.size) wUpgrade (p + 1) HLN.out HI10.out HB10.out HIF.out).mono ?_
            rintro e w11 ⟨rfl, hs, hb, hk⟩
            dsimp only
            have HI11 := Aside0.mk hs
            have HB11 := Aside0.mk hb
            have HS11 : Aside0 (RS w2 w11 gr gp v0 v1 v3 s5 okS okR) := ⟨HS10.out.keep hk⟩
            clear hs hb hk HI10 HB10 HS10
            have e5 : w11.cell? ⟨gp, 2, none⟩ = some (.string s5.mixed) := blk_cell HS11.out.blk 2
            have f5 := blk_frozen HS11.out.blk 2
            have HI13 : Aside0 (IsR w2 (w11.setCell ⟨gp, 2, none⟩ (.string wUpgrade)) gr T ((p + 1 + 1 : Nat) : Int) s.size 0 0) := ⟨IsS67.far HI11.out (p := ⟨gp, 2, none⟩) HS11.out.ng _⟩
            have HB13 : Aside0 (Below w2.heap.size w2 (w11.setCell ⟨gp, 2, none⟩ (.string wUpgrade))) := ⟨HB11.out.setCell (p := ⟨gp, 2, none⟩) HS11.out.lg _⟩
            have HM13 : Aside0 (MidQ w2 (w11.setCell ⟨gp, 2, none⟩ (.string wUpgrade)) gr gp T s.size R p true df (it : Int) ((p + 1 + 1 : Nat) : Int) 0 0) := ⟨mid_ok (st := { s5 with mixed := wUpgrade }) (s5 := s5) (q := p + 1) (Nat.le_succ _) rfl rfl rfl (by rw [HRX.out, wordP_yes wUpgrade (by decide +kernel) HIF.out]; rfl) (HS11.out.setMixed wUpgrade HMN.out) HCN.out⟩
            have HIR := HI13
            have HBR := HB13
            have HMR := HM13
            exact sc_round
           | false =>
            have HIF := Aside0.mk hif
            have HN10 := Aside0.mk hif
            clear hif
            go_wp2_with fail
            refine (r_take0 (T := T) (e := s.size) wUpgrade (p + 1) HLN.out HI10.out HB10.out HIF.out).mono ?_
            rintro e w11 ⟨rfl, hs, hb, hk⟩
            dsimp only
            have HI11 := Aside0.mk hs
            have HB11 := Aside0.mk hb
            have HS11 : Aside0 (RS w2 w11 gr gp v0 v1 v3 s5 okS okR) := ⟨HS10.out.keep hk⟩
            clear hs hb hk HI10 HB10 HS10
            clear HIF
            cases hif : isP T s.size [wAllow] (p + 1) with
            | true =>
             have HIF := Aside0.mk hif
             clear hif
             go_wp2_with fail
             refine (r_take1 (T := T) (e := s.size) wAllow (p + 1) HLN.out HI11.out HB11.out HIF.out).mono ?_
             rintro e w12 ⟨rfl, hs, hb, hk⟩
             dsimp only
             have HI12 := Aside0.mk hs
             have HB12 := Aside0.mk hb
             have HS12 : Aside0 (RS w2 w12 gr gp v0 v1 v3 s5 okS okR) := ⟨HS11.out.keep hk⟩
             clear hs hb hk HI11 HB11 HS11
             have e5 : w12.cell? ⟨gp, 2, none⟩ = some (.string s5.mixed) := blk_cell HS12.out.blk 2
             have f5 := blk_frozen HS12.out.blk 2
             have HI13 : Aside0 (IsR w2 (w12.setCell ⟨gp, 2, none⟩ (.string wAllow)) gr T ((p + 1 + 1 : Nat) : Int) s.size 0 0) := ⟨IsS67.far HI12.out (p := ⟨gp, 2, none⟩) HS12.out.ng _⟩
             have HB13 : Aside0 (Below w2.heap.size w2 (w12.setCell ⟨gp, 2, none⟩ (.string wAllow))) := ⟨HB12.out.setCell (p := ⟨gp, 2, none⟩) HS12.out.lg _⟩
             have HM13 : Aside0 (MidQ w2 (w12.setCell ⟨gp, 2, none⟩ (.string wAllow)) gr gp T s.size R p true df (it : Int) ((p + 1 + 1 : Nat) : Int) 0 0) := ⟨mid_ok (st := { s5 with mixed := wAllow }) (s5 := s5) (q := p + 1) (Nat.le_succ _) rfl rfl rfl (by rw [HRX.out, wordP_yes wAllow (by decide +kernel) HIF.out]; rfl) (HS12.out.setMixed wAllow HMN.out) HCN.out⟩
             have HIR := HI13
             have HBR := HB13
             have HMR := HM13
             exact sc_round
            | false =>
             have HIF := Aside0.mk hif
             have HN11 := Aside0.mk hif
             clear hif
             go_wp2_with fail
             refine (r_take0 (T := T) (e := s.size) wAllow (p + 1) HLN.out HI11.out HB11.out HIF.out).mono ?_
             rintro e w12 ⟨rfl, hs, hb, hk⟩
             dsimp only
             have HI12 := Aside0.mk hs
             have HB12 := Aside0.mk hb
             have HS12 : Aside0 (RS w2 w12 gr gp v0 v1 v3 s5 okS okR) := ⟨HS11.out.keep hk⟩
             clear hs hb hk HI11 HB11 HS11
             clear HIF
             go_wp2_with fail
             refine (r_wrong (T := T) (e := s.size) (p + 1) 8 HI12.out HB12.out).mono ?_
             rintro e w13 ⟨rfl, hs, hb, hk⟩
             dsimp only
             have HIX := Aside0.mk hs
             have HBX := Aside0.mk hb
             have HKX := Aside0.mk hk
             clear hs hb hk
             have HNO : isP T s.size [wBlock, wUpgrade, wAllow] (p + 1) = false := by rw [isP_cons, isP_cons wUpgrade, HN9.out, HN10.out, HN11.out]; rfl
             have HM13 : Aside0 (MidQ w2 w13 gr gp T s.size R p true df (it : Int) ((p + 1 : Nat) : Int) 8 (nxt T s.size (p + 1)).f1) := ⟨mid_err (by decide) (by omega) (by rw [HRX.out, wordP_no HNO]; rfl)⟩
             clear HNO
             have HIR := HIX
             have HBR := HBX
             have HMR := HM13
             exact sc_round
       ·skip
        have ts0 : (wd.toList == [99, 115, 112]) = false := (eq_word (w := wd) (a := wCsp) (by decide +kernel)).trans (decide_eq_false (by rw [hwd]; decide +kernel))
        have ts1 : (wd.toList == [115, 104, 97, 114, 101]) = false := (eq_word (w := wd) (a := wShare) (by decide +kernel)).trans (decide_eq_false (by rw [hwd]; decide +kernel))
        have ts2 : (wd.toList == [109, 105, 120, 101, 100]) = false := (eq_word (w := wd) (a := wMixed) (by decide +kernel)).trans (decide_eq_false (by rw [hwd]; decide +kernel))
        have ts3 : (wd.toList == [100, 101, 102, 97, 117, 108, 116]) = true := (eq_word (w := wd) (a := wDefault) (by decide +kernel)).trans (decide_eq_true hwd)
        have HWD := Aside0.mk hwd
        clear hwd
        cases df with
        | true =>
         have HM1 : Aside0 (st.metD = 1) := ⟨of_decide_eq_true HDF.out.symm⟩
         have HRE0 : Aside0 (R = .error (10, p0)) := ⟨by rw [HRK.out, item_in HTK2.out HMEM.out, if_neg (by rw [HWD.out]; decide +kernel), if_pos HWD.out, if_pos (by have := HM1.out; omega)]; rfl⟩
         go_wp2_with fail
         refine (r_wrong (T := T) (e := s.size) p 10 HI8.out HB8.out).mono ?_
         rintro e w9 ⟨rfl, hs, hb, hk⟩
         dsimp only
         have HIX := Aside0.mk hs
         have HBX := Aside0.mk hb
         have HKX := Aside0.mk hk
         clear hs hb hk
         rw [← HTK2.out] at HIX
         have hc9 : (10 : Int) ≠ 0 := by decide
         obtain ⟨cE, hcE⟩ : ∃ cE : Int, cE = 10 := ⟨_, rfl⟩
         rw [← hcE] at HIX hc9 HRE0
         have HRE := HRE0
         clear hcE HRE0
         exact sc_bad
        | false =>
         have HM0 : Aside0 (st.metD = 0) := ⟨by have := of_decide_eq_false HDF.out.symm; have := HS8.out.lD; omega⟩
         by_cases hbig : 60 ≤ it
         ·have l3 : decide ((60 : Int) ≤ (it : Int)) = true := decide_eq_true (by omega)
          have HRE0 : Aside0 (R = .error (2, p0)) := ⟨by rw [HRK.out, item_in HTK2.out HMEM.out, if_neg (by rw [HWD.out]; decide +kernel), if_pos HWD.out, if_neg (by have := HM0.out; omega), if_pos (by have := HIT.out; omega)]; rfl⟩
          go_wp2_with fail
          refine (r_wrong (T := T) (e := s.size) p 2 HI8.out HB8.out).mono ?_
          rintro e w9 ⟨rfl, hs, hb, hk⟩
          dsimp only
          have HIX := Aside0.mk hs
          have HBX := Aside0.mk hb
          have HKX := Aside0.mk hk
          clear hs hb hk
          rw [← HTK2.out] at HIX
          have hc9 : (2 : Int) ≠ 0 := by decide
          obtain ⟨cE, hcE⟩ : ∃ cE : Int, cE = 2 := ⟨_, rfl⟩
          rw [← hcE] at HIX hc9 HRE0
          have HRE := HRE0
          clear hcE HRE0
          exact sc_bad
         ·have l3 : decide ((60 : Int) ≤ (it : Int)) = false := decide_eq_false (by omega)
          have HIL : Aside0 (it < 60) := ⟨by omega⟩
          have HRW : Aside0 (R = itemsK T s.size f' (itemK T s.size { st with metD := st.metD + 1, items := st.items + 1 } wd (p + 1))) := ⟨by rw [HRK.out, item_in HTK2.out HMEM.out, if_neg (by rw [HWD.out]; decide +kernel), if_pos HWD.out, if_neg (by have := HM0.out; omega), if_neg (by have := HIT.out; omega)]⟩
          obtain ⟨s5, hs5⟩ : ∃ s5, s5 = ({ st with metD := st.metD + 1, items := st.items + 1 } : Pst) := ⟨_, rfl⟩
          rw [← hs5] at HRW
          have HS5 : Aside0 (RS w2 w8 gr gp v0 v1 v3 s5 okS okR) := ⟨by rw [hs5]; exact (HS8.out.count (by have := HIL.out; have := HIT.out; omega)).metD HM0.out⟩
          have HLN5 : Aside0 (s5.csp.length + 1 ≤ s5.items ∧ s5.shares.length + 1 ≤ s5.items ∧ s5.rules.length + 1 ≤ s5.items) := ⟨by rw [hs5]; exact ⟨Nat.succ_le_succ HS8.out.lC, Nat.succ_le_succ HS8.out.lS, Nat.succ_le_succ HS8.out.lR⟩⟩
          have HCN : Aside0 (Cnt mx true (it : Int) p (p + 1) f' T s5) := ⟨⟨by rw [hs5]; exact HMX.out, by rw [hs5]; exact (decide_eq_true (by show st.metD + 1 = 1; have := HM0.out; omega)).symm, by have := HIT.out; rw [hs5]; show ((it : Int)) + 1 = ((st.items + 1 : Nat) : Int); omega, rfl, HFF.out⟩⟩
          have HMN : Aside0 (s5.metD ≠ 0) := ⟨by rw [hs5]; exact Nat.succ_ne_zero _⟩
          have HMB : Aside0 (s5.allow = false) := ⟨by rw [hs5]; exact HS8.out.eD HM0.out⟩
          clear hs5 hbig HS8 HRK
          obtain ⟨A8, c8, hb8, _, _⟩ := HI8.out
          have t1 : w8.cell? ⟨gr, 1, none⟩ = some (.int .i64 (p : Int)) := cellS67_1 hb8
          have f1 := blk_frozen hb8 1
          have hjb : (p : Int) ≤ 1000000 := by have := HLN.out; have := HPT.out; omega
          clear hb8
          go_upto_region 21 with (fail)
          obtain ⟨w9, hw9⟩ : ∃ w9, w9 = w8.setCell ⟨gr, 1, none⟩ (.int .i64 ((p : Int) + 1)) := ⟨_, rfl⟩
          rw [← hw9]
          have HI9 : Aside0 (IsR w2 w9 gr T ((p + 1 : Nat) : Int) s.size 0 0) := ⟨by rw [hw9, Int.natCast_add]; exact IsS67.set_1 HI8.out _⟩
          have HB9 : Aside0 (Below w2.heap.size w2 w9) := ⟨by rw [hw9]; exact HB8.out.setCell (p := ⟨gr, 1, none⟩) (IsS67.ge HI8.out) _⟩
          have HS9 : Aside0 (RS w2 w9 gr gp v0 v1 v3 s5 okS okR) := ⟨by rw [hw9]; exact HS5.out.kept (Kept.setCell (S := fun k => k = gr) (p := ⟨gr, 1, none⟩) (Kept.refl _ _) (.inl rfl) _)⟩
          clear hw9 t1 f1 hjb HS5 HI8 HB8
          have HRX : Aside0 (R = itemsK T s.size f' (defK s5 (wordP T s.size [wAllow, wDeny] (p + 1)))) := ⟨by rw [HRW.out, itemK_default (by rw [HWD.out]; decide +kernel) (by rw [HWD.out]; decide +kernel) (by rw [HWD.out]; decide +kernel) HWD.out]⟩
          cases hif : isP T s.size [wAllow] (p + 1) with
          | true =>
           have HIF := Aside0.mk hif
           clear hif
           go_wp2_with fail
           refine (r_take1 (T := T) (e := s.size) wAllow (p + 1) HLN.out HI9.out HB9.out HIF.out).mono ?_
           rintro e w10 ⟨rfl, hs, hb, hk⟩
           dsimp only
           have HI10 := Aside0.mk hs
           have HB10 := Aside0.mk hb
           have HS10 : Aside0 (RS w2 w10 gr gp v0 v1 v3 s5 okS okR) := ⟨HS9.out.keep hk⟩
           clear hs hb hk HI9 HB9 HS9
           have e5 : w10.cell? ⟨gp, 4, none⟩ = some (.bool s5.allow) := blk_cell HS10.out.blk 4
           have f5 := blk_frozen HS10.out.blk 4
           have HI13 : Aside0 (IsR w2 (w10.setCell ⟨gp, 4, none⟩ (.bool true)) gr T ((p + 1 + 1 : Nat) : Int) s.size 0 0) := ⟨IsS67.far HI10.out (p := ⟨gp, 4, none⟩) HS10.out.ng _⟩
           have HB13 : Aside0 (Below w2.heap.size w2 (w10.setCell ⟨gp, 4, none⟩ (.bool true))) := ⟨HB10.out.setCell (p := ⟨gp, 4, none⟩) HS10.out.lg _⟩
           have HM13 : Aside0 (MidQ w2 (w10.setCell ⟨gp, 4, none⟩ (.bool true)) gr gp T s.size R p mx true (it : Int) ((p + 1 + 1 : Nat) : Int) 0 0) := ⟨mid_ok (st := { s5 with allow := true }) (s5 := s5) (q := p + 1) (Nat.le_succ _) rfl rfl rfl (by rw [HRX.out, wordP_yes wAllow (by decide +kernel) HIF.out]; rfl) (HS10.out.setAllow true HMN.out) HCN.out⟩
           have HIR := HI13
           have HBR := HB13
           have HMR := HM13
           exact sc_round
          | false =>
           have HIF := Aside0.mk hif
           have HN9 := Aside0.mk hif
           clear hif
           go_wp2_with fail
           refine (r_take0 (T := T) (e := s.size) wAllow (p + 1) HLN.out HI9.out HB9.out HIF.out).mono ?_
           rintro e w10 ⟨rfl, hs, hb, hk⟩
           dsimp only
           have HI10 := Aside0.mk hs
           have HB10 := Aside0.mk hb
           have HS10 : Aside0 (RS w2 w10 gr gp v0 v1 v3 s5 okS okR) := ⟨HS9.out.keep hk⟩
           clear hs hb hk HI9 HB9 HS9
           clear HIF
           cases hif : isP T s.size [wDeny] (p + 1) with
           | true =>
            have HIF := Aside0.mk hif
            clear hif
            go_wp2_with fail
            refine (r_take1 (T := T) (e := s.size) wDeny (p + 1) HLN.out HI10.out HB10.out HIF.out).mono ?_
            rintro e w11 ⟨rfl, hs, hb, hk⟩
            dsimp only
            have HI11 := Aside0.mk hs
            have HB11 := Aside0.mk hb
            have HS11 : Aside0 (RS w2 w11 gr gp v0 v1 v3 s5 okS okR) := ⟨HS10.out.keep hk⟩
            clear hs hb hk HI10 HB10 HS10
            have HM : Aside0 (MidQ w2 w11 gr gp T s.size R p mx true (it : Int) ((p + 1 + 1 : Nat) : Int) 0 0) := ⟨mid_ok (st := { s5 with allow := false }) (s5 := s5) (q := p + 1) (Nat.le_succ _) rfl rfl rfl (by rw [HRX.out, wordP_yes wDeny (by decide +kernel) HIF.out]; rfl) (by rw [← HMB.out]; exact HS11.out) HCN.out⟩
            have HIR := HI11
            have HBR := HB11
            have HMR := HM
            exact sc_round
           | false =>
            have HIF := Aside0.mk hif
            have HN10 := Aside0.mk hif
            clear hif
            go_wp2_with fail
            refine (r_take0 (T := T) (e := s.size) wDeny (p + 1) HLN.out HI10.out HB10.out HIF.out).mono ?_
            rintro e w11 ⟨rfl, hs, hb, hk⟩
            dsimp only
            have HI11 := Aside0.mk hs
            have HB11 := Aside0.mk hb
            have HS11 : Aside0 (RS w2 w11 gr gp v0 v1 v3 s5 okS okR) := ⟨HS10.out.keep hk⟩
            clear hs hb hk HI10 HB10 HS10
            clear HIF
            go_wp2_with fail
            refine (r_wrong (T := T) (e := s.size) (p + 1) 8 HI11.out HB11.out).mono ?_
            rintro e w13 ⟨rfl, hs, hb, hk⟩
            dsimp only
            have HIX := Aside0.mk hs
            have HBX := Aside0.mk hb
            have HKX := Aside0.mk hk
            clear hs hb hk
            have HNO : isP T s.size [wAllow, wDeny] (p + 1) = false := by rw [isP_cons, HN9.out, HN10.out]; rfl
            have HM13 : Aside0 (MidQ w2 w13 gr gp T s.size R p mx true (it : Int) ((p + 1 : Nat) : Int) 8 (nxt T s.size (p + 1)).f1) := ⟨mid_err (by decide) (by omega) (by rw [HRX.out, wordP_no HNO]; rfl)⟩
            clear HNO
            have HIR := HIX
            have HBR := HBX
            have HMR := HM13
            exact sc_round
       ·replace hwd : ¬ wd = wCsp ∧ ¬ wd = wShare ∧ ¬ wd = wMixed ∧ ¬ wd = wDefault := by rcases hwd with rfl | rfl <;> decide +kernel
        have ts0 : (wd.toList == [99, 115, 112]) = false := (eq_word (w := wd) (a := wCsp) (by decide +kernel)).trans (decide_eq_false hwd.1)
        have ts1 : (wd.toList == [115, 104, 97, 114, 101]) = false := (eq_word (w := wd) (a := wShare) (by decide +kernel)).trans (decide_eq_false hwd.2.1)
        have ts2 : (wd.toList == [109, 105, 120, 101, 100]) = false := (eq_word (w := wd) (a := wMixed) (by decide +kernel)).trans (decide_eq_false hwd.2.2.1)
        have ts3 : (wd.toList == [100, 101, 102, 97, 117, 108, 116]) = false := (eq_word (w := wd) (a := wDefault) (by decide +kernel)).trans (decide_eq_false hwd.2.2.2)
        have HWD := Aside0.mk hwd
        clear hwd
        by_cases hbig : 60 ≤ it
        ·have l3 : decide ((60 : Int) ≤ (it : Int)) = true := decide_eq_true (by omega)
         have HRE0 : Aside0 (R = .error (2, p0)) := ⟨by rw [HRK.out, item_in HTK2.out HMEM.out, if_neg HWD.out.2.2.1, if_neg HWD.out.2.2.2, if_pos (by have := HIT.out; omega)]; rfl⟩
         go_wp2_with fail
         refine (r_wrong (T := T) (e := s.size) p 2 HI8.out HB8.out).mono ?_
         rintro e w9 ⟨rfl, hs, hb, hk⟩
         dsimp only
         have HIX := Aside0.mk hs
         have HBX := Aside0.mk hb
         have HKX := Aside0.mk hk
         clear hs hb hk
         rw [← HTK2.out] at HIX
         have hc9 : (2 : Int) ≠ 0 := by decide
         obtain ⟨cE, hcE⟩ : ∃ cE : Int, cE = 2 := ⟨_, rfl⟩
         rw [← hcE] at HIX hc9 HRE0
         have HRE := HRE0
         clear hcE HRE0
         exact sc_bad
        ·have l3 : decide ((60 : Int) ≤ (it : Int)) = false := decide_eq_false (by omega)
         have HIL : Aside0 (it < 60) := ⟨by omega⟩
         have HRW : Aside0 (R = itemsK T s.size f' (itemK T s.size { st with items := st.items + 1 } wd (p + 1))) := ⟨by rw [HRK.out, item_in HTK2.out HMEM.out, if_neg HWD.out.2.2.1, if_neg HWD.out.2.2.2, if_neg (by have := HIT.out; omega)]⟩
         obtain ⟨s5, hs5⟩ : ∃ s5, s5 = ({ st with items := st.items + 1 } : Pst) := ⟨_, rfl⟩
         rw [← hs5] at HRW
         have HS5 : Aside0 (RS w2 w8 gr gp v0 v1 v3 s5 okS okR) := ⟨by rw [hs5]; exact HS8.out.count (by have := HIL.out; have := HIT.out; omega)⟩
         have HLN5 : Aside0 (s5.csp.length + 1 ≤ s5.items ∧ s5.shares.length + 1 ≤ s5.items ∧ s5.rules.length + 1 ≤ s5.items) := ⟨by rw [hs5]; exact ⟨Nat.succ_le_succ HS8.out.lC, Nat.succ_le_succ HS8.out.lS, Nat.succ_le_succ HS8.out.lR⟩⟩
         have HCN : Aside0 (Cnt mx df (it : Int) p (p + 1) f' T s5) := ⟨⟨by rw [hs5]; exact HMX.out, by rw [hs5]; exact HDF.out, by have := HIT.out; rw [hs5]; show ((it : Int)) + 1 = ((st.items + 1 : Nat) : Int); omega, rfl, HFF.out⟩⟩
         clear hs5 hbig HS8 HRK
         obtain ⟨A8, c8, hb8, _, _⟩ := HI8.out
         have t1 : w8.cell? ⟨gr, 1, none⟩ = some (.int .i64 (p : Int)) := cellS67_1 hb8
         have f1 := blk_frozen hb8 1
         have hjb : (p : Int) ≤ 1000000 := by have := HLN.out; have := HPT.out; omega
         clear hb8
         go_upto_region 21 with (fail)
         obtain ⟨w9, hw9⟩ : ∃ w9, w9 = w8.setCell ⟨gr, 1, none⟩ (.int .i64 ((p : Int) + 1)) := ⟨_, rfl⟩
         rw [← hw9]
         have HI9 : Aside0 (IsR w2 w9 gr T ((p + 1 : Nat) : Int) s.size 0 0) := ⟨by rw [hw9, Int.natCast_add]; exact IsS67.set_1 HI8.out _⟩
         have HB9 : Aside0 (Below w2.heap.size w2 w9) := ⟨by rw [hw9]; exact HB8.out.setCell (p := ⟨gr, 1, none⟩) (IsS67.ge HI8.out) _⟩
         have HS9 : Aside0 (RS w2 w9 gr gp v0 v1 v3 s5 okS okR) := ⟨by rw [hw9]; exact HS5.out.kept (Kept.setCell (S := fun k => k = gr) (p := ⟨gr, 1, none⟩) (Kept.refl _ _) (.inl rfl) _)⟩
         clear hw9 t1 f1 hjb HS5 HI8 HB8
         have HRX : Aside0 (R = itemsK T s.size f' (ifK T s.size s5 wd (wordP T s.size [wIf] (p + 1)))) := ⟨by rw [HRW.out, itemK_rule HWD.out.1 HWD.out.2.1 HWD.out.2.2.1 HWD.out.2.2.2]⟩
         cases hif : isP T s.size [wIf] (p + 1) with
         | false =>
          have HIF := Aside0.mk hif
          clear hif
          go_wp2_with fail
          refine (r_take0 (T := T) (e := s.size) wIf (p + 1) HLN.out HI9.out HB9.out HIF.out).mono ?_
          rintro e w10 ⟨rfl, hs, hb, hk⟩
          dsimp only
          have HI10 := Aside0.mk hs
          have HB10 := Aside0.mk hb
          have HS10 : Aside0 (RS w2 w10 gr gp v0 v1 v3 s5 okS okR) := ⟨HS9.out.keep hk⟩
          clear hs hb hk HI9 HB9 HS9
          go_wp2_with fail
          refine (r_wrong (T := T) (e := s.size) (p + 1) 8 HI10.out HB10.out).mono ?_
          rintro e w11 ⟨rfl, hs, hb, hk⟩
          dsimp only
          have HIX := Aside0.mk hs
          have HBX := Aside0.mk hb
          have HKX := Aside0.mk hk
          clear hs hb hk
          have HM11 : Aside0 (MidQ w2 w11 gr gp T s.size R p mx df (it : Int) ((p + 1 : Nat) : Int) 8 (nxt T s.size (p + 1)).f1) := ⟨mid_err (by decide) (by omega) (by rw [HRX.out, wordP_no HIF.out]; rfl)⟩
          have HIR := HIX
          have HBR := HBX
          have HMR := HM11
          exact sc_round
         | true =>
          have HIF := Aside0.mk hif
          clear hif
          go_wp2_with fail
          refine (r_take1 (T := T) (e := s.size) wIf (p + 1) HLN.out HI9.out HB9.out HIF.out).mono ?_
          rintro e w10 ⟨rfl, hs, hb, hk⟩
          dsimp only
          have HI10 := Aside0.mk hs
          have HB10 := Aside0.mk hb
          have HS10 : Aside0 (RS w2 w10 gr gp v0 v1 v3 s5 okS okR) := ⟨HS9.out.keep hk⟩
          clear hs hb hk HI9 HB9 HS9
          have hC := rcond_calls w2 w10.drew gr T s.size HLN.out HSZ.out (p + 1 + 1) HI10.out (below_drew HB10.out)
          have HRY : Aside0 (R = itemsK T s.size f' (ruleK s5 wd (condP T s.size (p + 1 + 1)))) := ⟨by rw [HRX.out, wordP_yes wIf (by decide +kernel) HIF.out]; rfl⟩
          have HC := Aside0.mk hC
          have HLB : Aside0 ((s5.rules.length + 1) * 72 ≤ 140737488355328) := ⟨by have := HLN5.out.2.2; have := HS10.out.lI; omega⟩
          have d0 : w10.drew.cell? ⟨gp, 3, none⟩ = some v3 := blk_cell HS10.out.blk 3
          have HSD : Aside0 (RS w2 w10.drew gr gp v0 v1 v3 s5 okS okR) := ⟨HS10.out.drewN 1⟩
          have HGG : Aside0 (gr < w10.drew.heap.size ∧ gp < w10.drew.heap.size) := ⟨⟨HS10.out.lr, blk_lt HS10.out.blk⟩⟩
          have HOK : Aside0 (∀ k, w10.drew.heap.size ≤ k → (okR k ∨ w10.drew.heap.size ≤ k) ∧ some k ≠ v3.ownBlock) := ⟨fun k hk => ⟨.inr hk, fun he => by have := Kd.N_lt HSD.out.rR k he.symm; omega⟩⟩
          obtain ⟨y, hy⟩ : ∃ y, y = decide (wd = wAllow) := ⟨_, rfl⟩
          have tA : (wd.toList == [97, 108, 108, 111, 119]) = y := (eq_word (w := wd) (a := wAllow) (by decide +kernel)).trans hy.symm
          have HY := Aside0.mk hy
          clear hC HRW hy
          go_upto_region 24 with (fail)
          refine start_ (n := 11) (S := fun w' => w'.cell? ⟨gp, 3, none⟩ = some v3) (ds := [8, 10]) #[false, false, false, false, false, false, false, false, false, false, false] (by kernel_rfl) rfl rfl (d0) (fun hHeld => ?_)
          refine pure_ (i := 0) (N := some 96) (v := ?_) (a' := ?_) #[true, false, false, false, false, false, false, false, false, false, false] rfl rfl (by kernel_rfl) (fun _ _ _ h => h) (Or.inl ⟨by rfl, ?_⟩) ?_ ?_
          rotate_left
          ·exact sTe10_0
          rotate_left
          ·exact nTe10_
          refine pure_ (i := 2) (N := some 98) (v := ?_) (a' := ?_) #[true, false, true, false, false, false, false, false, false, false, false] rfl rfl (by kernel_rfl) (fun _ _ _ h => h) (Or.inl ⟨by rfl, ?_⟩) ?_ ?_
          rotate_left
          ·exact sTe10_0
          rotate_left
          ·exact nTe10_
          refine pure_ (i := 3) (N := some 99) (v := ?_) (a' := ?_) #[true, false, true, true, false, false, false, false, false, false, false] rfl rfl (by kernel_rfl) (fun _ _ _ h => h) (Or.inl ⟨by rfl, ?_⟩) ?_ ?_
          rotate_left
          ·exact sTe10_0
          rotate_left
          ·exact nTe10_
          refine pure_ (i := 4) (N := some 100) (v := ?_) (a' := ?_) #[true, false, true, true, true, false, false, false, false, false, false] rfl rfl (by kernel_rfl) (fun _ _ _ h => h) (Or.inl ⟨by rfl, ?_⟩) ?_ ?_
          rotate_left
          ·exact sTe10_0
          rotate_left
          ·exact nTe10_
          refine take_ (i := 1) (N := some 97) (v := ?_) (a' := ?_) #[true, true, true, true, true, false, false, false, false, false, false] rfl rfl (by kernel_rfl) (fun _ _ _ h => h) (Or.inl ⟨by rfl, ?_⟩) hHeld ?_ ?_
          rotate_left
          ·intro w' s0
           go_simp
           with_reducible rfl
          rotate_left
          ·exact nTe10_
          refine one_ (i := 5) (N := some 101) #[true, true, true, true, true, true, false, false, false, false, false] rfl rfl (by kernel_rfl) (by decide) (fun K hK => ?_)
          refine goes_ Tryd.func31 (by kernel_rfl) rfl #[.pointer (some ⟨gr, 0, none⟩), .int .i64 0] (by rfl) rfl rfl (by simp only [List.map_toArray, List.map_cons, List.map_nil]; rfl) ?_
          refine HC.out.mono ?_
          rintro e w11 ⟨h7, i7, c7, a7, x3, hq7, rfl, g3, hi11, hb11, hk11⟩
          refine ⟨_, rfl, ?_⟩
          unfold cdcells
          have HQ := Aside0.mk hq7
          have HI11 := Aside0.mk hi11
          have HB11 := Aside0.mk hb11
          have HS11 : Aside0 (RS w2 w11 gr gp v0 v1 v3 s5 okS okR) := ⟨HSD.out.keep hk11⟩
          have HZ11 : Aside0 (w10.drew.heap.size ≤ w11.heap.size) := ⟨hk11.1⟩
          have HMM : Aside0 (Kd.FK k51 w11 (fun k => w10.drew.heap.size ≤ k) ⟨y, h7⟩ [.bool y, .int .i64 h7.f0, .string h7.f1.f0, .string h7.f1.f1, x3]) := ⟨k51_mkF w11 _ ⟨y, h7⟩ (Kd.V_lower g3 (Nat.zero_le _))⟩
          have HFR : Aside0 (∀ k, w11.heap.size ≤ k → okR k ∨ w10.drew.heap.size ≤ k) := ⟨fun k hk => .inr (Nat.le_trans HZ11.out hk)⟩
          have HR11 : Aside0 (k51.N 51 w11 w2.heap.size (fun k => okR k ∨ w10.drew.heap.size ≤ k) v3 s5.rules) := ⟨Kd.N_mono HS11.out.rR (fun k hk => .inl hk)⟩
          clear hi11 hb11 hk11 g3 hq7
          refine hK.out _ _ ((blk_cell HS11.out.blk 3)) (fun hHeld => ?_)
          clear hK K
          refine norm_ (a' := ?_) ?_ ?_
          rotate_left
          ·show Act.put _ (some 101) _ = _
           exact nTe10_
          refine pure_ (i := 6) (N := some 102) (v := ?_) (a' := ?_) #[true, true, true, true, true, true, true, false, false, false, false] rfl rfl (by kernel_rfl) (fun _ _ _ h => h) (Or.inl ⟨by rfl, ?_⟩) ?_ ?_
          rotate_left
          ·exact sTe10_0
          rotate_left
          ·exact nTe10_
          refine one_ (i := 7) (N := some 103) #[true, true, true, true, true, true, true, true, false, false, false] rfl rfl (by kernel_rfl) (by decide) (fun K hK => ?_)
          refine value_ (w1 := ?_) (v := ?_) (by rfl) rfl ?_ ?_
          rotate_left 2
          ·go_simp
           constructor
           ·rfl
           ·rfl
          refine hK.out _ _ ((blk_cell (show (w11.alloc _).heap[gp]? = _ from blk_alloc HS11.out.blk _) 3)) (fun hHeld => ?_)
          clear hK K
          refine norm_ (a' := ?_) ?_ ?_
          rotate_left
          ·show Act.put _ (some 103) _ = _
           exact nTe10_
          refine last_ (i := 8) (N := some 104) #[true, true, true, true, true, true, true, true, true, false, false] rfl rfl (by kernel_rfl) (by decide) (fun K hK => ?_)
          refine Kd.N_append_step k51 (w0 := w2) (W := w11) w2.heap.size (by rfl) _ _ 25 51 _ 72 rfl Tryd.underlying25 info_rule rfl (by decide) (by decide) v3 s5.rules ⟨y, h7⟩ [.bool y, .int .i64 h7.f0, .string h7.f1.f0, .string h7.f1.f1, x3] (fun k => okR k ∨ w10.drew.heap.size ≤ k) (fun k => w10.drew.heap.size ≤ k) rfl rfl HMM.out HOK.out HFR.out HR11.out HB11.out HB11.out.size HLB.out ?_
          intro v12 w12 hO12 hB12 hG12 hat12
          have HI13 : Aside0 (IsR w2 (w12.setCell ⟨gp, 3, none⟩ v12) gr T i7 s.size c7 a7) := ⟨IsS67.far (IsS67.grown HI11.out hG12 (fun he => (HS11.out.bR gr (HS11.out.rR.1 gr he.symm)).2.2.1 rfl)) (p := ⟨gp, 3, none⟩) HS11.out.ng _⟩
          have HB13 : Aside0 (Below w2.heap.size w2 (w12.setCell ⟨gp, 3, none⟩ v12)) := ⟨hB12.setCell (p := ⟨gp, 3, none⟩) HS11.out.lg _⟩
          have HM13 : Aside0 (MidQ w2 (w12.setCell ⟨gp, 3, none⟩ v12) gr gp T s.size R p mx df (it : Int) i7 c7 a7) := ⟨mid_rul HQ.out (Nat.le_succ _) HRY.out (by rw [← HY.out]; exact RS.rule HSD.out HS11.out HZ11.out hO12 hG12 HLN5.out.2.2 HB10.out.size HGG.out) HCN.out⟩
          have hp12 : w12.heap[gp]? = some (.cells (polcells v0 v1 s5.mixed v3 s5.allow) 27 (0, 0)) := (hG12.block gp (blk_lt HS11.out.blk) (fun he => (HS11.out.bR gp (HS11.out.rR.1 gp he.symm)).2.2.2 rfl)).trans HS11.out.blk
          obtain ⟨A12, c12, e12⟩ := Kd.N_slice hO12
          obtain ⟨n12, hn12⟩ : ∃ n12, n12 = (s5.rules ++ [(⟨y, h7⟩ : Rl)]).length := ⟨_, rfl⟩
          rw [← hn12] at e12
          subst e12
          have e4 : w12.cell? ⟨gp, 3, none⟩ = some v3 := blk_cell hp12 3
          have f4 := blk_frozen hp12 3
          clear hO12 hB12 hG12 hat12 hp12 hn12
          refine hK.out _ _ ?_
          clear hK K
          refine norm_ (a' := ?_) ?_ ?_
          rotate_left
          ·show Act.put _ (some 104) _ = _
           exact nTe10_
          refine pure_ (i := 9) (N := some 105) (v := ?_) (a' := ?_) #[true, true, true, true, true, true, true, true, true, true, false] rfl rfl (by kernel_rfl) (fun _ _ _ h => h) (Or.inl ⟨by rfl, ?_⟩) ?_ ?_
          rotate_left
          ·exact sTe10_0
          rotate_left
          ·exact nTe10_
          refine last_ (i := 10) (N := none) #[true, true, true, true, true, true, true, true, true, true, true] rfl rfl (by kernel_rfl) (by decide) (fun K hK => ?_)
          refine skip_ (w1 := ?_) (by rfl) rfl ?_ ?_
          rotate_left
          ·go_simp
           rfl
          refine hK.out _ _ ?_
          clear hK K
          refine done_ (by kernel_rfl) ?_

          have HIR := HI13
          have HBR := HB13
          have HMR := HM13
          exact sc_round
     ·have l6 : (k0 == (1 : Int)) = false := by simp [hk0]
      have HMEM : Aside0 (memB (⟨#[]⟩ : ByteArray) six = false) := ⟨by decide +kernel⟩
      have HRE0 : Aside0 (R = .error (8, p0)) := ⟨by rw [HRK.out, item_no HTK2.out (by rw [decide_eq_false hk0]; rfl)]; rfl⟩
      have hin := parapetref1_In.calls (six.length + 1) (⟨#[]⟩ : ByteArray) (some ⟨w6.heap.size, 0, none⟩) 6 six _ (w6.alloc (.cells #[.string wCsp, .string wShare, .string wMixed, .string wDefault, .string wAllow, .string wDeny] 9)) (lit_strs w6 six (by decide)) (Nat.le_refl _) (in_f (⟨#[]⟩ : ByteArray) six (by decide))
      rw [HMEM.out] at hin
      have HIN := Aside0.mk hin
      clear hin
      go_wp2_with fail
      refine HIN.out.mono ?_
      rintro e w8 ⟨rfl, ⟨⟨nd, hw8⟩⟩⟩
      dsimp only
      have HI8 : Aside0 (IsR w2 w8 gr T (p : Int) s.size 0 0) := ⟨by rw [hw8]; exact IsS67.drewN (IsS67.alloc HI6.out _) _⟩
      have HB8 : Aside0 (Below w2.heap.size w2 w8) := ⟨by rw [hw8]; exact pw_below_drewN (below_alloc HB6.out _) _⟩
      have HS8 : Aside0 (RS w2 w8 gr gp v0 v1 v3 st okS okR) := ⟨by rw [hw8]; exact (HS6.out.keep (keep_alloc (KeepBut.refl _ _ _) _)).drewN _⟩
      clear hw8 HIN
      go_wp2_with fail
      refine (r_wrong (T := T) (e := s.size) p 8 HI8.out HB8.out).mono ?_
      rintro e w9 ⟨rfl, hs, hb, hk⟩
      dsimp only
      have HIX := Aside0.mk hs
      have HBX := Aside0.mk hb
      have HKX := Aside0.mk hk
      clear hs hb hk
      rw [← HTK2.out] at HIX
      have hc9 : (8 : Int) ≠ 0 := by decide
      obtain ⟨cE, hcE⟩ : ∃ cE : Int, cE = 8 := ⟨_, rfl⟩
      rw [← hcE] at HIX hc9 HRE0
      have HRE := HRE0
      clear hcE HRE0
      exact sc_bad
    ·skip
     have l1 : decide ((p : Int) < (n0 : Int)) = false := decide_eq_false (by omega)
     have l2 : decide (p < n0) = false := decide_eq_false hp
     obtain rfl : R = .ok st := by
      rw [hR]
      cases f with
      | zero => rfl
      | succ f => rw [itemsP, if_neg (by have := HN0.out; omega)]
     obtain ⟨A1, c1, hb1, _, _⟩ := HI.out
     have t0 : wr.cell? ⟨gr, 0, none⟩ = some (.slice A1 n0 c1) := by rw [HN0.out]; exact cellS67_0 hb1
     have t1 : wr.cell? ⟨gr, 1, none⟩ = some (.int .i64 (p : Int)) := cellS67_1 hb1
     have l0 : ((0 : Int) != 0) = false := by decide
     have HS := Aside0.mk hS
     clear hb1 hm hd hn hf hgk hS hR hp
     go_wp2
     go_quiet ((go_at_call 24; exact Calls.quiet_of_same (bad_quiet w2 _ gr T _ _ 0 0 _ l0 (IsS67.drewN HI.out _))))
     obtain ⟨w5, hw5⟩ : ∃ w5, w5 = wr.drewN nq := ⟨_, rfl⟩
     rw [← hw5]
     have HI5 : Aside0 (IsR w2 w5 gr T (p : Int) s.size 0 0) := ⟨by rw [hw5]; exact IsS67.drewN HI.out _⟩
     have HB5 : Aside0 (Below w2.heap.size w2 w5) := ⟨by rw [hw5]; exact pw_below_drewN HB.out _⟩
     have HS5 : Aside0 (RS w2 w5 gr gp v0 v1 v3 st okS okR) := ⟨by rw [hw5]; exact HS.out.drewN _⟩
     clear hw5 t0 t1 HI HB HS l1 l2
     go_wp2_with fail
     refine (bad_quiet w2 _ gr T _ _ 0 0 false l0 HI5.out).mono ?_
     rintro e w' ⟨rfl, hww⟩
     obtain rfl := hww.symm
     clear hww
     dsimp only
     obtain ⟨B0, k0, e0⟩ := Kd.R_slice HS5.out.rC
     obtain ⟨B1, k1, e1⟩ := Kd.R_slice HS5.out.rS
     obtain ⟨B3, k3, e3⟩ := Kd.N_slice HS5.out.rR
     have HC : Aside0 (v0.oneCell' = true ∧ v1.oneCell' = true ∧ v3.oneCell' = true) := ⟨by rw [e0, e1, e3]; exact ⟨rfl, rfl, rfl⟩⟩
     have HPr : Aside0 (w5.heap[gA]? = some (.cells (polcells (.slice none 0 0) (.slice none 0 0) ⟨#[]⟩ (.slice none 0 0) false) 27 (0, 0))) := ⟨blk_below HP2.out HB5.out⟩
     have HFr : Aside0 (w5.heap[gA + 1]? = some (.cells #[.int .i64 0, .int .i64 0] 30 (0, 0))) := ⟨blk_below HF2.out HB5.out⟩
     have HKS : Aside0 (∀ c1 c2, Kept w5 ((w5.setRow gA c1).setRow (gA + 1) c2) (fun k => k = gA ∨ k = gA + 1)) := ⟨fun c1 c2 => ((kept_setRow w5 gA c1).mono (fun k hk => .inl hk)).then_ (kept_setRow _ _ _) (fun k hk => .inl (.inr hk))⟩
     have HGT : Aside0 (gA + 1 < w2.heap.size) := ⟨by have := HLT.out; have := HZ2.out; omega⟩
     have HBr : Aside0 (Below w.heap.size w w5) := ⟨HB2.out.trans (HB5.out.mono HB2.out.size)⟩
     clear e0 e1 e3
     go_wp2_with (first | refine wpList_load_row rfl 27 _ rfl gp rfl 27 (polcells v0 v1 st.mixed v3 st.allow) (0, 0) _ HS5.out.blk Tryd.underlying27 rfl size_pol ?_ | refine wpList_store_row rfl 27 (.tmp 2) (.tmp 158) rfl gA (polcells v0 v1 st.mixed v3 st.allow) rfl rfl 27 _ HPr.out size_pol rfl (pol_one HC.out _ _) ?_ | refine wpList_store_row rfl 30 (.tmp 3) (.tmp 159) rfl (gA + 1) #[.int .i64 0, .int .i64 0] rfl rfl 30 #[.int .i64 0, .int .i64 0] ((setRow_other _ _ _ _ (show gA + 1 ≠ gA by omega)).trans HFr.out) size_fault rfl (by simp [Value.oneCell']) ?_)
     refine bodyPost_ret (rpol_results _ _ gA (gA + 1) _ _ rfl rfl ?_ ?_ rfl rfl) rfl ⟨v0, v1, v3, rfl, ?_, ?_, ?_, ?_⟩
     ·exact (setRow_other _ _ _ _ (show gA ≠ gA + 1 by omega)).trans (setRow_heap _ _ _ _ _ _ HPr.out)
     ·exact setRow_heap _ _ _ _ _ _ ((setRow_other _ _ _ _ (show gA + 1 ≠ gA by omega)).trans HFr.out)
     ·exact Kd.R_lower (Kd.R_mono (Kd.R_kept (Kd.R_bound HS5.out.rC) (HKS.out _ _) (fun k ho hs => by have := ho.2.1; have := HGT.out; rcases hs with hs | hs <;> omega)) (fun k ho => by have := ho.2.1; have := HB2.out.size; omega)) HB2.out.size
     ·exact Kd.R_lower (Kd.R_mono (Kd.R_kept HS5.out.rS (HKS.out _ _) (fun k ho hs => by have := (HS5.out.bS k ho).2.1; have := HGT.out; rcases hs with hs | hs <;> omega)) (fun k ho => ⟨by have := (HS5.out.bS k ho).2.1; have := HB2.out.size; omega, fun he => (HS5.out.dC k he.symm).2.2.1 ho⟩)) HB2.out.size
     ·exact Kd.N_V (Kd.N_mono (Kd.N_kept HS5.out.rR (HKS.out _ _) (fun k ho hs => by have := (HS5.out.bR k ho).2.1; have := HGT.out; rcases hs with hs | hs <;> omega)) (fun k ho => ⟨by have := (HS5.out.bR k ho).2.1; have := HB2.out.size; omega, fun he => (HS5.out.dC k he.symm).2.2.2 ho, fun he => (HS5.out.bS k (HS5.out.rS.1 k he.symm)).2.2.2.2 ho⟩))
     ·exact below_setRow (below_setRow HBr.out (by rw [HGA.out]; omega) _) (by rw [HGA.out]; omega) _
 ·have l1 : (c != (0 : Int)) = true := by simp [hc]
  obtain rfl : R = .error (c, a) := by rw [HR.out, polT, if_neg hc]
  go_upto_region 2 with (refine wpList_store_row rfl 30 _ _ rfl w1.heap.size #[.int .i64 c, .int .i64 a] rfl rfl 30 #[.int .i64 0, .int .i64 0] (blk_new _ _) size_fault rfl (by simp [Value.oneCell']) ?_)
  obtain ⟨w2, hw2⟩ : ∃ w2, w2 = (w1.alloc (.cells #[.int .i64 0, .int .i64 0] 30)).setRow w1.heap.size #[.int .i64 c, .int .i64 a] := ⟨_, rfl⟩
  rw [← hw2, ← hgf]
  have HX2 : Aside0 (w2.heap[gf]? = some (.cells #[.int .i64 c, .int .i64 a] 30 (0, 0))) := ⟨by rw [hw2, hgf]; exact setRow_heap _ _ _ _ _ _ (blk_new w1 (.cells #[.int .i64 0, .int .i64 0] 30))⟩
  have HLT : Aside0 (gA + 1 < gf) := ⟨by rw [hgf]; exact blk_lt HF1.out⟩
  have HK12 : Aside0 (Below w1.heap.size w1 w2) := ⟨by rw [hw2]; exact below_setRow (below_alloc (Below.refl _ _) _) (Nat.le_refl _) _⟩
  clear hw2
  have HF2 : Aside0 (w2.heap[gA + 1]? = some (.cells #[.int .i64 0, .int .i64 0] 30 (0, 0))) := ⟨blk_below HF1.out HK12.out⟩
  have HP2 : Aside0 (w2.heap[gA]? = some (.cells (polcells (.slice none 0 0) (.slice none 0 0) ⟨#[]⟩ (.slice none 0 0) false) 27 (0, 0))) := ⟨blk_below HP1.out HK12.out⟩
  have HB2 : Aside0 (Below w.heap.size w w2) := ⟨HB1.out.trans (HK12.out.mono HB1.out.size)⟩
  have t0 : w2.cell? ⟨gf, 0, none⟩ = some (.int .i64 c) := blk_cell HX2.out 0
  have d0 : w2.drew.cell? ⟨gf, 0, none⟩ = some (.int .i64 c) := blk_cell HX2.out 0
  have d1 : w2.drew.cell? ⟨gf, 1, none⟩ = some (.int .i64 a) := blk_cell HX2.out 1
  clear HF1 HP1 HB1 HT1 HK12 hgf
  go_upto_region 3 with (fail)
  refine start_ (n := 4) (S := fun w' => w'.cell? ⟨gf, 0, none⟩ = some (.int .i64 c) ∧ w'.cell? ⟨gf, 1, none⟩ = some (.int .i64 a)) (ds := [3]) #[false, false, false, false] (by kernel_rfl) rfl rfl ⟨d0, d1⟩ (fun hHeld => ?_)
  refine pure_ (i := 0) (N := some 20) (v := ?_) (a' := ?_) #[true, false, false, false] rfl rfl (by kernel_rfl) (fun _ _ _ h => h) (Or.inl ⟨by rfl, ?_⟩) ?_ ?_
  rotate_left
  ·exact sTe10_0
  rotate_left
  ·exact nTe10_
  refine take_ (i := 1) (N := some 21) (v := ?_) (a' := ?_) #[true, true, false, false] rfl rfl (by kernel_rfl) (fun _ _ _ h => h) (Or.inl ⟨by rfl, ?_⟩) hHeld ?_ ?_
  rotate_left
  ·rintro w' ⟨s0, s1⟩
   go_simp
   with_reducible rfl
  rotate_left
  ·exact nTe10_
  refine one_ (i := 2) (N := none) #[true, true, true, false] rfl rfl (by kernel_rfl) (by decide) (fun K hK => ?_)
  refine QT.storeRow_ (by rfl) rfl 27 (.tmp 2) (.tmp 20) rfl gA #[.slice none 0 0, .slice none 0 0, .string ⟨#[]⟩, .slice none 0 0, .bool false] rfl rfl 27 _ HP2.out (by kernel_rfl) rfl (by simp [Value.oneCell']) ?_
  refine hK.out _ _ ⟨(cell_setRow_other _ _ _ _ (show gf ≠ gA by have := HLT.out; omega)).trans hHeld.1, (cell_setRow_other _ _ _ _ (show gf ≠ gA by have := HLT.out; omega)).trans hHeld.2⟩ (fun hHeld => ?_)
  clear hK K
  refine last_ (i := 3) (N := none) #[true, true, true, true] rfl rfl (by kernel_rfl) (by decide) (fun K hK => ?_)
  refine QT.storeRow_ (by rfl) rfl 30 (.tmp 3) (.tmp 21) rfl (gA + 1) #[.int .i64 c, .int .i64 a] rfl rfl 30 #[.int .i64 0, .int .i64 0] ((setRow_other _ _ _ _ (show gA + 1 ≠ gA by omega)).trans HF2.out) (by kernel_rfl) rfl (by simp [Value.oneCell']) ?_
  refine hK.out _ _ ?_
  clear hK K
  refine done_ (by kernel_rfl) ?_

  rw [hput, hput]
  clear hput
  go_wp2
  refine bodyPost_ret (rpol_results _ _ gA (gA + 1) _ _ rfl rfl ?_ ?_ rfl rfl) rfl ⟨rfl, ?_⟩
  ·exact (setRow_other _ _ _ _ (show gA ≠ gA + 1 by omega)).trans (setRow_heap _ _ _ _ _ _ HP2.out)
  ·exact setRow_heap _ _ _ _ _ _ ((setRow_other _ _ _ _ (show gA + 1 ≠ gA by omega)).trans HF2.out)
  ·exact below_setRow (below_setRow (below_drew HB2.out) (by rw [HGA.out]; omega) _) (by rw [HGA.out]; omega) _
open Go.Proofs.YtngedmioeodmfaaDoor.Ps in
theorem polQR_res {w w' : World} {r : Except (Int × Int) Pst} {e : Ending} {r1 : List ByteArray} {r2 : List Sh} {r3 : ByteArray} {r4 : List Rl} {r5 : Bool} {r6 r7 : Int} (h : PolQR w r e w') (hr : polRes r = (r1, r2, r3, r4, r5, r6, r7)) :
  ∃ v0_ v1_ v3_ : Value, e = .returned (.tuple #[.agg #[v0_, v1_, .string r3, v3_, .bool r5], .agg #[.int .i64 r6, .int .i64 r7]]) ∧ Kd.R Kd.string 9 w' w.heap.size (fun k_ => (w.heap.size ≤ k_)) v0_ r1 ∧ Kd.R k44 44 w' w.heap.size (fun k_ => (w.heap.size ≤ k_) ∧ some k_ ≠ (v0_ : Value).ownBlock) v1_ r2 ∧ Kd.V k51 51 w' w.heap.size (fun k_ => (w.heap.size ≤ k_) ∧ (some k_ ≠ (v0_ : Value).ownBlock ∧ some k_ ≠ (v1_ : Value).ownBlock)) v3_ r4 ∧ Below w.heap.size w w' := by
 cases r with
 | error f =>
  obtain ⟨rfl, hb⟩ := h
  simp only [polRes, Prod.mk.injEq] at hr
  obtain ⟨rfl, rfl, rfl, rfl, rfl, rfl, rfl⟩ := hr
  exact ⟨_, _, _, rfl, Kd.R_nil _ _ _ _ _, Kd.R_nil _ _ _ _ _, Kd.V_nil _ _ _ _ _, hb⟩
 | ok s =>
  obtain ⟨v0, v1, v3, rfl, h0, h1, h3, hb⟩ := h
  simp only [polRes, Prod.mk.injEq] at hr
  obtain ⟨rfl, rfl, rfl, rfl, rfl, rfl, rfl⟩ := hr
  exact ⟨v0, v1, v3, rfl, h0, h1, h3, hb⟩
end Go.Proofs.YtngedmioeodmfaaDoor.Pu
namespace Go.Proofs.YtngedmioeodmfaaDoor.Pu
open Go.RowKit Go.Proofs.YtngedmioeodmfaaDoor.Pr Go.Proofs.YtngedmioeodmfaaDoorW.PrintWords Go.Proofs.YtngedmioeodmfaaDoorW.PrintLast Go.Proofs.YtngedmioeodmfaaDoorW.PrintMore Go.Proofs.YtngedmioeodmfaaDoor.Lx
open Go.Proofs.YtngedmioeodmfaaDoor.Ps hiding Tk
theorem rpolA (x : ByteArray) (hx : x.size ≤ 1000000) (w : World) : Calls Tryd.prog 13 #[.string x] w (PolQR w (polA x)) := by
 obtain ⟨k, hk⟩ := rtokens_ev x
 obtain ⟨T, hT⟩ : ∃ T, T = tokM x := ⟨_, rfl⟩
 have h := hk k (Nat.le_refl _)
 have ho := okTk_iff.1 (okTk_tokM x)
 rw [polA]
 rw [← hT] at h ho ⊢
 obtain ⟨T, c, a⟩ := T
 exact rpolicy_calls x k T c a w h ho.2 ho.1 hx
set_option maxHeartbeats 16000000 in
set_option maxRecDepth 100000 in
theorem texts_walk (a0 : ByteArray) (w : World) (hL : Laid w) : Calls Tryd.prog 10 #[.string a0] w fun e w' => e = .returned (.bool true) ∧ Below w.heap.size w w' := by
 have HL := Aside0.mk hL
 clear hL
 by_cases hs : a0.size > 4000
 ·have l1 : decide ((4000 : Int) < (a0.size : Int)) = true := decide_eq_true (by omega)
  have HA := Aside0.mk (awake_walk w HL.out)
  clear hs
  go_enter Tryd.func10, Tryd.ntmps10
  go_wp2_with fail
  refine HA.out.mono ?_
  rintro e w1 ⟨rfl, hb⟩
  dsimp only
  go_wp2
  go_ret
  exact ⟨rfl, hb⟩
 ·have l1 : decide ((4000 : Int) < (a0.size : Int)) = false := decide_eq_false (by omega)
  have HP := Aside0.mk (rpolA a0 (by omega) w)
  clear hs
  cases hpa : polA a0 with
  | error f =>
   have hnz : f.1 ≠ 0 := polA_nz a0 f hpa
   obtain ⟨f1, f2⟩ := f
   rw [hpa] at HP
   clear hpa
   have l2 : (f1 != 0) = true := by simpa using hnz
   clear hnz
   go_enter Tryd.func10, Tryd.ntmps10
   go_wp2_with fail
   refine HP.out.mono ?_
   rintro e w1 ⟨rfl, hb⟩
   unfold zeroPol faultV
   dsimp only
   have HB1 := Aside0.mk hb
   clear hb HP
   go_upto_region 4 with (first | refine wpList_store_row rfl 27 _ _ rfl w1.heap.size (polcells (.slice none 0 0) (.slice none 0 0) ⟨#[]⟩ (.slice none 0 0) false) rfl rfl 27 (polcells (.slice none 0 0) (.slice none 0 0) ⟨#[]⟩ (.slice none 0 0) false) (blk_alloc (blk_new _ _) _) size_pol rfl (pol_one ⟨rfl, rfl, rfl⟩ _ _) ?_ | refine wpList_store_row rfl 30 _ _ rfl (w1.heap.size + 1) #[.int .i64 f1, .int .i64 f2] rfl rfl 30 #[.int .i64 0, .int .i64 0] ((setRow_other _ _ _ _ (by omega)).trans (blk_new2 _ _ _ _ _)) size_fault rfl (by simp [Value.oneCell']) ?_)
   obtain ⟨w2, hw2⟩ : ∃ w2, w2 = sv2 w1 (polcells (.slice none 0 0) (.slice none 0 0) ⟨#[]⟩ (.slice none 0 0) false) #[.int .i64 f1, .int .i64 f2] := ⟨_, rfl⟩
   have hw2' := hw2
   unfold sv2 at hw2'
   rw [← hw2']
   have HB2 : Aside0 (Below w1.heap.size w1 w2) := ⟨by rw [hw2]; exact sv2_below _ _ _⟩
   have HT2 : Aside0 (w2.heap[w1.heap.size + 1]? = some (.cells #[.int .i64 f1, .int .i64 f2] 30 (0, 0))) := ⟨by rw [hw2]; exact sv2_flt _ _ _⟩
   clear hw2 hw2'
   have e0 : w2.cell? ⟨w1.heap.size + 1, 0, none⟩ = some (.int .i64 f1) := blk_cell HT2.out 0
   have HBW : Aside0 (Below w.heap.size w w2) := ⟨HB1.out.trans (HB2.out.mono HB1.out.size)⟩
   have HA := Aside0.mk (awake_walk w2 (Laid.below HL.out HBW.out))
   go_wp2_with fail
   refine HA.out.mono ?_
   rintro e w4 ⟨rfl, hb4⟩
   dsimp only
   have HBE : Aside0 (Below w.heap.size w w4) := ⟨HBW.out.trans (hb4.mono HBW.out.size)⟩
   clear hb4 e0
   go_wp2
   go_ret
   exact ⟨rfl, HBE.out⟩
  | ok st =>
   have hrd := read_ok hpa
   rw [hpa] at HP
   have HOK := Aside0.mk hrd.okP
   have HRS : Aside0 (∀ r ∈ st.rules, Shape r.f1 ∧ sizeC r.f1 ≤ 100000) := ⟨fun r hr => ⟨(hrd.a.r r hr).1, by have := (hrd.a.r r hr).2; omega⟩⟩
   have HRL : Aside0 (st.rules.length ≤ 60) := ⟨by have := hrd.a.n; have := hrd.a.i; omega⟩
   clear hrd hpa
   obtain ⟨csp, sh, mixed, rules, allow, items, mm, md⟩ := st
   obtain ⟨t, ht⟩ : ∃ t, t = polText csp sh mixed rules allow := ⟨_, rfl⟩
   have HT := Aside0.mk ht
   clear ht
   have hr0 : polRes (.ok (⟨csp, sh, mixed, rules, allow, items, mm, md⟩ : Pst)) = (csp, sh, mixed, rules, allow, 0, 0) := rfl
   have HR0 := Aside0.mk hr0
   clear hr0
   go_enter Tryd.func10, Tryd.ntmps10
   go_wp2_with fail
   refine HP.out.mono ?_
   intro e w1 hq
   obtain ⟨v0, v1, v3, rfl, hC, hS, hU, hb⟩ := polQR_res hq HR0.out
   obtain ⟨A0, c0, rfl⟩ := Kd.R_slice hC
   obtain ⟨A1, c1, rfl⟩ := Kd.R_slice hS
   obtain ⟨A3, c3, rfl⟩ := Kd.V_slice hU
   dsimp only
   have HB1 := Aside0.mk hb
   have HF1 : Aside0 (_ ∧ _ ∧ _) := ⟨(Kd.R_reads' hC).2, (Kd.R_reads' hS).2, (Kd.V_reads' hU).2⟩
   clear hq hC hS hU hb HP
   obtain ⟨n0, hn0⟩ : ∃ n, n = csp.length := ⟨_, rfl⟩
   obtain ⟨n1, hn1⟩ : ∃ n, n = sh.length := ⟨_, rfl⟩
   obtain ⟨n3, hn3⟩ : ∃ n, n = rules.length := ⟨_, rfl⟩
   rw [← hn0, ← hn1, ← hn3]
   have HN : Aside0 (n0 = csp.length ∧ n1 = sh.length ∧ n3 = rules.length) := ⟨⟨hn0, hn1, hn3⟩⟩
   clear hn0 hn1 hn3
   go_upto_region 4 with (first | refine wpList_store_row rfl 27 _ _ rfl w1.heap.size (polcells (.slice A0 n0 c0) (.slice A1 n1 c1) mixed (.slice A3 n3 c3) allow) rfl rfl 27 (polcells (.slice none 0 0) (.slice none 0 0) ⟨#[]⟩ (.slice none 0 0) false) (blk_alloc (blk_new _ _) _) size_pol rfl (pol_one ⟨rfl, rfl, rfl⟩ _ _) ?_ | refine wpList_store_row rfl 30 _ _ rfl (w1.heap.size + 1) #[.int .i64 0, .int .i64 0] rfl rfl 30 #[.int .i64 0, .int .i64 0] ((setRow_other _ _ _ _ (by omega)).trans (blk_new2 _ _ _ _ _)) size_fault rfl (by simp [Value.oneCell']) ?_)
   obtain ⟨w2, hw2⟩ : ∃ w2, w2 = sv2 w1 (polcells (.slice A0 n0 c0) (.slice A1 n1 c1) mixed (.slice A3 n3 c3) allow) #[.int .i64 0, .int .i64 0] := ⟨_, rfl⟩
   have hw2' := hw2
   unfold sv2 at hw2'
   rw [← hw2']
   have HB2 : Aside0 (Below w1.heap.size w1 w2) := ⟨by rw [hw2]; exact sv2_below _ _ _⟩
   have HP2 : Aside0 (w2.heap[w1.heap.size]? = some (.cells (polcells (.slice A0 n0 c0) (.slice A1 n1 c1) mixed (.slice A3 n3 c3) allow) 27 (0, 0))) := ⟨by rw [hw2]; exact sv2_pol _ _ _⟩
   have HT2 : Aside0 (w2.heap[w1.heap.size + 1]? = some (.cells #[.int .i64 0, .int .i64 0] 30 (0, 0))) := ⟨by rw [hw2]; exact sv2_flt _ _ _⟩
   clear hw2 hw2'
   have e0 : w2.cell? ⟨w1.heap.size + 1, 0, none⟩ = some (.int .i64 0) := blk_cell HT2.out 0
   obtain ⟨g, hg⟩ : ∃ g, g = w1.heap.size := ⟨_, rfl⟩
   rw [← hg] at e0 HP2 HT2 HB2 ⊢
   have HG := Aside0.mk hg
   have HBW2 : Aside0 (Below w.heap.size w w2) := ⟨HB1.out.trans ((hg ▸ HB2.out).mono HB1.out.size)⟩
   have HFC : Aside0 (_ ∧ _ ∧ _) := ⟨Kd.C_below HF1.out.1.2 (hg ▸ HB2.out), Kd.C_below HF1.out.2.1.2 (hg ▸ HB2.out), Kd.C_below HF1.out.2.2.2 (hg ▸ HB2.out)⟩
   have HFL : Aside0 (n0 ≤ c0 ∧ n1 ≤ c1 ∧ n3 ≤ c3) := ⟨by rw [HN.out.1, HN.out.2.1, HN.out.2.2]; exact ⟨HF1.out.1.1, HF1.out.2.1.1, HF1.out.2.2.1⟩⟩
   have HGS : Aside0 (g < w2.heap.size) := ⟨blk_lt HP2.out⟩
   clear hg HF1
   go_wp2
   clear e0
   go_loopg [5] n3 (fun gk v5 wr => ∃ (i : Nat), v5 = .int .i64 i ∧ Aside0 (i ≤ n3) ∧ Aside0 (n3 - i ≤ gk) ∧ Aside0 (Below w2.heap.size w2 wr))
   case atStart => exact ⟨0, rfl, ⟨Nat.zero_le _⟩, ⟨Nat.le_refl _⟩, ⟨Below.refl _ _⟩⟩
   case round =>
    obtain ⟨i, rfl, HIL, HIG, HB⟩ := hrel
    have p3 : wr.cell? ⟨g, 3, none⟩ = some (.slice A3 n3 c3) := blk_cell (blk_below HP2.out HB.out) 3
    by_cases hi : i < n3
    ·have l2 : decide (i < n3) = true := decide_eq_true hi
     have l3 : decide ((i : Int) < (n3 : Int)) = true := decide_eq_true (by omega)
     have l4 : (i : Int) < (n3 : Int) := by omega
     have hib : (i : Int) ≤ 1000000 := by have := HRL.out; have := HN.out.2.2; omega
     have HJL : Aside0 (i < rules.length) := ⟨by rw [← HN.out.2.2]; exact hi⟩
     have HI3 : Aside0 (i < n3) := ⟨hi⟩
     obtain ⟨ad, A5, c5, hA, q0, q1, q2, q3, q4, hl5, hC5⟩ := at_T51 HFC.out.2.2 (i : Int) (by omega) (by have := HJL.out; omega)
     obtain rfl : A3 = some ad := hA
     have hrd : rd_T51 rules (i : Int) = rules[i]'HJL.out := by have := HJL.out; simp [rd_T51, this]
     obtain ⟨x, hx⟩ : ∃ x, x = rules[i]'HJL.out := ⟨_, rfl⟩
     have HMEM : Aside0 (x ∈ rules) := ⟨by rw [hx]; exact List.getElem_mem _⟩
     rw [hrd, ← hx] at q0 q1 q2 q3 q4 hl5 hC5
     simp only [Int.toNat_natCast] at q0 q1 q2 q3 q4
     obtain ⟨d, hd1, hd2⟩ := depth_calls (HRS.out x HMEM.out).2
     have hd3 := hd1 A5 c5 wr.drew (Kd.C_drew (Kd.C_below hC5 HB.out)) hl5
     have HD2 : Aside0 (∀ w6, Below w2.heap.size w2 w6 → _) := ⟨fun w6 hb6 => hd2 A5 c5 w6 (Kd.C_below hC5 hb6) hl5⟩
     obtain ⟨k, hk⟩ : ∃ k, k = x.f1.f0 := ⟨_, rfl⟩
     obtain ⟨a0', ha0⟩ : ∃ a, a = x.f1.f1.f0 := ⟨_, rfl⟩
     obtain ⟨a1', ha1⟩ : ∃ a, a = x.f1.f1.f1 := ⟨_, rfl⟩
     obtain ⟨m, hm⟩ : ∃ m, m = x.f1.f2.length := ⟨_, rfl⟩
     rw [← hk, ← ha0, ← ha1, ← hm] at hd3 HD2
     rw [← hk] at q1
     rw [← ha0] at q2
     rw [← ha1] at q3
     rw [← hm] at q4
     have HQ1 : Aside0 (_ ∧ _ ∧ _ ∧ _) := ⟨⟨q1, q2, q3, q4⟩⟩
     have HD3 := Aside0.mk hd3
     have HBD : Aside0 (Below w2.heap.size w2 wr.drew) := ⟨below_drew HB.out⟩
     replace q1 : wr.drew.cell? _ = _ := (HB.out.cell (World.block_lt_of_cell? w2 _ q1)).trans q1
     replace q2 : wr.drew.cell? _ = _ := (HB.out.cell (World.block_lt_of_cell? w2 _ q2)).trans q2
     replace q3 : wr.drew.cell? _ = _ := (HB.out.cell (World.block_lt_of_cell? w2 _ q3)).trans q3
     replace q4 : wr.drew.cell? _ = _ := (HB.out.cell (World.block_lt_of_cell? w2 _ q4)).trans q4
     have l5 : (d != d) = false := by simp
     clear hd1 hd2 hd3 hC5 hl5 hk ha0 ha1 hm hx hrd q0 hi
     go_upto_region 9 with (fail)
     have p3 : wr.drew.cell? ⟨g, 3, none⟩ = some (.slice (some ad) n3 c3) := p3
     refine start_ (n := 15) (S := fun w' => w'.cell? ⟨g, 3, none⟩ = some (.slice (some ad) n3 c3) ∧ w'.cell? ⟨(ad.add (i * 5)).block, (ad.add (i * 5)).off + 1, none⟩ = some (.int .i64 k) ∧ w'.cell? ⟨(ad.add (i * 5)).block, (ad.add (i * 5)).off + 2, none⟩ = some (.string a0') ∧ w'.cell? ⟨(ad.add (i * 5)).block, (ad.add (i * 5)).off + 3, none⟩ = some (.string a1') ∧ w'.cell? ⟨(ad.add (i * 5)).block, (ad.add (i * 5)).off + 4, none⟩ = some (.slice A5 m c5)) (ds := []) #[false, false, false, false, false, false, false, false, false, false, false, false, false, false, false] (by kernel_rfl) rfl rfl ⟨p3, q1, q2, q3, q4⟩ (fun hHeld => ?_)
     refine pure_ (i := 0) (N := some 26) (v := ?_) (a' := ?_) #[true, false, false, false, false, false, false, false, false, false, false, false, false, false, false] rfl rfl (by kernel_rfl) (fun _ _ _ h => h) (Or.inl ⟨by rfl, ?_⟩) ?_ ?_
     rotate_left
     ·exact sTe10_0
     rotate_left
     ·exact nTe10_
     refine pure_ (i := 2) (N := some 28) (v := ?_) (a' := ?_) #[true, false, true, false, false, false, false, false, false, false, false, false, false, false, false] rfl rfl (by kernel_rfl) (fun _ _ _ h => h) (Or.inl ⟨by rfl, ?_⟩) ?_ ?_
     rotate_left
     ·exact sTe10_0
     rotate_left
     ·exact nTe10_
     refine pure_ (i := 7) (N := some 33) (v := ?_) (a' := ?_) #[true, false, true, false, false, false, false, true, false, false, false, false, false, false, false] rfl rfl (by kernel_rfl) (fun _ _ _ h => h) (Or.inl ⟨by rfl, ?_⟩) ?_ ?_
     rotate_left
     ·exact sTe10_0
     rotate_left
     ·exact nTe10_
     refine pure_ (i := 9) (N := some 35) (v := ?_) (a' := ?_) #[true, false, true, false, false, false, false, true, false, true, false, false, false, false, false] rfl rfl (by kernel_rfl) (fun _ _ _ h => h) (Or.inl ⟨by rfl, ?_⟩) ?_ ?_
     rotate_left
     ·exact sTe10_0
     rotate_left
     ·exact nTe10_
     refine take_ (i := 1) (N := some 27) (v := ?_) (a' := ?_) #[true, true, true, false, false, false, false, true, false, true, false, false, false, false, false] rfl rfl (by kernel_rfl) (fun _ _ _ h => h) (Or.inl ⟨by rfl, ?_⟩) hHeld ?_ ?_
     rotate_left
     ·exact sTe10_2
     rotate_left
     ·exact nTe10_
     refine pure_ (i := 3) (N := some 29) (v := ?_) (a' := ?_) #[true, true, true, true, false, false, false, true, false, true, false, false, false, false, false] rfl rfl (by kernel_rfl) (fun _ _ _ h => h) (Or.inl ⟨by rfl, ?_⟩) ?_ ?_
     rotate_left
     ·exact sTe10_0
     rotate_left
     ·exact nTe10_
     refine pure_ (i := 4) (N := some 30) (v := ?_) (a' := ?_) #[true, true, true, true, true, false, false, true, false, true, false, false, false, false, false] rfl rfl (by kernel_rfl) (fun _ _ _ h => h) (Or.inl ⟨by rfl, ?_⟩) ?_ ?_
     rotate_left
     ·exact sTe10_0
     rotate_left
     ·exact nTe10_
     refine take_ (i := 5) (N := some 31) (v := ?_) (a' := ?_) #[true, true, true, true, true, true, false, true, false, true, false, false, false, false, false] rfl rfl (by kernel_rfl) (fun _ _ _ h => h) (Or.inl ⟨by rfl, ?_⟩) hHeld ?_ ?_
     rotate_left
     ·exact sTe10_2
     rotate_left
     ·exact nTe10_
     refine take_ (i := 8) (N := some 34) (v := ?_) (a' := ?_) #[true, true, true, true, true, true, false, true, true, true, false, false, false, false, false] rfl rfl (by kernel_rfl) (fun _ _ _ h => h) (Or.inl ⟨by rfl, ?_⟩) hHeld ?_ ?_
     rotate_left
     ·exact sTe10_2
     rotate_left
     ·exact nTe10_
     refine pure_ (i := 10) (N := some 36) (v := ?_) (a' := ?_) #[true, true, true, true, true, true, false, true, true, true, true, false, false, false, false] rfl rfl (by kernel_rfl) (fun _ _ _ h => h) (Or.inl ⟨by rfl, ?_⟩) ?_ ?_
     rotate_left
     ·exact sTe10_0
     rotate_left
     ·exact nTe10_
     refine pure_ (i := 11) (N := some 37) (v := ?_) (a' := ?_) #[true, true, true, true, true, true, false, true, true, true, true, true, false, false, false] rfl rfl (by kernel_rfl) (fun _ _ _ h => h) (Or.inl ⟨by rfl, ?_⟩) ?_ ?_
     rotate_left
     ·exact sTe10_0
     rotate_left
     ·exact nTe10_
     refine take_ (i := 12) (N := some 38) (v := ?_) (a' := ?_) #[true, true, true, true, true, true, false, true, true, true, true, true, true, false, false] rfl rfl (by kernel_rfl) (fun _ _ _ h => h) (Or.inl ⟨by rfl, ?_⟩) hHeld ?_ ?_
     rotate_left
     ·exact sTe10_2
     rotate_left
     ·exact nTe10_
     refine one_ (i := 6) (N := some 32) #[true, true, true, true, true, true, true, true, true, true, true, true, true, false, false] rfl rfl (by kernel_rfl) (by decide) (fun K hK => ?_)
     refine goes_ Tryd.func16 (by kernel_rfl) rfl #[.agg #[.int .i64 k, .string a0', .string a1', .slice A5 m c5]] (by rfl) rfl rfl (by simp only [List.map_toArray, List.map_cons, List.map_nil]; rfl) ?_
     refine HD3.out.mono ?_
     rintro e w6 ⟨rfl, hb6⟩
     refine ⟨_, rfl, ?_⟩
     have HB6 : Aside0 (Below w2.heap.size w2 w6) := ⟨HBD.out.trans (hb6.mono HBD.out.size)⟩
     have HD6 := Aside0.mk (HD2.out w6 HB6.out)
     clear hb6
     refine hK.out _ _ ⟨(blk_cell (blk_below HP2.out HB6.out) 3), ((HB6.out.cell (World.block_lt_of_cell? w2 _ HQ1.out.1)).trans HQ1.out.1), ((HB6.out.cell (World.block_lt_of_cell? w2 _ HQ1.out.2.1)).trans HQ1.out.2.1), ((HB6.out.cell (World.block_lt_of_cell? w2 _ HQ1.out.2.2.1)).trans HQ1.out.2.2.1), ((HB6.out.cell (World.block_lt_of_cell? w2 _ HQ1.out.2.2.2)).trans HQ1.out.2.2.2)⟩ (fun hHeld => ?_)
     clear hK K
     refine norm_ (a' := ?_) ?_ ?_
     rotate_left
     ·show Act.put _ (some 32) _ = _
      exact nTe10_
     refine one_ (i := 13) (N := some 39) #[true, true, true, true, true, true, true, true, true, true, true, true, true, true, false] rfl rfl (by kernel_rfl) (by decide) (fun K hK => ?_)
     refine goes_ Tryd.func18 (by kernel_rfl) rfl #[.agg #[.int .i64 k, .string a0', .string a1', .slice A5 m c5]] (by rfl) rfl rfl (by simp only [List.map_toArray, List.map_cons, List.map_nil]; rfl) ?_
     refine HD6.out.mono ?_
     rintro e w8 ⟨rfl, hb8⟩
     refine ⟨_, rfl, ?_⟩
     have HB8 : Aside0 (Below w2.heap.size w2 w8) := ⟨HB6.out.trans (hb8.mono HB6.out.size)⟩
     clear hb8
     refine hK.out _ _ ⟨(blk_cell (blk_below HP2.out HB8.out) 3), ((HB8.out.cell (World.block_lt_of_cell? w2 _ HQ1.out.1)).trans HQ1.out.1), ((HB8.out.cell (World.block_lt_of_cell? w2 _ HQ1.out.2.1)).trans HQ1.out.2.1), ((HB8.out.cell (World.block_lt_of_cell? w2 _ HQ1.out.2.2.1)).trans HQ1.out.2.2.1), ((HB8.out.cell (World.block_lt_of_cell? w2 _ HQ1.out.2.2.2)).trans HQ1.out.2.2.2)⟩ (fun hHeld => ?_)
     clear hK K
     refine norm_ (a' := ?_) ?_ ?_
     rotate_left
     ·show Act.put _ (some 39) _ = _
      exact nTe10_
     refine pure_ (i := 14) (N := some 40) (v := ?_) (a' := ?_) #[true, true, true, true, true, true, true, true, true, true, true, true, true, true, true] rfl rfl (by kernel_rfl) (fun _ _ _ h => h) (Or.inl ⟨by rfl, ?_⟩) ?_ ?_
     rotate_left
     ·exact sTe10_0
     rotate_left
     ·exact nTe10_
     refine done_ (by kernel_rfl) ?_

     clear p3 q1 q2 q3 q4 l2 l3 l4
     go_wp2
     go_roundg (n3 - (i + 1))
     case measure => have := HIG.out; have := HI3.out; omega
     case rel => exact ⟨i + 1, by first | rfl | go_num, ⟨HI3.out⟩, ⟨Nat.le_refl _⟩, HB8⟩
    ·have l2 : decide (i < n3) = false := decide_eq_false hi
     have l3 : decide ((i : Int) < (n3 : Int)) = false := decide_eq_false (by omega)
     have HTX := text_calls HOK.out A0 A1 A3 n0 c0 n1 c1 n3 c3 wr.drew (Kd.C_drew (Kd.C_below HFC.out.1 HB.out)) HN.out.1 HFL.out.1 (Kd.C_drew (Kd.C_below HFC.out.2.1 HB.out)) HN.out.2.1 HFL.out.2.1 (Kd.C_drew (Kd.C_below HFC.out.2.2 HB.out)) HN.out.2.2 HFL.out.2.2
     have HRX : Aside0 (∀ w6, Below w2.heap.size w2 w6 → Calls Tryd.prog 19 #[.agg #[.slice A0 n0 c0, .slice A1 n1 c1, .string mixed, .slice A3 n3 c3, .bool allow]] w6 fun e w' => e = .returned (.string t) ∧ Below w6.heap.size w6 w') := ⟨fun w6 hb6 => by
      rw [HT.out]
      exact rtext_calls HOK.out HRS.out A0 A1 A3 n0 c0 n1 c1 n3 c3 w6 (Kd.C_below HFC.out.1 hb6) HN.out.1 HFL.out.1 (Kd.C_below HFC.out.2.1 hb6) HN.out.2.1 HFL.out.2.1 (Kd.C_below HFC.out.2.2 hb6) HN.out.2.2 HFL.out.2.2⟩
     rw [← HT.out] at HTX
     have HTX := Aside0.mk HTX
     have HBD : Aside0 (Below w2.heap.size w2 wr.drew) := ⟨below_drew HB.out⟩
     have l5 : (t.toList == t.toList) = true := by simp
     clear hi
     go_upto_region 11 with (fail)
     have r0 : wr.drew.cell? ⟨g, 0, none⟩ = some (.slice A0 n0 c0) := blk_cell (blk_below HP2.out HBD.out) 0
     have r1 : wr.drew.cell? ⟨g, 1, none⟩ = some (.slice A1 n1 c1) := blk_cell (blk_below HP2.out HBD.out) 1
     have r2 : wr.drew.cell? ⟨g, 2, none⟩ = some (.string mixed) := blk_cell (blk_below HP2.out HBD.out) 2
     have r3 : wr.drew.cell? ⟨g, 3, none⟩ = some (.slice A3 n3 c3) := blk_cell (blk_below HP2.out HBD.out) 3
     have r4 : wr.drew.cell? ⟨g, 4, none⟩ = some (.bool allow) := blk_cell (blk_below HP2.out HBD.out) 4
     clear p3 l2 l3
     refine start_ (n := 9) (S := fun w' => w'.cell? ⟨g, 0, none⟩ = some (.slice A0 n0 c0) ∧ w'.cell? ⟨g, 1, none⟩ = some (.slice A1 n1 c1) ∧ w'.cell? ⟨g, 2, none⟩ = some (.string mixed) ∧ w'.cell? ⟨g, 3, none⟩ = some (.slice A3 n3 c3) ∧ w'.cell? ⟨g, 4, none⟩ = some (.bool allow)) (ds := [6]) #[false, false, false, false, false, false, false, false, false] (by kernel_rfl) rfl rfl ⟨r0, r1, r2, r3, r4⟩ (fun hHeld => ?_)
     refine take_ (i := 0) (N := some 41) (v := ?_) (a' := ?_) #[true, false, false, false, false, false, false, false, false] rfl rfl (by kernel_rfl) (fun _ _ _ h => h) (Or.inl ⟨by rfl, ?_⟩) hHeld ?_ ?_
     rotate_left
     ·exact sTe10_2
     rotate_left
     ·exact nTe10_
     refine take_ (i := 2) (N := some 43) (v := ?_) (a' := ?_) #[true, false, true, false, false, false, false, false, false] rfl rfl (by kernel_rfl) (fun _ _ _ h => h) (Or.inl ⟨by rfl, ?_⟩) hHeld ?_ ?_
     rotate_left
     ·exact sTe10_2
     rotate_left
     ·exact nTe10_
     refine one_ (i := 1) (N := some 42) #[true, true, true, false, false, false, false, false, false] rfl rfl (by kernel_rfl) (by decide) (fun K hK => ?_)
     refine goes_ Tryd.func17 (by kernel_rfl) rfl #[.agg #[.slice A0 n0 c0, .slice A1 n1 c1, .string mixed, .slice A3 n3 c3, .bool allow]] (by rfl) rfl rfl (by simp only [List.map_toArray, List.map_cons, List.map_nil]; rfl) ?_
     refine HTX.out.mono ?_
     rintro e w6 ⟨rfl, hb6⟩
     refine ⟨_, rfl, ?_⟩
     have HB6 : Aside0 (Below w2.heap.size w2 w6) := ⟨HBD.out.trans (hb6.mono HBD.out.size)⟩
     have HR6 := Aside0.mk (HRX.out w6 HB6.out)
     clear hb6
     refine hK.out _ _ ⟨(blk_cell (blk_below HP2.out HB6.out) 0), (blk_cell (blk_below HP2.out HB6.out) 1), (blk_cell (blk_below HP2.out HB6.out) 2), (blk_cell (blk_below HP2.out HB6.out) 3), (blk_cell (blk_below HP2.out HB6.out) 4)⟩ (fun hHeld => ?_)
     clear hK K
     refine norm_ (a' := ?_) ?_ ?_
     rotate_left
     ·show Act.put _ (some 42) _ = _
      exact nTe10_
     refine one_ (i := 3) (N := some 44) #[true, true, true, true, false, false, false, false, false] rfl rfl (by kernel_rfl) (by decide) (fun K hK => ?_)
     refine goes_ Tryd.func19 (by kernel_rfl) rfl #[.agg #[.slice A0 n0 c0, .slice A1 n1 c1, .string mixed, .slice A3 n3 c3, .bool allow]] (by rfl) rfl rfl (by simp only [List.map_toArray, List.map_cons, List.map_nil]; rfl) ?_
     refine HR6.out.mono ?_
     rintro e w8 ⟨rfl, hb8⟩
     refine ⟨_, rfl, ?_⟩
     have HB8 : Aside0 (Below w2.heap.size w2 w8) := ⟨HB6.out.trans (hb8.mono HB6.out.size)⟩
     have HBW8 : Aside0 (Below w.heap.size w w8) := ⟨HBW2.out.trans (HB8.out.mono HBW2.out.size)⟩
     have HA := Aside0.mk (awake_walk w8 (Laid.below HL.out HBW8.out))
     clear hb8
     refine hK.out _ _ ⟨(blk_cell (blk_below HP2.out HB8.out) 0), (blk_cell (blk_below HP2.out HB8.out) 1), (blk_cell (blk_below HP2.out HB8.out) 2), (blk_cell (blk_below HP2.out HB8.out) 3), (blk_cell (blk_below HP2.out HB8.out) 4)⟩ (fun hHeld => ?_)
     clear hK K
     refine norm_ (a' := ?_) ?_ ?_
     rotate_left
     ·show Act.put _ (some 44) _ = _
      exact nTe10_
     refine pure_ (i := 4) (N := some 45) (v := ?_) (a' := ?_) #[true, true, true, true, true, false, false, false, false] rfl rfl (by kernel_rfl) (fun _ _ _ h => h) (Or.inl ⟨by rfl, ?_⟩) ?_ ?_
     rotate_left
     ·exact sTe10_0
     rotate_left
     ·exact nTe10_
     refine pure_ (i := 5) (N := some 46) (v := ?_) (a' := ?_) #[true, true, true, true, true, true, false, false, false] rfl rfl (by kernel_rfl) (fun _ _ _ h => h) (Or.inl ⟨by rfl, ?_⟩) ?_ ?_
     rotate_left
     ·exact sTe10_0
     rotate_left
     ·exact nTe10_
     refine last_ (i := 6) (N := some 47) #[true, true, true, true, true, true, true, false, false] rfl rfl (by kernel_rfl) (by decide) (fun K hK => ?_)
     refine goes_ Tryd.func11 (by kernel_rfl) rfl #[] (by rfl) rfl rfl (by simp) ?_
     refine HA.out.mono ?_
     rintro e w9 ⟨rfl, hb9⟩
     refine ⟨_, rfl, ?_⟩
     have HBE : Aside0 (Below w.heap.size w w9) := ⟨HBW8.out.trans (hb9.mono HBW8.out.size)⟩
     clear hb9
     refine hK.out _ _ ?_
     clear hK K
     refine norm_ (a' := ?_) ?_ ?_
     rotate_left
     ·show Act.put _ (some 47) _ = _
      exact nTe10_
     refine pure_ (i := 7) (N := some 48) (v := ?_) (a' := ?_) #[true, true, true, true, true, true, true, true, false] rfl rfl (by kernel_rfl) (fun _ _ _ h => h) (Or.inl ⟨by rfl, ?_⟩) ?_ ?_
     rotate_left
     ·exact sTe10_0
     rotate_left
     ·exact nTe10_
     refine pure_ (i := 8) (N := some 2) (v := ?_) (a' := ?_) #[true, true, true, true, true, true, true, true, true] rfl rfl (by kernel_rfl) (fun _ _ _ h => h) (Or.inl ⟨by rfl, ?_⟩) ?_ ?_
     rotate_left
     ·exact sTe10_0
     rotate_left
     ·exact nTe10_
     refine done_ (by kernel_rfl) ?_

     go_wp2
     go_ret
     exact ⟨rfl, HBE.out⟩
end Go.Proofs.YtngedmioeodmfaaDoor.Pu
