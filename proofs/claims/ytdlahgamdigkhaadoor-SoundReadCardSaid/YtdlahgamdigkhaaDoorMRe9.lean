/- 6 texts of the proof, put together, less what is not used; what a tool printed stands among them. -/
import Derived.Test.YtdlahgamdigkhaaDoorMRe8
set_option linter.unusedVariables false
set_option linter.unusedSimpArgs false
set_option maxRecDepth 100000
namespace Go.Proofs
open Go.RowKit
theorem nRe9_ {p_ : Prop} (h_ : p_ := by
 simp only [Act.put, List.setIfInBounds_toArray, List.set_cons_zero, List.set_cons_succ, i64_w, i32_w]
 rfl) : p_ := h_
theorem sRe9_0 {p_ : Prop} (h_ : p_ := by
 have l3 : decide ((60 : Int) ≤ (it : Int)) = true := decide_eq_true (by omega)
 have HRE0 : Aside0 (R = .error (2, p0)) := ⟨by rw [HRK.out, item_in HTK2.out HMEM.out, if_neg (by rw [HWD.out]; decide +kernel), if_neg (by rw [HWD.out]; decide +kernel), if_pos (by have := HIT.out; omega)]; rfl⟩
 go_wp2_with fail
 refine (r_wrong (T := T) (e := s.size) p 2 HI8.out HB8.out).mono ?_
 rintro e w9 ⟨rfl, hs, hb, hk⟩
 dsimp only
 have HIX := Aside0.mk hs
 have HBX := Aside0.mk hb
 have HKX := Aside0.mk hk
 clear hs hb hk
 rw [← HTK2.out] at HIX
 have hc9 : (2 : Int) ≠ 0 := by decide
 obtain ⟨cE, hcE⟩ : ∃ cE : Int, cE = 2 := ⟨_, rfl⟩
 rw [← hcE] at HIX hc9 HRE0
 have HRE := HRE0
 clear hcE HRE0
 exact sc_bad) : p_ := h_
theorem sRe9_1 {p_ : Prop} (h_ : p_ := by
 intro w'
 go_simp
 with_reducible rfl) : p_ := h_
theorem sRe9_2 {p_ : Prop} (h_ : p_ := by
 have l3 : (k0 == (3 : Int)) = false := by simp [hk0]
 have HR : Aside0 (R = atomP T e p) := ⟨by rw [HR0.out]; exact notN_atom HIF.out (by rw [← HK0.out]; exact hk0) _⟩
 have l4 : ((nxt T e p).f0 == (3 : Int)) = false := by rw [← HK0.out]; exact l3
 clear hk0
 exact sc_atom) : p_ := h_
end Go.Proofs
namespace Go.Proofs.YtdlahgamdigkhaaDoor.Pu
open Go.RowKit Go.Proofs.YtdlahgamdigkhaaDoor.Pr Go.Proofs.YtdlahgamdigkhaaDoorW.PrintWords Go.Proofs.YtdlahgamdigkhaaDoorW.PrintLast Go.Proofs.YtdlahgamdigkhaaDoorW.PrintMore Go.Proofs.YtdlahgamdigkhaaDoor.Lx
open Go.Proofs.YtdlahgamdigkhaaDoor.Ps hiding Tk
set_option maxHeartbeats 16000000
set_option maxRecDepth 100000
theorem r_is (s : ByteArray) {w0 w : World} {g : Nat} {T : List Tk} {e : Int} (p : Nat) (h : IsR w0 w g T (p : Int) e 0 0) (hB : Below w0.heap.size w0 w) (b : Bool) (hb : isP T e [s] p = b) :
  Calls Tryd.prog 43 #[.pointer (some ⟨g, 0, none⟩), .string s] w fun e' w' => e' = .returned (.bool b) ∧ Step w0 w g T (p : Int) e 0 0 w' := by
 have hr := ris_good (T := T) (e := e) s p
 rw [hb] at hr
 exact (parapetref19_Reader_is.calls g T _ _ _ _ s _ _ _ _ _ w0 w h hB hr).mono fun _ _ ⟨h1, h2, h3, h4⟩ => ⟨h1, h2, h3, h4⟩
theorem r_close {w0 w : World} {g : Nat} {T : List Tk} {e : Int} {r : Res Cd} {s : Cd} {i c a : Int} (hQ : CdQ r s i c a) (hT : T.length ≤ 1000000) (h : IsR w0 w g T i e c a) (hB : Below w0.heap.size w0 w) :
  ∃ t i2 c2 a2, CdQ (closeP T e r) s i2 c2 a2 ∧ Calls Tryd.prog 28 #[.pointer (some ⟨g, 0, none⟩), .int .i64 4] w fun e' w' => e' = .returned (.string t) ∧ Step w0 w g T i2 e c2 a2 w' := by
 cases r with
 | error x =>
  obtain ⟨x, y⟩ := x
  obtain ⟨hx, hi, rfl, rfl⟩ := hQ
  exact ⟨_, i, c, a, ⟨hx, hi, rfl, rfl⟩, r_next_bad 4 hi hx hT h hB⟩
 | ok x =>
  obtain ⟨s', q⟩ := x
  obtain ⟨rfl, rfl, rfl, rfl⟩ := hQ
  obtain ⟨t, i2, c2, a2, hN, hC⟩ := r_next (T := T) (e := e) 4 q (by decide) hT h hB
  refine ⟨t, i2, c2, a2, ?_, hC⟩
  show CdQ (closeK s (takeP T e 4 q)) s i2 c2 a2
  cases ht : takeP T e 4 q with
  | error y => obtain ⟨y, z⟩ := y; rw [ht] at hN; exact ⟨hN.1, hN.2.1, hN.2.2.1, hN.2.2.2.1⟩
  | ok y => obtain ⟨t2, q2⟩ := y; rw [ht] at hN; obtain ⟨_, rfl, rfl, rfl⟩ := hN; exact ⟨rfl, rfl, rfl, rfl⟩
theorem wrap_cd {r : Res Cd} {s : Cd} {i c a : Int} (hQ : CdQ r s i c a) : CdQ (wrapNot r) (cond0 4 [s]) i c a := by
 cases r with
 | error x => exact hQ
 | ok x => obtain ⟨s', q⟩ := x; obtain ⟨rfl, rfl, rfl, rfl⟩ := hQ; exact ⟨rfl, rfl, rfl, rfl⟩
theorem not_yes {T : List Tk} {e : Int} {n p : Nat} (h : isP T e [wNot] p = true) : notN T e (n + 1) p = wrapNot (notN T e n (p + 1)) := by rw [notN, h, if_pos rfl]
theorem not_open {T : List Tk} {e : Int} {n p : Nat} (h : isP T e [wNot] p = false) (h3 : (nxt T e p).f0 = 3) : notN T e (n + 1) p = closeP T e (orP T e (notN T e n) (p + 1)) := by rw [notN, h, if_neg Bool.false_ne_true, if_pos h3]
theorem notN_atom {T : List Tk} {e : Int} {p : Nat} (h : isP T e [wNot] p = false) (h3 : (nxt T e p).f0 ≠ 3) : ∀ n, notN T e n p = atomP T e p
 | 0 => by rw [notN, h, if_neg Bool.false_ne_true, if_neg h3]
 | n + 1 => by rw [notN, h, if_neg Bool.false_ne_true, if_neg h3]
theorem not_deep0 {T : List Tk} {e : Int} {p : Nat} (h : isP T e [wNot] p = true ∨ (nxt T e p).f0 = 3) : notN T e 0 p = .error (2, (nxt T e p).f1) := by
 rw [notN]
 rcases h with h | h
 ·rw [h, if_pos rfl]
 ·split
  ·rfl
  ·simp only [h, if_true]
theorem sc_deep {p_ : Prop} (h_ : p_ := by
 go_wp2_with fail
 refine (r_wrong (T := T) (e := e) p 2 HA3.out.i HA3.out.b).mono ?_
 rintro ed w4 ⟨rfl, hs⟩
 dsimp only
 have HA4 := Aside0.mk (HA3.out.step hs)
 have HX4 : Aside0 (w4.heap[gr]? = some (.cells #[.int .i64 0, .string ⟨#[]⟩, .string ⟨#[]⟩, .slice none 0 0] 39 (0, 0))) := ⟨blk_keep HX3.out hs.2.2 HG.out.1⟩
 clear hs HA3 HX3
 go_wp2_with (refine wpList_store_row rfl 39 _ _ rfl gr (cdcells ⟨0, ⟨⟨#[]⟩, ⟨#[]⟩⟩, []⟩ (.slice none 0 0)) rfl rfl 39 _ HX4.out size_cd rfl (cd_one _ _ rfl) ?_)
 exact bodyPost_ret (cond_ret rfl rfl (setRow_heap _ _ _ _ _ _ HX4.out)) rfl ⟨_, _, 2, _, _, by rw [HR.out]; exact ⟨by decide, by omega, rfl, rfl⟩, rfl, Kd.V_nil _ _ _ _ _, (HA4.out.setRow HG.out.1 HG.out.2.1 (Nat.le_of_eq HG.out.2.2.1) _).to⟩) : p_ := h_
theorem sc_atom {p_ : Prop} (h_ : p_ := by
 go_wp2_with fail
 refine (r_take0 (T := T) (e := e) wNot p HT.out HA3.out.i HA3.out.b HIF.out).mono ?_
 rintro ed w4 ⟨rfl, hs⟩
 dsimp only
 have HA4 := Aside0.mk (HA3.out.step hs)
 have HX4 : Aside0 (w4.heap[gr]? = some (.cells #[.int .i64 0, .string ⟨#[]⟩, .string ⟨#[]⟩, .slice none 0 0] 39 (0, 0))) := ⟨blk_keep HX3.out hs.2.2 HG.out.1⟩
 have H5 := Aside0.mk (r_kind (T := T) (e := e) p HA4.out.i HA4.out.b)
 clear hs HA3 HX3
 go_wp2_with fail
 refine H5.out.mono ?_
 rintro ed w5 ⟨rfl, hs⟩
 dsimp only
 have HA5 := Aside0.mk (HA4.out.step hs)
 have HX5 : Aside0 (w5.heap[gr]? = some (.cells #[.int .i64 0, .string ⟨#[]⟩, .string ⟨#[]⟩, .slice none 0 0] 39 (0, 0))) := ⟨blk_keep HX4.out hs.2.2 HG.out.1⟩
 have H6 := Aside0.mk (ratom_calls w0 w5 g T e p HA5.out.i HA5.out.b HT.out HS.out)
 clear hs HA4 HX4 H5
 go_wp2_with fail
 refine H6.out.mono ?_
 rintro ed w6 ⟨s6, i6, c6, a6, v6, hq6, rfl, hv6, hs6⟩
 unfold cdcells
 dsimp only
 have HA6 := Aside0.mk (HA5.out.step hs6)
 have HX6 : Aside0 (w6.heap[gr]? = some (.cells #[.int .i64 0, .string ⟨#[]⟩, .string ⟨#[]⟩, .slice none 0 0] 39 (0, 0))) := ⟨blk_keep HX5.out hs6.2.2 HG.out.1⟩
 have HV6 : Aside0 (Kd.V k39 39 w6 0 (fun k => gr < k) v6 s6.f2) := ⟨Kd.V_lower (Kd.V_mono hv6 (fun k hk => by have := blk_lt HX5.out; omega)) (Nat.zero_le _)⟩
 have HQ6 : Aside0 (CdQ R s6 i6 c6 a6) := ⟨by rw [HR.out]; exact hq6⟩
 clear hq6 hv6 hs6 HA5 HX5 H6
 go_wp2_with (refine wpList_store_row rfl 39 _ _ rfl gr (cdcells s6 v6) rfl rfl 39 _ HX6.out size_cd rfl (cd_one _ _ (V_cell1 HV6.out)) ?_)
 exact bodyPost_ret (cond_ret rfl rfl (setRow_heap _ _ _ _ _ _ HX6.out)) rfl ⟨s6, i6, c6, a6, v6, HQ6.out, rfl, V_out HV6.out HG.out.2.2.1 _, (HA6.out.setRow HG.out.1 HG.out.2.1 (Nat.le_of_eq HG.out.2.2.1) _).to⟩) : p_ := h_
theorem rnot_calls (w0 : World) (g : Nat) (T : List Tk) (e : Int) (hT : T.length ≤ 1000000) (hS : ∀ t ∈ T, t.f2.size ≤ 1000000) : ∀ (n : Nat), n ≤ 30 → ∀ (p : Nat) (W : World), IsR w0 W g T (p : Int) e 0 0 → Below w0.heap.size w0 W →
  Calls Tryd.prog 57 #[.pointer (some ⟨g, 0, none⟩), .int .i64 (30 - (n : Int))] W (CondQ w0 W g T e (notN T e n p)) := by
 intro n
 induction n with
 | zero =>
  intro hn p W h hB
  have HT := Aside0.mk hT
  have HS := Aside0.mk hS
  obtain ⟨gr, hgr⟩ : ∃ gr, gr = W.heap.size := ⟨_, rfl⟩
  have HA1 : Aside0 (At w0 W (W.alloc (.cells #[.int .i64 0, .string ⟨#[]⟩, .string ⟨#[]⟩, .slice none 0 0] 39)) g T (p : Int) e 0 0) := ⟨(At.start h hB).alloc _⟩
  have HX1 : Aside0 ((W.alloc (.cells #[.int .i64 0, .string ⟨#[]⟩, .string ⟨#[]⟩, .slice none 0 0] 39)).heap[gr]? = some (.cells #[.int .i64 0, .string ⟨#[]⟩, .string ⟨#[]⟩, .slice none 0 0] 39 (0, 0))) := ⟨by rw [hgr]; exact blk_new _ _⟩
  have HG : Aside0 (gr ≠ g ∧ w0.heap.size ≤ gr ∧ W.heap.size = gr ∧ g < gr) := ⟨by have := IsS66.lt h; have := hB.size; omega⟩
  obtain ⟨R, hR⟩ : ∃ R, R = notN T e 0 p := ⟨_, rfl⟩
  rw [← hR]
  have HR0 := Aside0.mk hR
  obtain ⟨w1, hw1⟩ : ∃ w1, w1 = W.alloc (.cells #[.int .i64 0, .string ⟨#[]⟩, .string ⟨#[]⟩, .slice none 0 0] 39) := ⟨_, rfl⟩
  rw [← hw1] at HA1 HX1
  have HW1 := Aside0.mk hw1
  have HGR := Aside0.mk hgr
  have l0 : ((0 : Int) != 0) = false := by decide
  clear hR h hB hw1 hgr
  cases hif : isP T e [wNot] p with
  | true =>
   have HIF := Aside0.mk hif
   have HR : Aside0 (R = .error (2, (nxt T e p).f1)) := ⟨by rw [HR0.out]; exact not_deep0 (.inl HIF.out)⟩
   clear hif
   go_enter Tryd.func57, Tryd.ntmps57
   go_upto_region 1 with (fail)
   rw [← HW1.out, ← HGR.out]
   clear HW1 HGR
   go_wp2_with fail
   refine (bad_quiet w0 _ g T _ _ 0 0 false l0 HA1.out.i).mono ?_
   rintro ed w' ⟨rfl, hww⟩
   obtain rfl := hww.symm
   clear hww
   dsimp only
   go_wp2_with fail
   refine (r_is wNot p HA1.out.i HA1.out.b _ HIF.out).mono ?_
   rintro ed w2 ⟨rfl, hs⟩
   dsimp only
   have HA2 := Aside0.mk (HA1.out.step hs)
   have HX2 : Aside0 (w2.heap[gr]? = some (.cells #[.int .i64 0, .string ⟨#[]⟩, .string ⟨#[]⟩, .slice none 0 0] 39 (0, 0))) := ⟨blk_keep HX1.out hs.2.2 HG.out.1⟩
   clear hs HA1 HX1 l0
   have HA3 := HA2
   have HX3 := HX2
   clear HA2 HX2
   exact sc_deep
  | false =>
   have HIF := Aside0.mk hif
   clear hif
   go_enter Tryd.func57, Tryd.ntmps57
   go_upto_region 1 with (fail)
   rw [← HW1.out, ← HGR.out]
   clear HW1 HGR
   go_wp2_with fail
   refine (bad_quiet w0 _ g T _ _ 0 0 false l0 HA1.out.i).mono ?_
   rintro ed w' ⟨rfl, hww⟩
   obtain rfl := hww.symm
   clear hww
   dsimp only
   go_wp2_with fail
   refine (r_is wNot p HA1.out.i HA1.out.b _ HIF.out).mono ?_
   rintro ed w2 ⟨rfl, hs⟩
   dsimp only
   have HA2 := Aside0.mk (HA1.out.step hs)
   have HX2 : Aside0 (w2.heap[gr]? = some (.cells #[.int .i64 0, .string ⟨#[]⟩, .string ⟨#[]⟩, .slice none 0 0] 39 (0, 0))) := ⟨blk_keep HX1.out hs.2.2 HG.out.1⟩
   clear hs HA1 HX1 l0
   obtain ⟨k0, hk0⟩ : ∃ k0, k0 = (nxt T e p).f0 := ⟨_, rfl⟩
   have h3 := r_kind (T := T) (e := e) p HA2.out.i HA2.out.b
   rw [← hk0] at h3
   have H3 := Aside0.mk h3
   have HK0 := Aside0.mk hk0
   clear h3 hk0
   go_wp2_with fail
   refine H3.out.mono ?_
   rintro ed w3 ⟨rfl, hs⟩
   dsimp only
   have HA3 := Aside0.mk (HA2.out.step hs)
   have HX3 : Aside0 (w3.heap[gr]? = some (.cells #[.int .i64 0, .string ⟨#[]⟩, .string ⟨#[]⟩, .slice none 0 0] 39 (0, 0))) := ⟨blk_keep HX2.out hs.2.2 HG.out.1⟩
   clear hs HA2 HX2 H3
   by_cases hk0 : k0 = 3
   ·have l3 : (k0 == (3 : Int)) = true := by simp [hk0]
    have HR : Aside0 (R = .error (2, (nxt T e p).f1)) := ⟨by rw [HR0.out]; exact not_deep0 (.inr (by rw [← HK0.out]; exact hk0))⟩
    clear hk0
    exact sc_deep
   ·exact sRe9_2
 | succ n ih =>
  intro hn p W h hB
  have HT := Aside0.mk hT
  have HS := Aside0.mk hS
  obtain ⟨gr, hgr⟩ : ∃ gr, gr = W.heap.size := ⟨_, rfl⟩
  have HA1 : Aside0 (At w0 W (W.alloc (.cells #[.int .i64 0, .string ⟨#[]⟩, .string ⟨#[]⟩, .slice none 0 0] 39)) g T (p : Int) e 0 0) := ⟨(At.start h hB).alloc _⟩
  have HX1 : Aside0 ((W.alloc (.cells #[.int .i64 0, .string ⟨#[]⟩, .string ⟨#[]⟩, .slice none 0 0] 39)).heap[gr]? = some (.cells #[.int .i64 0, .string ⟨#[]⟩, .string ⟨#[]⟩, .slice none 0 0] 39 (0, 0))) := ⟨by rw [hgr]; exact blk_new _ _⟩
  have HG : Aside0 (gr ≠ g ∧ w0.heap.size ≤ gr ∧ W.heap.size = gr ∧ g < gr) := ⟨by have := IsS66.lt h; have := hB.size; omega⟩
  obtain ⟨R, hR⟩ : ∃ R, R = notN T e (n + 1) p := ⟨_, rfl⟩
  rw [← hR]
  have HR0 := Aside0.mk hR
  obtain ⟨w1, hw1⟩ : ∃ w1, w1 = W.alloc (.cells #[.int .i64 0, .string ⟨#[]⟩, .string ⟨#[]⟩, .slice none 0 0] 39) := ⟨_, rfl⟩
  rw [← hw1] at HA1 HX1
  have HW1 := Aside0.mk hw1
  have HGR := Aside0.mk hgr
  have l0 : ((0 : Int) != 0) = false := by decide
  clear hR h hB hw1 hgr
  have hd0 : ¬ (30 : Int) ≤ 30 - ((n + 1 : Nat) : Int) := by omega
  obtain ⟨d, hd⟩ : ∃ d : Int, d = 30 - ((n + 1 : Nat) : Int) := ⟨_, rfl⟩
  have hd2 : d + 1 = 30 - (n : Int) := by omega
  have l2 : decide ((30 : Int) ≤ d) = false := decide_eq_false (by rw [hd]; exact hd0)
  have hdl : 0 ≤ d ∧ d ≤ 30 := by omega
  rw [← hd]
  have HD2 := Aside0.mk hd2
  have HIH := Aside0.mk (ih (by omega))
  have hdl1 := hdl.1
  have hdl2 := hdl.2
  clear ih hd hd0 hd2 hdl hn
  cases hif : isP T e [wNot] p with
  | true =>
   have HIF := Aside0.mk hif
   have HR : Aside0 (R = wrapNot (notN T e n (p + 1))) := ⟨by rw [HR0.out]; exact not_yes HIF.out⟩
   clear hif
   go_enter Tryd.func57, Tryd.ntmps57
   go_upto_region 1 with (fail)
   rw [← HW1.out, ← HGR.out]
   clear HW1 HGR
   go_wp2_with fail
   refine (bad_quiet w0 _ g T _ _ 0 0 false l0 HA1.out.i).mono ?_
   rintro ed w' ⟨rfl, hww⟩
   obtain rfl := hww.symm
   clear hww
   dsimp only
   go_wp2_with fail
   refine (r_is wNot p HA1.out.i HA1.out.b _ HIF.out).mono ?_
   rintro ed w2 ⟨rfl, hs⟩
   dsimp only
   have HA2 := Aside0.mk (HA1.out.step hs)
   have HX2 : Aside0 (w2.heap[gr]? = some (.cells #[.int .i64 0, .string ⟨#[]⟩, .string ⟨#[]⟩, .slice none 0 0] 39 (0, 0))) := ⟨blk_keep HX1.out hs.2.2 HG.out.1⟩
   clear hs HA1 HX1 l0
   have HA3 := HA2
   have HX3 := HX2
   clear HA2 HX2
   go_wp2_with fail
   refine (r_take1 (T := T) (e := e) wNot p HT.out HA3.out.i HA3.out.b HIF.out).mono ?_
   rintro ed w4 ⟨rfl, hs⟩
   dsimp only
   have HA4 := Aside0.mk (HA3.out.step hs)
   have HX4 : Aside0 (w4.heap[gr]? = some (.cells #[.int .i64 0, .string ⟨#[]⟩, .string ⟨#[]⟩, .slice none 0 0] 39 (0, 0))) := ⟨blk_keep HX3.out hs.2.2 HG.out.1⟩
   have h6 := HIH.out (p + 1) w4 HA4.out.i HA4.out.b
   rw [← HD2.out] at h6
   have H6 := Aside0.mk h6
   clear hs h6 HA3 HX3
   go_wp2_with fail
   refine H6.out.mono ?_
   rintro ed w6 ⟨s6, i6, c6, a6, v6, hq6, rfl, hv6, hs6⟩
   unfold cdcells
   dsimp only
   have HA6 := Aside0.mk ((HA4.out.step hs6).alloc (.cells #[.int .i64 s6.f0, .string s6.f1.f0, .string s6.f1.f1, v6] 39))
   have HX6 : Aside0 (w6.heap[gr]? = some (.cells #[.int .i64 0, .string ⟨#[]⟩, .string ⟨#[]⟩, .slice none 0 0] 39 (0, 0))) := ⟨blk_keep HX4.out hs6.2.2 HG.out.1⟩
   have HF6 : Aside0 (Kd.FK k39 w6 (fun k => gr < k) s6 [.int .i64 s6.f0, .string s6.f1.f0, .string s6.f1.f1, v6]) := ⟨cd_mkF (Kd.V_lower (Kd.V_mono hv6 (fun k hk => by have := blk_lt HX4.out; omega)) (Nat.zero_le _))⟩
   have HN6 : Aside0 (Kd.N k39 39 (w6.alloc (.cells #[.int .i64 s6.f0, .string s6.f1.f0, .string s6.f1.f1, v6] 39)) w0.heap.size (fun k => gr < k) (.slice (some ⟨w6.heap.size, 0, none⟩) 1 1) [s6]) := ⟨row_oneN w6 w0.heap.size s6 v6 _ _ HF6.out (fun _ hk => hk) (blk_lt HX6.out) (HA4.out.step hs6).b.size⟩
   have HX7 : Aside0 ((w6.alloc (.cells #[.int .i64 s6.f0, .string s6.f1.f0, .string s6.f1.f1, v6] 39)).heap[gr]? = some (.cells #[.int .i64 0, .string ⟨#[]⟩, .string ⟨#[]⟩, .slice none 0 0] 39 (0, 0))) := ⟨blk_alloc HX6.out _⟩
   have HV6 := Aside0.mk (Kd.N_V (base' := 0) HN6.out)
   have HQ6 : Aside0 (CdQ R (cond0 4 [s6]) i6 c6 a6) := ⟨by rw [HR.out]; exact wrap_cd hq6⟩
   clear hq6 hv6 hs6 HA4 HX4 H6 HX6 HF6 HN6
   go_wp2_with (refine wpList_store_row rfl 39 _ _ rfl gr (cdcells (cond0 4 [s6]) (.slice (some ⟨w6.heap.size, 0, none⟩) 1 1)) rfl rfl 39 _ HX7.out size_cd rfl (cd_one _ _ rfl) ?_)
   exact bodyPost_ret (cond_ret rfl rfl (setRow_heap _ _ _ _ _ _ HX7.out)) rfl ⟨cond0 4 [s6], i6, c6, a6, _, HQ6.out, rfl, V_out HV6.out HG.out.2.2.1 _, (HA6.out.setRow HG.out.1 HG.out.2.1 (Nat.le_of_eq HG.out.2.2.1) _).to⟩
  | false =>
   have HIF := Aside0.mk hif
   clear hif
   go_enter Tryd.func57, Tryd.ntmps57
   go_upto_region 1 with (fail)
   rw [← HW1.out, ← HGR.out]
   clear HW1 HGR
   go_wp2_with fail
   refine (bad_quiet w0 _ g T _ _ 0 0 false l0 HA1.out.i).mono ?_
   rintro ed w' ⟨rfl, hww⟩
   obtain rfl := hww.symm
   clear hww
   dsimp only
   go_wp2_with fail
   refine (r_is wNot p HA1.out.i HA1.out.b _ HIF.out).mono ?_
   rintro ed w2 ⟨rfl, hs⟩
   dsimp only
   have HA2 := Aside0.mk (HA1.out.step hs)
   have HX2 : Aside0 (w2.heap[gr]? = some (.cells #[.int .i64 0, .string ⟨#[]⟩, .string ⟨#[]⟩, .slice none 0 0] 39 (0, 0))) := ⟨blk_keep HX1.out hs.2.2 HG.out.1⟩
   clear hs HA1 HX1 l0
   obtain ⟨k0, hk0⟩ : ∃ k0, k0 = (nxt T e p).f0 := ⟨_, rfl⟩
   have h3 := r_kind (T := T) (e := e) p HA2.out.i HA2.out.b
   rw [← hk0] at h3
   have H3 := Aside0.mk h3
   have HK0 := Aside0.mk hk0
   clear h3 hk0
   go_wp2_with fail
   refine H3.out.mono ?_
   rintro ed w3 ⟨rfl, hs⟩
   dsimp only
   have HA3 := Aside0.mk (HA2.out.step hs)
   have HX3 : Aside0 (w3.heap[gr]? = some (.cells #[.int .i64 0, .string ⟨#[]⟩, .string ⟨#[]⟩, .slice none 0 0] 39 (0, 0))) := ⟨blk_keep HX2.out hs.2.2 HG.out.1⟩
   clear hs HA2 HX2 H3
   by_cases hk0 : k0 = 3
   ·have l3 : (k0 == (3 : Int)) = true := by simp [hk0]
    have HR : Aside0 (R = closeP T e (orP T e (notN T e n) (p + 1))) := ⟨by rw [HR0.out]; exact not_open HIF.out (by rw [← HK0.out]; exact hk0)⟩
    have HPT : Aside0 (p < T.length) := ⟨by
     apply Classical.byContradiction
     intro hn
     have h2 := HK0.out
     rw [nxt, dif_neg hn] at h2
     have h3 : k0 = 0 := h2
     rw [h3] at hk0
     exact absurd hk0 (by decide)⟩
    have hjb : (p : Int) ≤ 1000000 := by have := HT.out; have := HPT.out; omega
    clear hk0
    go_wp2_with fail
    refine (r_take0 (T := T) (e := e) wNot p HT.out HA3.out.i HA3.out.b HIF.out).mono ?_
    rintro ed w4 ⟨rfl, hs⟩
    dsimp only
    have HA4 := Aside0.mk (HA3.out.step hs)
    have HX4 : Aside0 (w4.heap[gr]? = some (.cells #[.int .i64 0, .string ⟨#[]⟩, .string ⟨#[]⟩, .slice none 0 0] 39 (0, 0))) := ⟨blk_keep HX3.out hs.2.2 HG.out.1⟩
    have h5 := r_kind (T := T) (e := e) p HA4.out.i HA4.out.b
    rw [← HK0.out] at h5
    have H5 := Aside0.mk h5
    clear hs h5 HA3 HX3
    go_wp2_with fail
    refine H5.out.mono ?_
    rintro ed w5 ⟨rfl, hs⟩
    dsimp only
    have HA5 := Aside0.mk (HA4.out.step hs)
    have HX5 : Aside0 (w5.heap[gr]? = some (.cells #[.int .i64 0, .string ⟨#[]⟩, .string ⟨#[]⟩, .slice none 0 0] 39 (0, 0))) := ⟨blk_keep HX4.out hs.2.2 HG.out.1⟩
    clear hs HA4 HX4 H5
    obtain ⟨A8, c8, hb8, _, _⟩ := HA5.out.i
    have t1 : w5.cell? ⟨g, 1, none⟩ = some (.int .i64 (p : Int)) := cellS66_1 hb8
    have f1 := blk_frozen hb8 1
    clear hb8
    go_upto_region 11 with (fail)
    obtain ⟨w6, hw6⟩ : ∃ w6, w6 = w5.setCell ⟨g, 1, none⟩ (.int .i64 ((p : Int) + 1)) := ⟨_, rfl⟩
    rw [← hw6]
    have HA6 : Aside0 (At w0 W w6 g T ((p + 1 : Nat) : Int) e 0 0) := ⟨by rw [hw6]; exact HA5.out.next⟩
    have HX6 : Aside0 (w6.heap[gr]? = some (.cells #[.int .i64 0, .string ⟨#[]⟩, .string ⟨#[]⟩, .slice none 0 0] 39 (0, 0))) := ⟨by rw [hw6]; exact blk_next HX5.out HG.out.1⟩
    clear hw6 t1 f1 HA5 HX5
    have h7 := ror_calls w0 w6 g T e (30 - (n : Int)) HT.out (one := kidsP T e 5 wAnd (notN T e n)) (fun q W2 hi2 hb2 => rand_calls w0 W2 g T e (30 - (n : Int)) HT.out (fun q3 W3 hi3 hb3 => HIH.out q3 W3 hi3 hb3) (fun q c r h => notN_mono T e n q c r h) q hi2 hb2) (kidsP_mono (notN_mono T e n)) (p + 1) HA6.out.i HA6.out.b
    rw [← HD2.out] at h7
    have H7 := Aside0.mk h7
    clear h7
    go_wp2_with fail
    refine H7.out.mono ?_
    rintro ed w7 ⟨s7, i7, c7, a7, v7, hq7, rfl, hv7, hs7⟩
    unfold cdcells
    dsimp only
    have HA7 := Aside0.mk (HA6.out.step hs7)
    have HX7 : Aside0 (w7.heap[gr]? = some (.cells #[.int .i64 0, .string ⟨#[]⟩, .string ⟨#[]⟩, .slice none 0 0] 39 (0, 0))) := ⟨blk_keep HX6.out hs7.2.2 HG.out.1⟩
    have HV7 : Aside0 (Kd.V k39 39 w7 0 (fun k => gr < k ∧ k < w7.heap.size) v7 s7.f2) := ⟨Kd.V_bound (Kd.V_lower (Kd.V_mono hv7 (fun k hk => by have := blk_lt HX6.out; omega)) (Nat.zero_le _))⟩
    have HQ7 : Aside0 (CdQ (orP T e (notN T e n) (p + 1)) s7 i7 c7 a7) := ⟨hq7⟩
    obtain ⟨gc, hgc⟩ : ∃ gc, gc = w7.heap.size := ⟨_, rfl⟩
    clear hq7 hv7 hs7 HA6 HX6 H7
    go_upto_region 12 with (refine wpList_store_row rfl 39 _ _ rfl w7.heap.size (cdcells s7 v7) rfl rfl 39 #[.int .i64 0, .string ⟨#[]⟩, .string ⟨#[]⟩, .slice none 0 0] (blk_new _ _) size_cd rfl (cd_one _ _ (V_cell1 HV7.out)) ?_)
    obtain ⟨w8, hw8⟩ : ∃ w8, w8 = (w7.alloc (.cells #[.int .i64 0, .string ⟨#[]⟩, .string ⟨#[]⟩, .slice none 0 0] 39)).setRow w7.heap.size (cdcells s7 v7) := ⟨_, rfl⟩
    rw [← hw8, ← hgc]
    have HGC : Aside0 (gc ≠ g ∧ w0.heap.size ≤ gc ∧ W.heap.size ≤ gc ∧ gr < gc) := ⟨by have := HG.out; have := blk_lt HX7.out; omega⟩
    have HA8 : Aside0 (At w0 W w8 g T i7 e c7 a7) := ⟨by rw [hw8, ← hgc]; exact (HA7.out.alloc _).setRow HGC.out.1 HGC.out.2.1 HGC.out.2.2.1 _⟩
    have HX8 : Aside0 (w8.heap[gr]? = some (.cells #[.int .i64 0, .string ⟨#[]⟩, .string ⟨#[]⟩, .slice none 0 0] 39 (0, 0))) := ⟨by rw [hw8]; exact (setRow_other _ _ _ _ (by have := HGC.out; omega)).trans (blk_alloc HX7.out _)⟩
    have HY8 : Aside0 (w8.heap[gc]? = some (.cells (cdcells s7 v7) 39 (0, 0))) := ⟨by rw [hw8, hgc]; exact setRow_heap _ _ _ _ _ _ (blk_new w7 (.cells #[.int .i64 0, .string ⟨#[]⟩, .string ⟨#[]⟩, .slice none 0 0] 39))⟩
    have HV8 : Aside0 (Kd.V k39 39 w8 0 (fun k => gr < k ∧ k < gc) v7 s7.f2) := ⟨by rw [hw8]; exact Kd.V_mono (Kd.V_kept (Kd.V_alloc HV7.out _) (kept_setRow _ _ _) (fun k hk he => by omega)) (fun k hk => by omega)⟩
    clear hw8 hgc HA7 HX7 HV7
    obtain ⟨t9, i9, c9, a9, hq9, hc9⟩ := r_close (w := w8) HQ7.out HT.out HA8.out.i HA8.out.b
    have HQ9 : Aside0 (CdQ R s7 i9 c9 a9) := ⟨by rw [HR.out]; exact hq9⟩
    have HC9 := Aside0.mk hc9
    clear hq9 hc9 HQ7
    go_wp2_with fail
    refine HC9.out.mono ?_
    rintro ed w9 ⟨rfl, hs9⟩
    dsimp only
    have HA9 := Aside0.mk (HA8.out.step hs9)
    have HX9 : Aside0 (w9.heap[gr]? = some (.cells #[.int .i64 0, .string ⟨#[]⟩, .string ⟨#[]⟩, .slice none 0 0] 39 (0, 0))) := ⟨blk_keep HX8.out hs9.2.2 HG.out.1⟩
    have HY9 : Aside0 (w9.heap[gc]? = some (.cells (cdcells s7 v7) 39 (0, 0))) := ⟨blk_keep HY8.out hs9.2.2 HGC.out.1⟩
    have HV9 : Aside0 (Kd.V k39 39 w9 0 (fun k => gr < k) v7 s7.f2) := ⟨Kd.V_mono (Kd.V_keep HV8.out hs9.2.2 (fun k hk => by have := HG.out; omega)) (fun k hk => hk.1)⟩
    clear hs9 HA8 HX8 HY8 HV8 HC9
    go_wp2_with (first | refine wpList_load_row rfl 39 _ rfl gc rfl 39 (cdcells s7 v7) (0, 0) _ HY9.out Tryd.underlying39 rfl size_cd ?_ | refine wpList_store_row rfl 39 _ _ rfl gr (cdcells s7 v7) rfl rfl 39 _ HX9.out size_cd rfl (cd_one _ _ (V_cell1 HV9.out)) ?_)
    exact bodyPost_ret (cond_ret rfl rfl (setRow_heap _ _ _ _ _ _ HX9.out)) rfl ⟨s7, i9, c9, a9, v7, HQ9.out, rfl, V_out HV9.out HG.out.2.2.1 _, (HA9.out.setRow HG.out.1 HG.out.2.1 (Nat.le_of_eq HG.out.2.2.1) _).to⟩
   ·exact sRe9_2
theorem rcond_calls (w0 W : World) (g : Nat) (T : List Tk) (e : Int) (hT : T.length ≤ 1000000) (hS : ∀ t ∈ T, t.f2.size ≤ 1000000) (p : Nat) (h : IsR w0 W g T (p : Int) e 0 0) (hB : Below w0.heap.size w0 W) :
  Calls Tryd.prog 31 #[.pointer (some ⟨g, 0, none⟩), .int .i64 0] W (CondQ w0 W g T e (condP T e p)) :=
 ror_calls w0 W g T e 0 hT (one := kidsP T e 5 wAnd (notN T e 30)) (fun q W2 hi2 hb2 => rand_calls w0 W2 g T e 0 hT (fun q3 W3 hi3 hb3 => rnot_calls w0 g T e hT hS 30 (Nat.le_refl _) q3 W3 hi3 hb3) (notN_mono T e 30) q hi2 hb2) (kidsP_mono (notN_mono T e 30)) p h hB
end Go.Proofs.YtdlahgamdigkhaaDoor.Pu
namespace Go.Proofs.YtdlahgamdigkhaaDoor.Pu
open Go.RowKit Go.Proofs.YtdlahgamdigkhaaDoor.Pr Go.Proofs.YtdlahgamdigkhaaDoorW.PrintWords Go.Proofs.YtdlahgamdigkhaaDoorW.PrintLast Go.Proofs.YtdlahgamdigkhaaDoorW.PrintMore Go.Proofs.YtdlahgamdigkhaaDoor.Lx
open Go.Proofs.YtdlahgamdigkhaaDoor.Ps hiding Tk
structure ShS (w0 w : World) (gs : Nat) (s : Sh) (vM vH : Value) : Prop where
 blk : w.heap[gs]? = some (.cells #[.string s.f0, vM, vH, .bool s.f3] 47 (0, 0))
 rM : Kd.string.R 9 w w0.heap.size (fun k => gs < k) vM s.f1
 rH : Kd.string.R 9 w w0.heap.size (fun k => gs < k) vH s.f2
 d : ∀ k, vM.ownBlock = some k → vH.ownBlock ≠ some k
theorem ShS.keep {w0 w w' : World} {gs g : Nat} {s : Sh} {vM vH : Value} (h : ShS w0 w gs s vM vH) (hk : KeepBut w w' g none) (hg : g < gs) : ShS w0 w' gs s vM vH :=
 ⟨blk_keep h.blk hk (by omega), Kd.R_keep h.rM hk (fun k ho => by omega), Kd.R_keep h.rH hk (fun k ho => by omega), h.d⟩
theorem At.set {w0 W w : World} {g gr : Nat} {T : List Tk} {i e c a : Int} (h : At w0 W w g T i e c a) (hg : gr ≠ g) (h0 : w0.heap.size ≤ gr) (hW : W.heap.size ≤ gr) (j : Nat) (v : Value) : At w0 W (w.setCell ⟨gr, j, none⟩ v) g T i e c a := by
 refine ⟨IsS66.far h.i (p := ⟨gr, j, none⟩) (Ne.symm hg) _, h.b.setCell (p := ⟨gr, j, none⟩) h0 _, by rw [World.size_setCell]; exact h.k.1, fun k hk hne hr => ?_⟩
 exact (Below.heap_setCell w ⟨gr, j, none⟩ v k (by show k ≠ gr; omega)).trans (h.k.2 k hk hne hr)
theorem ShS.meth {w0 w w9 : World} {gs : Nat} {s : Sh} {vM vH v9 : Value} {t : ByteArray} (h : ShS w0 w gs s vM vH) (hO : Kd.string.R 9 w9 w0.heap.size (fun k => gs < k) v9 (s.f1 ++ [t])) (hG : w.grownBy w9 vM.ownBlock) (hat : v9.ownBlock = vM.ownBlock ∨ ∃ k, v9.ownBlock = some k ∧ w.heap.size ≤ k) :
  ShS w0 (w9.setCell ⟨gs, 1, none⟩ v9) gs ⟨s.f0, s.f1 ++ [t], s.f2, s.f3⟩ v9 vH := by
 have h9 : w9.heap[gs]? = some (.cells #[.string s.f0, vM, vH, .bool s.f3] 47 (0, 0)) := blk_grown h.blk hG (fun he => Nat.lt_irrefl _ (h.rM.1 gs he.symm))
 refine ⟨blk_set h9 1 _, Kd.R_far hO (p := ⟨gs, 1, none⟩) (fun k hk (he : k = gs) => by omega) _, Kd.R_far (Kd.R_mono (Kd.R_grown (Kd.R_tight2 rfl h.rH) hG (fun k hk he => h.d k he.symm (hk.1.symm))) (fun k hk => hk.2)) (p := ⟨gs, 1, none⟩) (fun k hk (he : k = gs) => by omega) _, fun k hk hh => ?_⟩
 rcases hat with h1 | ⟨k2, h1, h2⟩
 ·exact h.d k (h1.symm.trans hk) hh
 ·rw [h1] at hk; cases hk; have := Kd.R_lt h.rH _ hh; omega
theorem ShS.head {w0 w w9 : World} {gs : Nat} {s : Sh} {vM vH v9 : Value} {t : ByteArray} (h : ShS w0 w gs s vM vH) (hO : Kd.string.R 9 w9 w0.heap.size (fun k => gs < k) v9 (s.f2 ++ [t])) (hG : w.grownBy w9 vH.ownBlock) (hat : v9.ownBlock = vH.ownBlock ∨ ∃ k, v9.ownBlock = some k ∧ w.heap.size ≤ k) :
  ShS w0 (w9.setCell ⟨gs, 2, none⟩ v9) gs ⟨s.f0, s.f1, s.f2 ++ [t], s.f3⟩ vM v9 := by
 have h9 : w9.heap[gs]? = some (.cells #[.string s.f0, vM, vH, .bool s.f3] 47 (0, 0)) := blk_grown h.blk hG (fun he => Nat.lt_irrefl _ (h.rH.1 gs he.symm))
 refine ⟨blk_set h9 2 _, Kd.R_far (Kd.R_mono (Kd.R_grown (Kd.R_tight2 rfl h.rM) hG (fun k hk he => h.d k hk.1.symm he.symm)) (fun k hk => hk.2)) (p := ⟨gs, 2, none⟩) (fun k hk (he : k = gs) => by omega) _, Kd.R_far hO (p := ⟨gs, 2, none⟩) (fun k hk (he : k = gs) => by omega) _, fun k hk hh => ?_⟩
 rcases hat with h1 | ⟨k2, h1, h2⟩
 ·exact h.d k hk (h1.symm.trans hh)
 ·rw [h1] at hh; cases hh; have := Kd.R_lt h.rM _ hk; omega
def SSit (T : List Tk) (e : Int) (R : Res Sh) (gk : Nat) (s : Sh) (i c a : Int) : Prop :=
 (c ≠ 0 ∧ 0 ≤ i ∧ R = .error (c, a)) ∨ ∃ (f q : Nat), i = (q : Int) ∧ c = 0 ∧ a = 0 ∧ R = shareL T e f s q ∧ T.length + 1 ≤ f + q ∧ T.length - q + 1 ≤ gk ∧ s.f1.length ≤ q ∧ s.f2.length ≤ q
section
variable {T : List Tk} {e : Int} {R : Res Sh} {f q : Nat} {s : Sh} {t : ByteArray} {i c a : Int}
theorem sit_meth (hQ : NxQ (takeP T e 1 (q + 1)) t i c a) (hR : R = shareM T e f s (takeP T e 1 (q + 1))) (hf : T.length ≤ f + q) (h1 : s.f1.length ≤ q) (h2 : s.f2.length ≤ q) (hq : q < T.length) : SSit T e R (T.length - q) ⟨s.f0, s.f1 ++ [t], s.f2, s.f3⟩ i c a := by
 cases ht : takeP T e 1 (q + 1) with
 | error x => obtain ⟨x, y⟩ := x; rw [ht] at hQ hR; obtain ⟨hx, hi, rfl, rfl, _⟩ := hQ; exact .inl ⟨hx, hi, hR⟩
 | ok x =>
  obtain ⟨t', q2⟩ := x
  rw [ht] at hQ hR
  obtain ⟨rfl, rfl, rfl, rfl⟩ := hQ
  have := takeP_mono ht
  exact .inr ⟨f, q2, rfl, rfl, rfl, hR, by omega, by omega, by show (s.f1 ++ [t]).length ≤ q2; rw [List.length_append, List.length_singleton]; omega, by show s.f2.length ≤ q2; omega⟩
theorem sit_head (hQ : NxQ (takeP T e 1 (q + 1)) t i c a) (hR : R = shareH T e f s (takeP T e 1 (q + 1))) (hf : T.length ≤ f + q) (h1 : s.f1.length ≤ q) (h2 : s.f2.length ≤ q) (hq : q < T.length) : SSit T e R (T.length - q) ⟨s.f0, s.f1, s.f2 ++ [t], s.f3⟩ i c a := by
 cases ht : takeP T e 1 (q + 1) with
 | error x => obtain ⟨x, y⟩ := x; rw [ht] at hQ hR; obtain ⟨hx, hi, rfl, rfl, _⟩ := hQ; exact .inl ⟨hx, hi, hR⟩
 | ok x =>
  obtain ⟨t', q2⟩ := x
  rw [ht] at hQ hR
  obtain ⟨rfl, rfl, rfl, rfl⟩ := hQ
  have := takeP_mono ht
  exact .inr ⟨f, q2, rfl, rfl, rfl, hR, by omega, by omega, by show s.f1.length ≤ q2; omega, by show (s.f2 ++ [t]).length ≤ q2; rw [List.length_append, List.length_singleton]; omega⟩
theorem share_first {p : Nat} (hQ : NxQ (takeP T e 2 p) t i c a) (hR : R = shareP T e p) : SSit T e R (T.length + 1) ⟨t, [], [], false⟩ i c a := by
 rw [shareP] at hR
 cases ht : takeP T e 2 p with
 | error x => obtain ⟨x, y⟩ := x; rw [ht] at hQ hR; obtain ⟨hx, hi, rfl, rfl, _⟩ := hQ; exact .inl ⟨hx, hi, hR⟩
 | ok x =>
  obtain ⟨t', q2⟩ := x
  rw [ht] at hQ hR
  obtain ⟨rfl, rfl, rfl, rfl⟩ := hQ
  exact .inr ⟨T.length + 1 - q2, q2, rfl, rfl, rfl, hR, by omega, by omega, Nat.zero_le _, Nat.zero_le _⟩
theorem share_word {w : ByteArray} (h : isP T e [w] q = true) (hw : memB w [wMethod, wHeader, wCreds] = true) : shareL T e (f + 1) s q = shareK T e f s (.ok (w, q + 1)) := by
 obtain ⟨h1, h2⟩ := one_word h
 rw [shareL_succ _ _ _ _ _ (show true = isP T e [wMethod, wHeader, wCreds] q by rw [isP, h1, h2, hw]; rfl), takeP, if_pos h1, h2]
theorem share_none (h0 : isP T e [wMethod] q = false) (h1 : isP T e [wHeader] q = false) (h2 : isP T e [wCreds] q = false) : ∀ f, shareL T e f s q = .ok (s, q)
 | 0 => rfl
 | f + 1 => by rw [shareL, isP_cons, isP_cons wHeader, h0, h1, h2]; rfl
end
theorem own_none {v : Value} {gs W : Nat} (h : ∀ k, v.ownBlock = some k → gs < k) (hW : W ≤ gs) : v.ownBlock = none ∨ ∃ b, v.ownBlock = some b ∧ W ≤ b := by
 cases hv : v.ownBlock with
 | none => exact .inl rfl
 | some b => exact .inr ⟨b, rfl, by have := h b hv; omega⟩
def ShareR (w0 w : World) (g : Nat) (T : List Tk) (e : Int) (r : Res Sh) (ed : Ending) (w' : World) : Prop :=
 ∃ (s : Sh) (i c a : Int) (v1 v2 : Value), ShQ r s i c a ∧ ed = .returned (.agg #[.string s.f0, v1, v2, .bool s.f3]) ∧ Kd.string.R 9 w' w0.heap.size (fun k => w.heap.size ≤ k) v1 s.f1 ∧ Kd.string.R 9 w' w0.heap.size (fun k => w.heap.size ≤ k) v2 s.f2 ∧ Step w0 w g T i e c a w'
set_option maxHeartbeats 16000000
set_option maxRecDepth 100000
theorem sh_one {vM vH : Value} (h : vM.oneCell' = true ∧ vH.oneCell' = true) (o : ByteArray) (b : Bool) : (#[.string o, vM, vH, .bool b] : Array Value).all (·.oneCell') = true := by
 rw [← Array.all_toList]
 show ((Value.string o).oneCell' && (vM.oneCell' && (vH.oneCell' && ((Value.bool b).oneCell' && true)))) = true
 rw [h.1, h.2]; rfl
theorem sc_share {p_ : Prop} (h_ : p_ := by
 obtain ⟨AM, nM, eM⟩ := Kd.R_slice HSS.out.rM
 obtain ⟨AH, nH, eH⟩ := Kd.R_slice HSS.out.rH
 have HCC : Aside0 (vM.oneCell' = true ∧ vH.oneCell' = true) := ⟨by rw [eM, eH]; exact ⟨rfl, rfl⟩⟩
 clear eM eH
 go_wp2_with (first | refine wpList_load_row rfl 47 _ rfl gs rfl 47 #[.string s.f0, vM, vH, .bool s.f3] (0, 0) _ HSS.out.blk Tryd.underlying47 rfl size_sh ?_ | refine wpList_store_row rfl 47 _ _ rfl gr #[.string s.f0, vM, vH, .bool s.f3] rfl rfl 47 _ HXX.out size_sh rfl (sh_one HCC.out _ _) ?_)
 exact bodyPost_ret (ret_row rfl _ _ gr 47 #[.string s.f0, vM, vH, .bool s.f3] (0, 0) rfl (setRow_heap _ _ _ _ _ _ HXX.out) Tryd.underlying47 size_sh) rfl ⟨s, _, _, _, vM, vH, HQQ.out, rfl, Kd.R_mono (Kd.R_kept HSS.out.rM (kept_setRow _ gr _) (fun k hk he => by have := HGS.out; omega)) (fun k hk => by have := HGS.out; omega), Kd.R_mono (Kd.R_kept HSS.out.rH (kept_setRow _ gr _) (fun k hk he => by have := HGS.out; omega)) (fun k hk => by have := HGS.out; omega), (HAA.out.setRow HG.out.1 HG.out.2.1 (Nat.le_of_eq HG.out.2.2.1) _).to⟩) : p_ := h_
theorem rshare_calls (w0 W : World) (g : Nat) (T : List Tk) (e : Int) (p : Nat) (h : IsR w0 W g T (p : Int) e 0 0) (hB : Below w0.heap.size w0 W) (hT : T.length ≤ 1000000) :
  Calls Tryd.prog 29 #[.pointer (some ⟨g, 0, none⟩)] W (ShareR w0 W g T e (shareP T e p)) := by
 have HT := Aside0.mk hT
 obtain ⟨gr, hgr⟩ : ∃ gr, gr = W.heap.size := ⟨_, rfl⟩
 have HA1 : Aside0 (At w0 W (W.alloc (.cells #[.string ⟨#[]⟩, .slice none 0 0, .slice none 0 0, .bool false] 47)) g T (p : Int) e 0 0) := ⟨(At.start h hB).alloc _⟩
 have HX1 : Aside0 ((W.alloc (.cells #[.string ⟨#[]⟩, .slice none 0 0, .slice none 0 0, .bool false] 47)).heap[gr]? = some (.cells #[.string ⟨#[]⟩, .slice none 0 0, .slice none 0 0, .bool false] 47 (0, 0))) := ⟨by rw [hgr]; exact blk_new _ _⟩
 have HG : Aside0 (gr ≠ g ∧ w0.heap.size ≤ gr ∧ W.heap.size = gr ∧ g < gr) := ⟨by have := IsS66.lt h; have := hB.size; omega⟩
 obtain ⟨R, hR⟩ : ∃ R, R = shareP T e p := ⟨_, rfl⟩
 rw [← hR]
 have HR0 := Aside0.mk hR
 clear hR h hB hT
 go_enter Tryd.func29, Tryd.ntmps29
 go_upto_region 1 with (fail)
 obtain ⟨w1, hw1⟩ : ∃ w1, w1 = W.alloc (.cells #[.string ⟨#[]⟩, .slice none 0 0, .slice none 0 0, .bool false] 47) := ⟨_, rfl⟩
 rw [← hw1] at HA1 HX1
 rw [← hw1, ← hgr]
 clear hw1 hgr
 obtain ⟨t, i2, c2, a2, hQ, hC⟩ := r_next (w0 := w0) (w := w1) (g := g) (T := T) (e := e) 2 p (by decide) HT.out HA1.out.i HA1.out.b
 have HQ := Aside0.mk hQ
 have HC := Aside0.mk hC
 clear hQ hC
 go_wp2_with fail
 refine HC.out.mono ?_
 rintro ed w2 ⟨rfl, hs⟩
 dsimp only
 have HA2 := Aside0.mk (HA1.out.step hs)
 have HX2 : Aside0 (w2.heap[gr]? = some (.cells #[.string ⟨#[]⟩, .slice none 0 0, .slice none 0 0, .bool false] 47 (0, 0))) := ⟨blk_keep HX1.out hs.2.2 HG.out.1⟩
 clear hs HC HA1 HX1
 obtain ⟨gs, hgs⟩ : ∃ gs, gs = w2.heap.size := ⟨_, rfl⟩
 go_wp2_with (refine wpList_store_row rfl 47 _ _ rfl w2.heap.size #[.string t, .slice none 0 0, .slice none 0 0, .bool false] rfl rfl 47 #[.string ⟨#[]⟩, .slice none 0 0, .slice none 0 0, .bool false] (blk_new _ _) size_sh rfl (by simp [Value.oneCell']) ?_)
 obtain ⟨w3, hw3⟩ : ∃ w3, w3 = (w2.alloc (.cells #[.string ⟨#[]⟩, .slice none 0 0, .slice none 0 0, .bool false] 47)).setRow w2.heap.size #[.string t, .slice none 0 0, .slice none 0 0, .bool false] := ⟨_, rfl⟩
 rw [← hw3, ← hgs]
 have HGS : Aside0 (gr < gs ∧ W.heap.size ≤ gs ∧ g < gs ∧ w0.heap.size ≤ gs ∧ g < gr ∧ gr = W.heap.size) := ⟨by have := HG.out; have := blk_lt HX2.out; omega⟩
 have HA3 : Aside0 (At w0 W w3 g T i2 e c2 a2) := ⟨by rw [hw3, ← hgs]; exact (HA2.out.alloc _).setRow (by have := HGS.out; omega) HGS.out.2.2.2.1 HGS.out.2.1 _⟩
 have HX3 : Aside0 (w3.heap[gr]? = some (.cells #[.string ⟨#[]⟩, .slice none 0 0, .slice none 0 0, .bool false] 47 (0, 0))) := ⟨by rw [hw3]; exact (setRow_other _ _ _ _ (by have := HGS.out; omega)).trans (blk_alloc HX2.out _)⟩
 have HS3 : Aside0 (ShS w0 w3 gs ⟨t, [], [], false⟩ (.slice none 0 0) (.slice none 0 0)) := ⟨⟨by rw [hw3, hgs]; exact setRow_heap _ _ _ _ _ _ (blk_new w2 (.cells #[.string ⟨#[]⟩, .slice none 0 0, .slice none 0 0, .bool false] 47)), Kd.R_nil _ _ _ _ _, Kd.R_nil _ _ _ _ _, fun k hk => by simp [Value.ownBlock] at hk⟩⟩
 have HK3 : Aside0 (SSit T e R (T.length + 1) ⟨t, [], [], false⟩ i2 c2 a2) := ⟨share_first HQ.out HR0.out⟩
 clear hw3 hgs HA2 HX2 HQ HR0
 have hput : ∀ (a : Act) (v : Value), a.put none v = a := fun _ _ => rfl
 rw [hput]
 clear hput
 go_loopg [] (T.length + 1) (fun gk wr => ∃ (s : Sh) (vM vH : Value) (i c a : Int), Aside0 (At w0 W wr g T i e c a) ∧ Aside0 (wr.heap[gr]? = some (.cells #[.string ⟨#[]⟩, .slice none 0 0, .slice none 0 0, .bool false] 47 (0, 0))) ∧ Aside0 (ShS w0 wr gs s vM vH) ∧ Aside0 (SSit T e R gk s i c a))
 case atStart => exact ⟨_, _, _, i2, c2, a2, HA3, HX3, HS3, HK3⟩
 case round =>
  clear HA3 HX3 HS3 HK3
  obtain ⟨s, vM, vH, i, c, a, HA, HX, HS, HK⟩ := hrel
  rcases HK.out with ⟨hc, hi, hR⟩ | ⟨f, q, rfl, rfl, rfl, hR, hf, hgk, h1, h2⟩
  ·have l0 : (c != (0 : Int)) = true := by simp [hc]
   have HQQ : Aside0 (ShQ R s i c a) := ⟨by rw [hR]; exact ⟨hc, hi, rfl, rfl⟩⟩
   clear hR hc hi HK
   go_wp2_with fail
   refine (bad_quiet w0 _ g T _ _ c a true l0 HA.out.i).mono ?_
   rintro ed w' ⟨rfl, hww⟩
   obtain rfl := hww.symm
   clear hww
   dsimp only
   have HAA := HA
   have HSS := HS
   have HXX := HX
   clear HA HS HX
   exact sc_share
  ·have l0 : ((0 : Int) != 0) = false := by decide
   have HR := Aside0.mk hR
   have HB : Aside0 (T.length + 1 ≤ f + q ∧ T.length - q + 1 ≤ gk ∧ s.f1.length ≤ q ∧ s.f2.length ≤ q) := ⟨⟨hf, hgk, h1, h2⟩⟩
   clear hR hf hgk h1 h2 HK
   go_wp2_with fail
   refine (bad_quiet w0 _ g T _ _ 0 0 false l0 HA.out.i).mono ?_
   rintro ed w' ⟨rfl, hww⟩
   obtain rfl := hww.symm
   clear hww l0
   dsimp only
   have HA3 := HA
   have HS3 := HS
   have HX3 := HX
   clear HA HS HX
   cases hif : isP T e [wMethod] q with
   | true =>
    have HIF := Aside0.mk hif
    have HQT : Aside0 (q < T.length) := ⟨isP_lt hif⟩
    obtain ⟨f', rfl⟩ : ∃ f', f = f' + 1 := ⟨f - 1, by have := HB.out; have := HQT.out; omega⟩
    replace HB : Aside0 (T.length ≤ f' + q ∧ T.length - q + 1 ≤ gk ∧ s.f1.length ≤ q ∧ s.f2.length ≤ q) := ⟨by have := HB.out; omega⟩
    have HRR : Aside0 (R = shareK T e f' s (.ok (wMethod, q + 1))) := ⟨by rw [HR.out]; exact share_word HIF.out (by decide +kernel)⟩
    clear hif HR
    go_wp2_with fail
    refine (r_take1 (T := T) (e := e) wMethod q HT.out HA3.out.i HA3.out.b HIF.out).mono ?_
    rintro ed w4 ⟨rfl, hs⟩
    dsimp only
    have HA4 := Aside0.mk (HA3.out.step hs)
    have HS4 : Aside0 (ShS w0 w4 gs s vM vH) := ⟨HS3.out.keep hs.2.2 HGS.out.2.2.1⟩
    have HX4 : Aside0 (w4.heap[gr]? = some (.cells #[.string ⟨#[]⟩, .slice none 0 0, .slice none 0 0, .bool false] 47 (0, 0))) := ⟨blk_keep HX3.out hs.2.2 HG.out.1⟩
    clear hs HA3 HS3 HX3
    replace HRR : Aside0 (R = shareM T e f' s (takeP T e 1 (q + 1))) := HRR
    have H7 := r_next (w0 := w0) (w := w4.drew) (g := g) (T := T) (e := e) 1 (q + 1) (by decide) HT.out HA4.out.i (below_drew HA4.out.b)
    obtain ⟨t, i7, c7, a7, hQ, hC⟩ := H7
    have HQ := Aside0.mk hQ
    have HC := Aside0.mk hC
    have HSD : Aside0 (ShS w0 w4.drew gs s vM vH) := ⟨HS4.out.keep (keepN 1 g) HGS.out.2.2.1⟩
    have HAD : Aside0 (At w0 W w4.drew g T ((q + 1 : Nat) : Int) e 0 0) := ⟨HA4.out.drew⟩
    have HLB : Aside0 ((s.f1.length + 1) * 16 ≤ 140737488355328) := ⟨by have := HB.out; have := HT.out; have := HQT.out; omega⟩
    have d0 : w4.drew.cell? ⟨gs, 1, none⟩ = some vM := blk_cell HSD.out.blk 1
    clear hQ hC HS4 HA4
    go_upto_region 5 with (fail)
    refine start_ (n := 8) (S := fun w' => w'.cell? ⟨gs, 1, none⟩ = some vM) (ds := [5, 7]) #[false, false, false, false, false, false, false, false] (by kernel_rfl) rfl rfl (d0) (fun hHeld => ?_)
    refine pure_ (i := 0) (N := some 14) (v := ?_) (a' := ?_) #[true, false, false, false, false, false, false, false] rfl rfl (by kernel_rfl) (fun _ _ _ h => h) (Or.inl ⟨by rfl, ?_⟩) ?_ ?_
    rotate_left
    ·exact sRe9_1
    rotate_left
    ·exact nRe9_
    refine pure_ (i := 2) (N := some 16) (v := ?_) (a' := ?_) #[true, false, true, false, false, false, false, false] rfl rfl (by kernel_rfl) (fun _ _ _ h => h) (Or.inl ⟨by rfl, ?_⟩) ?_ ?_
    rotate_left
    ·exact sRe9_1
    rotate_left
    ·exact nRe9_
    refine take_ (i := 1) (N := some 15) (v := ?_) (a' := ?_) #[true, true, true, false, false, false, false, false] rfl rfl (by kernel_rfl) (fun _ _ _ h => h) (Or.inl ⟨by rfl, ?_⟩) hHeld ?_ ?_
    rotate_left
    ·intro w' s0
     go_simp
     with_reducible rfl
    rotate_left
    ·exact nRe9_
    refine one_ (i := 3) (N := some 17) #[true, true, true, true, false, false, false, false] rfl rfl (by kernel_rfl) (by decide) (fun K hK => ?_)
    refine goes_ Tryd.func28 (by kernel_rfl) rfl #[.pointer (some ⟨g, 0, none⟩), .int .i64 1] (by rfl) rfl rfl (by simp only [List.map_toArray, List.map_cons, List.map_nil]; rfl) ?_
    refine HC.out.mono ?_
    rintro ed w11 ⟨rfl, hs11⟩
    refine ⟨_, rfl, ?_⟩
    have HA11 := Aside0.mk (HAD.out.step hs11)
    have HS11 : Aside0 (ShS w0 w11 gs s vM vH) := ⟨HSD.out.keep hs11.2.2 HGS.out.2.2.1⟩
    have HX11 : Aside0 (w11.heap[gr]? = some (.cells #[.string ⟨#[]⟩, .slice none 0 0, .slice none 0 0, .bool false] 47 (0, 0))) := ⟨blk_keep (show w4.drew.heap[gr]? = _ from HX4.out) hs11.2.2 HG.out.1⟩
    clear hs11
    refine hK.out _ _ ((blk_cell HS11.out.blk 1)) (fun hHeld => ?_)
    clear hK K
    refine norm_ (a' := ?_) ?_ ?_
    rotate_left
    ·show Act.put _ (some 17) _ = _
     exact nRe9_
    refine one_ (i := 4) (N := some 18) #[true, true, true, true, true, false, false, false] rfl rfl (by kernel_rfl) (by decide) (fun K hK => ?_)
    refine value_ (w1 := ?_) (v := ?_) (by rfl) rfl ?_ ?_
    rotate_left 2
    ·go_simp
     constructor
     ·rfl
     ·rfl
    refine hK.out _ _ ((blk_cell (show (w11.alloc _).heap[gs]? = _ from blk_alloc HS11.out.blk _) 1)) (fun hHeld => ?_)
    clear hK K
    refine norm_ (a' := ?_) ?_ ?_
    rotate_left
    ·show Act.put _ (some 18) _ = _
     exact nRe9_
    refine last_ (i := 5) (N := some 19) #[true, true, true, true, true, true, false, false] rfl rfl (by kernel_rfl) (by decide) (fun K hK => ?_)
    refine Kd.R_append_step Kd.string (w0 := w0) (W := w11) w0.heap.size (by rfl) _ _ 22 9 (.string ⟨#[]⟩) 16 rfl Tryd.underlying22 info_str rfl (by decide) (by decide) vM s.f1 t [.string t] (fun k => gs < k) (fun _ => False) rfl rfl rfl (fun _ hk => hk.elim) (fun k hk => by have := blk_lt HS11.out.blk; omega) HS11.out.rM HA11.out.b HA11.out.b.size HLB.out ?_
    intro v12 w12 hO12 hB12 hG12 hat12
    have hr0 : ∀ k, (vM : Value).ownBlock = some k → gs < k := HS11.out.rM.1
    have HA13 : Aside0 (At w0 W (w12.setCell ⟨gs, 1, none⟩ v12) g T i7 e c7 a7) := ⟨(HA11.out.grown hG12 (fun he => by have := hr0 g he.symm; have := HGS.out; omega) hB12 (own_none hr0 (by have := HGS.out; omega))).set (by have := HGS.out; omega) (by have := HGS.out; omega) (by have := HGS.out; omega) 1 _⟩
    have HX13 : Aside0 ((w12.setCell ⟨gs, 1, none⟩ v12).heap[gr]? = some (.cells #[.string ⟨#[]⟩, .slice none 0 0, .slice none 0 0, .bool false] 47 (0, 0))) := ⟨blk_far (blk_grown HX11.out hG12 (fun he => by have := hr0 gr he.symm; have := HGS.out; omega)) (p := ⟨gs, 1, none⟩) (by have := HGS.out; show gr ≠ gs; omega) _⟩
    have HS13 := Aside0.mk (HS11.out.meth hO12 hG12 hat12)
    have hp12 : w12.heap[gs]? = some (.cells #[.string s.f0, vM, vH, .bool s.f3] 47 (0, 0)) := blk_grown HS11.out.blk hG12 (fun he => Nat.lt_irrefl _ (hr0 gs he.symm))
    have HK13 : Aside0 (SSit T e R (T.length - q) ⟨s.f0, s.f1 ++ [t], s.f2, s.f3⟩ i7 c7 a7) := ⟨sit_meth HQ.out HRR.out HB.out.1 HB.out.2.2.1 HB.out.2.2.2 HQT.out⟩
    obtain ⟨A12, c12, e12⟩ := Kd.R_slice hO12
    obtain ⟨n12, hn12⟩ : ∃ n12, n12 = (s.f1 ++ [t]).length := ⟨_, rfl⟩
    rw [← hn12] at e12
    subst e12
    have e4 : w12.cell? ⟨gs, 1, none⟩ = some vM := blk_cell hp12 1
    have f4 := blk_frozen hp12 1
    clear hO12 hB12 hG12 hat12 hp12 hn12 hr0
    refine hK.out _ _ ?_
    clear hK K
    refine norm_ (a' := ?_) ?_ ?_
    rotate_left
    ·show Act.put _ (some 19) _ = _
     exact nRe9_
    refine pure_ (i := 6) (N := some 20) (v := ?_) (a' := ?_) #[true, true, true, true, true, true, true, false] rfl rfl (by kernel_rfl) (fun _ _ _ h => h) (Or.inl ⟨by rfl, ?_⟩) ?_ ?_
    rotate_left
    ·exact sRe9_1
    rotate_left
    ·exact nRe9_
    refine last_ (i := 7) (N := none) #[true, true, true, true, true, true, true, true] rfl rfl (by kernel_rfl) (by decide) (fun K hK => ?_)
    refine skip_ (w1 := ?_) (by rfl) rfl ?_ ?_
    rotate_left
    ·go_simp
     rfl
    refine hK.out _ _ ?_
    clear hK K
    refine done_ (by kernel_rfl) ?_

    go_wp2
    go_roundg (T.length - q)
    case measure => have := HB.out; have := HQT.out; omega
    case rel => exact ⟨_, _, _, i7, c7, a7, HA13, HX13, HS13, HK13⟩
   | false =>
    have HIF := Aside0.mk hif
    have HN3 := Aside0.mk hif
    clear hif
    go_wp2_with fail
    refine (r_take0 (T := T) (e := e) wMethod q HT.out HA3.out.i HA3.out.b HIF.out).mono ?_
    rintro ed w5 ⟨rfl, hs⟩
    dsimp only
    have HA5 := Aside0.mk (HA3.out.step hs)
    have HS5 : Aside0 (ShS w0 w5 gs s vM vH) := ⟨HS3.out.keep hs.2.2 HGS.out.2.2.1⟩
    have HX5 : Aside0 (w5.heap[gr]? = some (.cells #[.string ⟨#[]⟩, .slice none 0 0, .slice none 0 0, .bool false] 47 (0, 0))) := ⟨blk_keep HX3.out hs.2.2 HG.out.1⟩
    clear hs HA3 HS3 HX3
    clear HIF
    cases hif : isP T e [wHeader] q with
    | true =>
     have HIF := Aside0.mk hif
     have HQT : Aside0 (q < T.length) := ⟨isP_lt hif⟩
     obtain ⟨f', rfl⟩ : ∃ f', f = f' + 1 := ⟨f - 1, by have := HB.out; have := HQT.out; omega⟩
     replace HB : Aside0 (T.length ≤ f' + q ∧ T.length - q + 1 ≤ gk ∧ s.f1.length ≤ q ∧ s.f2.length ≤ q) := ⟨by have := HB.out; omega⟩
     have HRR : Aside0 (R = shareK T e f' s (.ok (wHeader, q + 1))) := ⟨by rw [HR.out]; exact share_word HIF.out (by decide +kernel)⟩
     clear hif HR
     go_wp2_with fail
     refine (r_take1 (T := T) (e := e) wHeader q HT.out HA5.out.i HA5.out.b HIF.out).mono ?_
     rintro ed w4 ⟨rfl, hs⟩
     dsimp only
     have HA4 := Aside0.mk (HA5.out.step hs)
     have HS4 : Aside0 (ShS w0 w4 gs s vM vH) := ⟨HS5.out.keep hs.2.2 HGS.out.2.2.1⟩
     have HX4 : Aside0 (w4.heap[gr]? = some (.cells #[.string ⟨#[]⟩, .slice none 0 0, .slice none 0 0, .bool false] 47 (0, 0))) := ⟨blk_keep HX5.out hs.2.2 HG.out.1⟩
     clear hs HA5 HS5 HX5
     replace HRR : Aside0 (R = shareH T e f' s (takeP T e 1 (q + 1))) := HRR
     have H7 := r_next (w0 := w0) (w := w4.drew) (g := g) (T := T) (e := e) 1 (q + 1) (by decide) HT.out HA4.out.i (below_drew HA4.out.b)
     obtain ⟨t, i7, c7, a7, hQ, hC⟩ := H7
     have HQ := Aside0.mk hQ
     have HC := Aside0.mk hC
     have HSD : Aside0 (ShS w0 w4.drew gs s vM vH) := ⟨HS4.out.keep (keepN 1 g) HGS.out.2.2.1⟩
     have HAD : Aside0 (At w0 W w4.drew g T ((q + 1 : Nat) : Int) e 0 0) := ⟨HA4.out.drew⟩
     have HLB : Aside0 ((s.f2.length + 1) * 16 ≤ 140737488355328) := ⟨by have := HB.out; have := HT.out; have := HQT.out; omega⟩
     have d0 : w4.drew.cell? ⟨gs, 2, none⟩ = some vH := blk_cell HSD.out.blk 2
     clear hQ hC HS4 HA4
     go_upto_region 7 with (fail)
     refine start_ (n := 8) (S := fun w' => w'.cell? ⟨gs, 2, none⟩ = some vH) (ds := [5, 7]) #[false, false, false, false, false, false, false, false] (by kernel_rfl) rfl rfl (d0) (fun hHeld => ?_)
     refine pure_ (i := 0) (N := some 24) (v := ?_) (a' := ?_) #[true, false, false, false, false, false, false, false] rfl rfl (by kernel_rfl) (fun _ _ _ h => h) (Or.inl ⟨by rfl, ?_⟩) ?_ ?_
     rotate_left
     ·exact sRe9_1
     rotate_left
     ·exact nRe9_
     refine pure_ (i := 2) (N := some 26) (v := ?_) (a' := ?_) #[true, false, true, false, false, false, false, false] rfl rfl (by kernel_rfl) (fun _ _ _ h => h) (Or.inl ⟨by rfl, ?_⟩) ?_ ?_
     rotate_left
     ·exact sRe9_1
     rotate_left
     ·exact nRe9_
     refine take_ (i := 1) (N := some 25) (v := ?_) (a' := ?_) #[true, true, true, false, false, false, false, false] rfl rfl (by kernel_rfl) (fun _ _ _ h => h) (Or.inl ⟨by rfl, ?_⟩) hHeld ?_ ?_
     rotate_left
     ·intro w' s0
      go_simp
      with_reducible rfl
     rotate_left
     ·exact nRe9_
     refine one_ (i := 3) (N := some 27) #[true, true, true, true, false, false, false, false] rfl rfl (by kernel_rfl) (by decide) (fun K hK => ?_)
     refine goes_ Tryd.func28 (by kernel_rfl) rfl #[.pointer (some ⟨g, 0, none⟩), .int .i64 1] (by rfl) rfl rfl (by simp only [List.map_toArray, List.map_cons, List.map_nil]; rfl) ?_
     refine HC.out.mono ?_
     rintro ed w11 ⟨rfl, hs11⟩
     refine ⟨_, rfl, ?_⟩
     have HA11 := Aside0.mk (HAD.out.step hs11)
     have HS11 : Aside0 (ShS w0 w11 gs s vM vH) := ⟨HSD.out.keep hs11.2.2 HGS.out.2.2.1⟩
     have HX11 : Aside0 (w11.heap[gr]? = some (.cells #[.string ⟨#[]⟩, .slice none 0 0, .slice none 0 0, .bool false] 47 (0, 0))) := ⟨blk_keep (show w4.drew.heap[gr]? = _ from HX4.out) hs11.2.2 HG.out.1⟩
     clear hs11
     refine hK.out _ _ ((blk_cell HS11.out.blk 2)) (fun hHeld => ?_)
     clear hK K
     refine norm_ (a' := ?_) ?_ ?_
     rotate_left
     ·show Act.put _ (some 27) _ = _
      exact nRe9_
     refine one_ (i := 4) (N := some 28) #[true, true, true, true, true, false, false, false] rfl rfl (by kernel_rfl) (by decide) (fun K hK => ?_)
     refine value_ (w1 := ?_) (v := ?_) (by rfl) rfl ?_ ?_
     rotate_left 2
     ·go_simp
      constructor
      ·rfl
      ·rfl
     refine hK.out _ _ ((blk_cell (show (w11.alloc _).heap[gs]? = _ from blk_alloc HS11.out.blk _) 2)) (fun hHeld => ?_)
     clear hK K
     refine norm_ (a' := ?_) ?_ ?_
     rotate_left
     ·show Act.put _ (some 28) _ = _
      exact nRe9_
     refine last_ (i := 5) (N := some 29) #[true, true, true, true, true, true, false, false] rfl rfl (by kernel_rfl) (by decide) (fun K hK => ?_)
     refine Kd.R_append_step Kd.string (w0 := w0) (W := w11) w0.heap.size (by rfl) _ _ 22 9 (.string ⟨#[]⟩) 16 rfl Tryd.underlying22 info_str rfl (by decide) (by decide) vH s.f2 t [.string t] (fun k => gs < k) (fun _ => False) rfl rfl rfl (fun _ hk => hk.elim) (fun k hk => by have := blk_lt HS11.out.blk; omega) HS11.out.rH HA11.out.b HA11.out.b.size HLB.out ?_
     intro v12 w12 hO12 hB12 hG12 hat12
     have hr0 : ∀ k, (vH : Value).ownBlock = some k → gs < k := HS11.out.rH.1
     have HA13 : Aside0 (At w0 W (w12.setCell ⟨gs, 2, none⟩ v12) g T i7 e c7 a7) := ⟨(HA11.out.grown hG12 (fun he => by have := hr0 g he.symm; have := HGS.out; omega) hB12 (own_none hr0 (by have := HGS.out; omega))).set (by have := HGS.out; omega) (by have := HGS.out; omega) (by have := HGS.out; omega) 2 _⟩
     have HX13 : Aside0 ((w12.setCell ⟨gs, 2, none⟩ v12).heap[gr]? = some (.cells #[.string ⟨#[]⟩, .slice none 0 0, .slice none 0 0, .bool false] 47 (0, 0))) := ⟨blk_far (blk_grown HX11.out hG12 (fun he => by have := hr0 gr he.symm; have := HGS.out; omega)) (p := ⟨gs, 2, none⟩) (by have := HGS.out; show gr ≠ gs; omega) _⟩
     have HS13 := Aside0.mk (HS11.out.head hO12 hG12 hat12)
     have hp12 : w12.heap[gs]? = some (.cells #[.string s.f0, vM, vH, .bool s.f3] 47 (0, 0)) := blk_grown HS11.out.blk hG12 (fun he => Nat.lt_irrefl _ (hr0 gs he.symm))
     have HK13 : Aside0 (SSit T e R (T.length - q) ⟨s.f0, s.f1, s.f2 ++ [t], s.f3⟩ i7 c7 a7) := ⟨sit_head HQ.out HRR.out HB.out.1 HB.out.2.2.1 HB.out.2.2.2 HQT.out⟩
     obtain ⟨A12, c12, e12⟩ := Kd.R_slice hO12
     obtain ⟨n12, hn12⟩ : ∃ n12, n12 = (s.f2 ++ [t]).length := ⟨_, rfl⟩
     rw [← hn12] at e12
     subst e12
     have e4 : w12.cell? ⟨gs, 2, none⟩ = some vH := blk_cell hp12 2
     have f4 := blk_frozen hp12 2
     clear hO12 hB12 hG12 hat12 hp12 hn12 hr0
     refine hK.out _ _ ?_
     clear hK K
     refine norm_ (a' := ?_) ?_ ?_
     rotate_left
     ·show Act.put _ (some 29) _ = _
      exact nRe9_
     refine pure_ (i := 6) (N := some 30) (v := ?_) (a' := ?_) #[true, true, true, true, true, true, true, false] rfl rfl (by kernel_rfl) (fun _ _ _ h => h) (Or.inl ⟨by rfl, ?_⟩) ?_ ?_
     rotate_left
     ·exact sRe9_1
     rotate_left
     ·exact nRe9_
     refine last_ (i := 7) (N := none) #[true, true, true, true, true, true, true, true] rfl rfl (by kernel_rfl) (by decide) (fun K hK => ?_)
     refine skip_ (w1 := ?_) (by rfl) rfl ?_ ?_
     rotate_left
     ·go_simp
      rfl
     refine hK.out _ _ ?_
     clear hK K
     refine done_ (by kernel_rfl) ?_

     go_wp2
     go_roundg (T.length - q)
     case measure => have := HB.out; have := HQT.out; omega
     case rel => exact ⟨_, _, _, i7, c7, a7, HA13, HX13, HS13, HK13⟩
    | false =>
     have HIF := Aside0.mk hif
     have HN5 := Aside0.mk hif
     clear hif
     go_wp2_with fail
     refine (r_take0 (T := T) (e := e) wHeader q HT.out HA5.out.i HA5.out.b HIF.out).mono ?_
     rintro ed w6 ⟨rfl, hs⟩
     dsimp only
     have HA6 := Aside0.mk (HA5.out.step hs)
     have HS6 : Aside0 (ShS w0 w6 gs s vM vH) := ⟨HS5.out.keep hs.2.2 HGS.out.2.2.1⟩
     have HX6 : Aside0 (w6.heap[gr]? = some (.cells #[.string ⟨#[]⟩, .slice none 0 0, .slice none 0 0, .bool false] 47 (0, 0))) := ⟨blk_keep HX5.out hs.2.2 HG.out.1⟩
     clear hs HA5 HS5 HX5
     clear HIF
     cases hif : isP T e [wCreds] q with
     | true =>
      have HIF := Aside0.mk hif
      have HQT : Aside0 (q < T.length) := ⟨isP_lt hif⟩
      obtain ⟨f', rfl⟩ : ∃ f', f = f' + 1 := ⟨f - 1, by have := HB.out; have := HQT.out; omega⟩
      replace HB : Aside0 (T.length ≤ f' + q ∧ T.length - q + 1 ≤ gk ∧ s.f1.length ≤ q ∧ s.f2.length ≤ q) := ⟨by have := HB.out; omega⟩
      have HRR : Aside0 (R = shareK T e f' s (.ok (wCreds, q + 1))) := ⟨by rw [HR.out]; exact share_word HIF.out (by decide +kernel)⟩
      clear hif HR
      go_wp2_with fail
      refine (r_take1 (T := T) (e := e) wCreds q HT.out HA6.out.i HA6.out.b HIF.out).mono ?_
      rintro ed w4 ⟨rfl, hs⟩
      dsimp only
      have HA4 := Aside0.mk (HA6.out.step hs)
      have HS4 : Aside0 (ShS w0 w4 gs s vM vH) := ⟨HS6.out.keep hs.2.2 HGS.out.2.2.1⟩
      have HX4 : Aside0 (w4.heap[gr]? = some (.cells #[.string ⟨#[]⟩, .slice none 0 0, .slice none 0 0, .bool false] 47 (0, 0))) := ⟨blk_keep HX6.out hs.2.2 HG.out.1⟩
      clear hs HA6 HS6 HX6
      have HRC : Aside0 (R = shareL T e f' ⟨s.f0, s.f1, s.f2, true⟩ (q + 1)) := ⟨HRR.out⟩
      have e4 : w4.cell? ⟨gs, 3, none⟩ = some (.bool s.f3) := blk_cell HS4.out.blk 3
      have f4 := blk_frozen HS4.out.blk 3
      have HA13 : Aside0 (At w0 W (w4.setCell ⟨gs, 3, none⟩ (.bool true)) g T ((q + 1 : Nat) : Int) e 0 0) := ⟨HA4.out.set (by have := HGS.out; omega) (by have := HGS.out; omega) (by have := HGS.out; omega) 3 _⟩
      have HX13 : Aside0 ((w4.setCell ⟨gs, 3, none⟩ (.bool true)).heap[gr]? = some (.cells #[.string ⟨#[]⟩, .slice none 0 0, .slice none 0 0, .bool false] 47 (0, 0))) := ⟨blk_far HX4.out (p := ⟨gs, 3, none⟩) (by have := HGS.out; show gr ≠ gs; omega) _⟩
      have HS13 : Aside0 (ShS w0 (w4.setCell ⟨gs, 3, none⟩ (.bool true)) gs ⟨s.f0, s.f1, s.f2, true⟩ vM vH) := ⟨⟨blk_set HS4.out.blk 3 _, Kd.R_far HS4.out.rM (p := ⟨gs, 3, none⟩) (fun k hk (he : k = gs) => by omega) _, Kd.R_far HS4.out.rH (p := ⟨gs, 3, none⟩) (fun k hk (he : k = gs) => by omega) _, HS4.out.d⟩⟩
      have HK13 : Aside0 (SSit T e R (T.length - q) ⟨s.f0, s.f1, s.f2, true⟩ ((q + 1 : Nat) : Int) 0 0) := ⟨.inr ⟨f', q + 1, rfl, rfl, rfl, HRC.out, by have := HB.out; omega, by have := HQT.out; omega, by have := HB.out; show s.f1.length ≤ q + 1; omega, by have := HB.out; show s.f2.length ≤ q + 1; omega⟩⟩
      clear HA4 HX4 HS4
      go_wp2
      go_roundg (T.length - q)
      case measure => have := HB.out; have := HQT.out; omega
      case rel => exact ⟨_, _, _, _, _, _, HA13, HX13, HS13, HK13⟩
     | false =>
      have HIF := Aside0.mk hif
      have HN6 := Aside0.mk hif
      clear hif
      go_wp2_with fail
      refine (r_take0 (T := T) (e := e) wCreds q HT.out HA6.out.i HA6.out.b HIF.out).mono ?_
      rintro ed w7 ⟨rfl, hs⟩
      dsimp only
      have HA7 := Aside0.mk (HA6.out.step hs)
      have HS7 : Aside0 (ShS w0 w7 gs s vM vH) := ⟨HS6.out.keep hs.2.2 HGS.out.2.2.1⟩
      have HX7 : Aside0 (w7.heap[gr]? = some (.cells #[.string ⟨#[]⟩, .slice none 0 0, .slice none 0 0, .bool false] 47 (0, 0))) := ⟨blk_keep HX6.out hs.2.2 HG.out.1⟩
      clear hs HA6 HS6 HX6
      clear HIF
      have HQQ : Aside0 (ShQ R s (q : Int) 0 0) := ⟨by rw [HR.out, share_none HN3.out HN5.out HN6.out f]; exact ⟨rfl, rfl, rfl, rfl⟩⟩
      have HAA := HA7
      have HSS := HS7
      have HXX := HX7
      clear HA7 HS7 HX7 HR
      exact sc_share
end Go.Proofs.YtdlahgamdigkhaaDoor.Pu
namespace Go.Proofs.YtdlahgamdigkhaaDoor.Pu
open Go.RowKit Go.Proofs.YtdlahgamdigkhaaDoor.Pr Go.Proofs.YtdlahgamdigkhaaDoorW.PrintWords Go.Proofs.YtdlahgamdigkhaaDoorW.PrintLast Go.Proofs.YtdlahgamdigkhaaDoorW.PrintMore Go.Proofs.YtdlahgamdigkhaaDoor.Lx
open Go.Proofs.YtdlahgamdigkhaaDoor.Ps hiding Tk
theorem in_l (s : ByteArray) (ws : List ByteArray) (hl : ws.length ≤ 1000000) : ∀ (m i k : Nat), i + m = ws.length → m < k → parapetref1_In.l0 k s ws (i : Int) = some (memB s (ws.drop i))
 | 0, i, k + 1, h, _ => by
  rw [parapetref1_In.l0, if_neg (by omega), List.drop_eq_nil_of_le (by omega)]; rfl
 | m + 1, i, k + 1, h, hk => by
  have hi : i < ws.length := by omega
  have e1 : rdOf ByteArray.empty ws (i : Int) = ws[i] := by simp [rdOf, hi]
  have e2 : wrap64 ((i : Int) + 1) = ((i + 1 : Nat) : Int) := by unfold wrap64; omega
  rw [parapetref1_In.l0, if_pos (by omega), if_pos (by omega), e1, e2, List.drop_eq_getElem_cons hi, memB_cons]
  by_cases hs : ws[i].toList = s.toList
  ·rw [if_pos hs, decide_eq_true (bytes_toList.1 hs).symm, Bool.true_or]
  ·rw [if_neg hs, decide_eq_false (fun he => hs (by rw [he])), Bool.false_or]
   exact in_l s ws hl m (i + 1) k (by omega) (by omega)
theorem in_f (s : ByteArray) (ws : List ByteArray) (hl : ws.length ≤ 1000000) : parapetref1_In.f (ws.length + 1) s ws = some (memB s ws) := by
 have := in_l s ws hl ws.length 0 (ws.length + 1) (by omega) (by omega)
 rwa [List.drop_zero] at this
def six : List ByteArray := [wCsp, wShare, wMixed, wDefault, wAllow, wDeny]
structure RS (w0 W : World) (gr gp : Nat) (v0 v1 v3 : Value) (st : Pst) (okS okR : Nat → Prop) : Prop where
 blk : W.heap[gp]? = some (.cells (polcells v0 v1 st.mixed v3 st.allow) 26 (0, 0))
 rC : Kd.string.R 9 W w0.heap.size (fun _ => True) v0 st.csp
 rS : k47.R 47 W w0.heap.size okS v1 st.shares
 rR : k41.N 41 W w0.heap.size okR v3 st.rules
 dC : ∀ k, v0.ownBlock = some k → k ≠ gr ∧ k ≠ gp ∧ ¬ okS k ∧ ¬ okR k
 bS : ∀ k, okS k → k < W.heap.size ∧ w0.heap.size ≤ k ∧ k ≠ gr ∧ k ≠ gp ∧ ¬ okR k
 bR : ∀ k, okR k → k < W.heap.size ∧ w0.heap.size ≤ k ∧ k ≠ gr ∧ k ≠ gp
 ng : gr ≠ gp
 lg : w0.heap.size ≤ gp
 lr : gr < W.heap.size
 lC : st.csp.length ≤ st.items
 lS : st.shares.length ≤ st.items
 lR : st.rules.length ≤ st.items
 lI : st.items ≤ 60
 lM : st.metM ≤ 1
 lD : st.metD ≤ 1
 eM : st.metM = 0 → st.mixed = wBlock
 eD : st.metD = 0 → st.allow = false
theorem RS.kept {w0 W W2 : World} {gr gp : Nat} {v0 v1 v3 : Value} {st : Pst} {okS okR : Nat → Prop} (h : RS w0 W gr gp v0 v1 v3 st okS okR) (hk : Kept W W2 (fun k => k = gr)) : RS w0 W2 gr gp v0 v1 v3 st okS okR :=
 { h with
  blk := blk_kept h.blk hk (fun he => h.ng he.symm)
  rC := Kd.R_mono (Kd.R_kept (Kd.R_tight rfl h.rC) hk (fun k he hg => (h.dC k he.symm).1 hg)) (fun _ _ => trivial)
  rS := Kd.R_kept h.rS hk (fun k ho hg => (h.bS k ho).2.2.1 hg)
  rR := Kd.N_kept h.rR hk (fun k ho hg => (h.bR k ho).2.2.1 hg)
  bS := fun k ho => ⟨by have := (h.bS k ho).1; have := hk.1; omega, (h.bS k ho).2⟩
  bR := fun k ho => ⟨by have := (h.bR k ho).1; have := hk.1; omega, (h.bR k ho).2⟩
  lr := by have := h.lr; have := hk.1; omega }
theorem kept_of_keep {W W2 : World} {g : Nat} (h : KeepBut W W2 g none) : Kept W W2 (fun k => k = g) := ⟨h.1, fun k hk hne => h.2 k hk hne (by simp)⟩
theorem RS.keep {w0 W W2 : World} {gr gp : Nat} {v0 v1 v3 : Value} {st : Pst} {okS okR : Nat → Prop} (h : RS w0 W gr gp v0 v1 v3 st okS okR) (hk : KeepBut W W2 gr none) : RS w0 W2 gr gp v0 v1 v3 st okS okR := h.kept (kept_of_keep hk)
theorem RS.drewN {w0 W : World} {gr gp : Nat} {v0 v1 v3 : Value} {st : Pst} {okS okR : Nat → Prop} (h : RS w0 W gr gp v0 v1 v3 st okS okR) (n : Nat) : RS w0 (W.drewN n) gr gp v0 v1 v3 st okS okR := h.keep (keepN n gr)
theorem RS.count {w0 W : World} {gr gp : Nat} {v0 v1 v3 : Value} {st : Pst} {okS okR : Nat → Prop} (h : RS w0 W gr gp v0 v1 v3 st okS okR) (hi : st.items + 1 ≤ 60) : RS w0 W gr gp v0 v1 v3 { st with items := st.items + 1 } okS okR :=
 { h with
  lC := Nat.le_succ_of_le h.lC
  lS := Nat.le_succ_of_le h.lS
  lR := Nat.le_succ_of_le h.lR
  lI := hi }
theorem RS.csp {w0 W W9 : World} {gr gp : Nat} {v0 v1 v3 v9 : Value} {st : Pst} {okS okR : Nat → Prop} {t : ByteArray} (h : RS w0 W gr gp v0 v1 v3 st okS okR) (hO : Kd.string.R 9 W9 w0.heap.size (fun _ => True) v9 (st.csp ++ [t])) (hG : W.grownBy W9 v0.ownBlock)
  (hat : v9.ownBlock = v0.ownBlock ∨ ∃ k, v9.ownBlock = some k ∧ W.heap.size ≤ k) (hl : st.csp.length + 1 ≤ st.items) : RS w0 (W9.setCell ⟨gp, 0, none⟩ v9) gr gp v9 v1 v3 { st with csp := st.csp ++ [t] } okS okR := by
 have hk : Kept W W9 (fun k => v0.ownBlock = some k) := Kept.of_grown hG (Kept.refl _ _) (fun k hk => .inl hk)
 have hgp : v9.ownBlock ≠ some gp := by
  intro he
  rcases hat with h1 | ⟨k, h1, h2⟩
  ·exact (h.dC gp (h1.symm.trans he)).2.1 rfl
  ·rw [h1] at he; cases he; have := blk_lt h.blk; omega
 have hp9 : W9.heap[gp]? = some (.cells (polcells v0 v1 st.mixed v3 st.allow) 26 (0, 0)) := blk_kept h.blk hk (fun he => (h.dC gp he).2.1 rfl)
 exact { h with
  blk := blk_set hp9 0 _
  rC := Kd.R_mono (Kd.R_far (Kd.R_tight rfl hO) (p := ⟨gp, 0, none⟩) (fun k he hg => hgp (by rw [← he, show k = gp from hg])) _) (fun _ _ => trivial)
  rS := Kd.R_far (Kd.R_kept h.rS hk (fun k ho hs => (h.dC k hs).2.2.1 ho)) (p := ⟨gp, 0, none⟩) (fun k ho => (h.bS k ho).2.2.2.1) _
  rR := Kd.N_far (Kd.N_kept h.rR hk (fun k ho hs => (h.dC k hs).2.2.2 ho)) (p := ⟨gp, 0, none⟩) (fun k ho => (h.bR k ho).2.2.2) _
  dC := fun k he => by
   rcases hat with h1 | ⟨k2, h1, h2⟩
   ·exact h.dC k (h1.symm.trans he)
   ·rw [h1] at he; cases he
    exact ⟨by have := h.lr; omega, by have := blk_lt h.blk; omega, fun ho => by have := (h.bS _ ho).1; omega, fun ho => by have := (h.bR _ ho).1; omega⟩
  bS := fun k ho => ⟨by rw [World.size_setCell]; have := (h.bS k ho).1; have := hk.1; omega, (h.bS k ho).2⟩
  bR := fun k ho => ⟨by rw [World.size_setCell]; have := (h.bR k ho).1; have := hk.1; omega, (h.bR k ho).2⟩
  lr := by rw [World.size_setCell]; have := h.lr; have := hk.1; omega
  lC := by rw [List.length_append, List.length_singleton]; exact hl }
theorem RS.share {w0 W W7 W9 : World} {gr gp : Nat} {v0 v1 v3 v9 : Value} {st : Pst} {okS okR : Nat → Prop} {s : Sh} (h : RS w0 W gr gp v0 v1 v3 st okS okR) (h7 : RS w0 W7 gr gp v0 v1 v3 st okS okR) (hz : W.heap.size ≤ W7.heap.size)
  (hO : k47.R 47 W9 w0.heap.size (fun k => okS k ∨ W.heap.size ≤ k) v9 (st.shares ++ [s])) (hG : W7.grownBy W9 v1.ownBlock)
  (hl : st.shares.length + 1 ≤ st.items) (hw : w0.heap.size ≤ W.heap.size) (hng : gr < W.heap.size ∧ gp < W.heap.size) :
  RS w0 (W9.setCell ⟨gp, 1, none⟩ v9) gr gp v0 v9 v3 { st with shares := st.shares ++ [s] } (fun k => (okS k ∨ W.heap.size ≤ k) ∧ k < W9.heap.size) okR := by
 have hk : Kept W7 W9 (fun k => v1.ownBlock = some k) := Kept.of_grown hG (Kept.refl _ _) (fun k hk => .inl hk)
 have h1 : ∀ k, v1.ownBlock = some k → okS k := h7.rS.1
 have hp9 : W9.heap[gp]? = some (.cells (polcells v0 v1 st.mixed v3 st.allow) 26 (0, 0)) := blk_kept h7.blk hk (fun he => (h.bS gp (h1 gp he)).2.2.2.1 rfl)
 have hb0 : ∀ k, v0.ownBlock = some k → k < W.heap.size := fun k he => Kd.R_lt h.rC k he
 exact { h7 with
  blk := blk_set hp9 1 _
  rC := Kd.R_mono (Kd.R_far (Kd.R_kept (Kd.R_tight rfl h7.rC) hk (fun k he hs => (h.dC k he.symm).2.2.1 (h1 k hs))) (p := ⟨gp, 1, none⟩) (fun k he => (h.dC k he.symm).2.1) _) (fun _ _ => trivial)
  rS := Kd.R_mono (Kd.R_bound (Kd.R_far hO (p := ⟨gp, 1, none⟩) (fun k ho (hg : k = gp) => by
   rcases ho with ho | ho
   ·exact (h.bS k ho).2.2.2.1 hg
   ·have := hng.2; omega) _)) (fun k hk => ⟨hk.1, by have := hk.2.2.1; rwa [World.size_setCell] at this⟩)
  rR := Kd.N_far (Kd.N_kept h7.rR hk (fun k ho hs => (h.bS k (h1 k hs)).2.2.2.2 ho)) (p := ⟨gp, 1, none⟩) (fun k ho => (h.bR k ho).2.2.2) _
  dC := fun k he => ⟨(h.dC k he).1, (h.dC k he).2.1, fun ho => by
   rcases ho.1 with ho | ho
   ·exact (h.dC k he).2.2.1 ho
   ·have := hb0 k he; omega, (h.dC k he).2.2.2⟩
  bS := fun k ho => by
   rw [World.size_setCell]
   rcases ho with ⟨ho | ho, hlt⟩
   ·exact ⟨hlt, (h.bS k ho).2⟩
   ·exact ⟨hlt, by omega, by have := hng.1; omega, by have := hng.2; omega, fun hr => by have := (h.bR k hr).1; omega⟩
  bR := fun k ho => ⟨by rw [World.size_setCell]; have := (h7.bR k ho).1; have := hk.1; omega, (h.bR k ho).2⟩
  lr := by rw [World.size_setCell]; have := h7.lr; have := hk.1; omega
  lS := by rw [List.length_append, List.length_singleton]; exact hl }
theorem RS.rule {w0 W W7 W9 : World} {gr gp : Nat} {v0 v1 v3 v9 : Value} {st : Pst} {okS okR : Nat → Prop} {s : Rl} (h : RS w0 W gr gp v0 v1 v3 st okS okR) (h7 : RS w0 W7 gr gp v0 v1 v3 st okS okR) (hz : W.heap.size ≤ W7.heap.size)
  (hO : k41.N 41 W9 w0.heap.size (fun k => okR k ∨ W.heap.size ≤ k) v9 (st.rules ++ [s])) (hG : W7.grownBy W9 v3.ownBlock)
  (hl : st.rules.length + 1 ≤ st.items) (hw : w0.heap.size ≤ W.heap.size) (hng : gr < W.heap.size ∧ gp < W.heap.size) :
  RS w0 (W9.setCell ⟨gp, 3, none⟩ v9) gr gp v0 v1 v9 { st with rules := st.rules ++ [s] } okS (fun k => (okR k ∨ W.heap.size ≤ k) ∧ k < W9.heap.size) := by
 have hk : Kept W7 W9 (fun k => v3.ownBlock = some k) := Kept.of_grown hG (Kept.refl _ _) (fun k hk => .inl hk)
 have h1 : ∀ k, v3.ownBlock = some k → okR k := h7.rR.1
 have hp9 : W9.heap[gp]? = some (.cells (polcells v0 v1 st.mixed v3 st.allow) 26 (0, 0)) := blk_kept h7.blk hk (fun he => (h.bR gp (h1 gp he)).2.2.2 rfl)
 have hb0 : ∀ k, v0.ownBlock = some k → k < W.heap.size := fun k he => Kd.R_lt h.rC k he
 exact { h7 with
  blk := blk_set hp9 3 _
  rC := Kd.R_mono (Kd.R_far (Kd.R_kept (Kd.R_tight rfl h7.rC) hk (fun k he hs => (h.dC k he.symm).2.2.2 (h1 k hs))) (p := ⟨gp, 3, none⟩) (fun k he => (h.dC k he.symm).2.1) _) (fun _ _ => trivial)
  rS := Kd.R_far (Kd.R_kept h7.rS hk (fun k ho hs => (h.bS k ho).2.2.2.2 (h1 k hs))) (p := ⟨gp, 3, none⟩) (fun k ho => (h.bS k ho).2.2.2.1) _
  rR := Kd.N_mono (Kd.N_bound (Kd.N_far hO (p := ⟨gp, 3, none⟩) (fun k ho (hg : k = gp) => by
   rcases ho with ho | ho
   ·exact (h.bR k ho).2.2.2 hg
   ·have := hng.2; omega) _)) (fun k hk => ⟨hk.1, by have := hk.2; rwa [World.size_setCell] at this⟩)
  dC := fun k he => ⟨(h.dC k he).1, (h.dC k he).2.1, (h.dC k he).2.2.1, fun ho => by
   rcases ho.1 with ho | ho
   ·exact (h.dC k he).2.2.2 ho
   ·have := hb0 k he; omega⟩
  bS := fun k ho => ⟨by rw [World.size_setCell]; have := (h7.bS k ho).1; have := hk.1; omega, (h.bS k ho).2.1, (h.bS k ho).2.2.1, (h.bS k ho).2.2.2.1, fun hr => by
   rcases hr.1 with hr | hr
   ·exact (h.bS k ho).2.2.2.2 hr
   ·have := (h.bS k ho).1; omega⟩
  bR := fun k ho => by
   rw [World.size_setCell]
   rcases ho with ⟨ho | ho, hlt⟩
   ·exact ⟨hlt, (h.bR k ho).2⟩
   ·exact ⟨hlt, by omega, by have := hng.1; omega, by have := hng.2; omega⟩
  lr := by rw [World.size_setCell]; have := h7.lr; have := hk.1; omega
  lR := by rw [List.length_append, List.length_singleton]; exact hl }
theorem RS.setMixed {w0 W : World} {gr gp : Nat} {v0 v1 v3 : Value} {st : Pst} {okS okR : Nat → Prop} (h : RS w0 W gr gp v0 v1 v3 st okS okR) (t : ByteArray) (hm : st.metM ≠ 0) : RS w0 (W.setCell ⟨gp, 2, none⟩ (.string t)) gr gp v0 v1 v3 { st with mixed := t } okS okR :=
 { h with
  blk := blk_set h.blk 2 _
  rC := Kd.R_mono (Kd.R_far (Kd.R_tight rfl h.rC) (p := ⟨gp, 2, none⟩) (fun k he => (h.dC k he.symm).2.1) _) (fun _ _ => trivial)
  rS := Kd.R_far h.rS (p := ⟨gp, 2, none⟩) (fun k ho => (h.bS k ho).2.2.2.1) _
  rR := Kd.N_far h.rR (p := ⟨gp, 2, none⟩) (fun k ho => (h.bR k ho).2.2.2) _
  bS := fun k ho => ⟨by rw [World.size_setCell]; exact (h.bS k ho).1, (h.bS k ho).2⟩
  bR := fun k ho => ⟨by rw [World.size_setCell]; exact (h.bR k ho).1, (h.bR k ho).2⟩
  lr := by rw [World.size_setCell]; exact h.lr
  eM := fun h0 => absurd h0 hm }
theorem RS.setAllow {w0 W : World} {gr gp : Nat} {v0 v1 v3 : Value} {st : Pst} {okS okR : Nat → Prop} (h : RS w0 W gr gp v0 v1 v3 st okS okR) (b : Bool) (hm : st.metD ≠ 0) : RS w0 (W.setCell ⟨gp, 4, none⟩ (.bool b)) gr gp v0 v1 v3 { st with allow := b } okS okR :=
 { h with
  blk := blk_set h.blk 4 _
  rC := Kd.R_mono (Kd.R_far (Kd.R_tight rfl h.rC) (p := ⟨gp, 4, none⟩) (fun k he => (h.dC k he.symm).2.1) _) (fun _ _ => trivial)
  rS := Kd.R_far h.rS (p := ⟨gp, 4, none⟩) (fun k ho => (h.bS k ho).2.2.2.1) _
  rR := Kd.N_far h.rR (p := ⟨gp, 4, none⟩) (fun k ho => (h.bR k ho).2.2.2) _
  bS := fun k ho => ⟨by rw [World.size_setCell]; exact (h.bS k ho).1, (h.bS k ho).2⟩
  bR := fun k ho => ⟨by rw [World.size_setCell]; exact (h.bR k ho).1, (h.bR k ho).2⟩
  lr := by rw [World.size_setCell]; exact h.lr
  eD := fun h0 => absurd h0 hm }
theorem RS.metM {w0 W : World} {gr gp : Nat} {v0 v1 v3 : Value} {st : Pst} {okS okR : Nat → Prop} (h : RS w0 W gr gp v0 v1 v3 st okS okR) (h0 : st.metM = 0) : RS w0 W gr gp v0 v1 v3 { st with metM := st.metM + 1 } okS okR :=
 { h with lM := by show st.metM + 1 ≤ 1; omega, eM := fun hn => absurd hn (Nat.succ_ne_zero _) }
theorem RS.metD {w0 W : World} {gr gp : Nat} {v0 v1 v3 : Value} {st : Pst} {okS okR : Nat → Prop} (h : RS w0 W gr gp v0 v1 v3 st okS okR) (h0 : st.metD = 0) : RS w0 W gr gp v0 v1 v3 { st with metD := st.metD + 1 } okS okR :=
 { h with lD := by show st.metD + 1 ≤ 1; omega, eD := fun hn => absurd hn (Nat.succ_ne_zero _) }
def Sit (w0 W : World) (gr gp : Nat) (T : List Tk) (e : Int) (R : Except (Int × Int) Pst) (gk : Nat) (mx df : Bool) (n i c a : Int) : Prop :=
 (c ≠ 0 ∧ 0 ≤ i ∧ R = .error (c, a)) ∨
 ∃ (f : Nat) (st : Pst) (p : Nat) (v0 v1 v3 : Value) (okS okR : Nat → Prop), i = (p : Int) ∧ c = 0 ∧ a = 0 ∧ mx = decide (st.metM = 1) ∧ df = decide (st.metD = 1) ∧ n = (st.items : Int) ∧ T.length + 1 ≤ f + p ∧ T.length - p + 1 ≤ gk ∧ R = itemsP T e f st p ∧ RS w0 W gr gp v0 v1 v3 st okS okR
def MidQ (w0 W : World) (gr gp : Nat) (T : List Tk) (e : Int) (R : Except (Int × Int) Pst) (p0 : Nat) (mx df : Bool) (n i c a : Int) : Prop :=
 (c ≠ 0 ∧ 0 ≤ i ∧ R = .error (c, a)) ∨
 ∃ (f : Nat) (st : Pst) (q : Nat) (v0 v1 v3 : Value) (okS okR : Nat → Prop), i = (q : Int) ∧ c = 0 ∧ a = 0 ∧ p0 < q ∧ mx = decide (st.metM = 1) ∧ df = decide (st.metD = 1) ∧ n + 1 = (st.items : Int) ∧ T.length ≤ f + p0 ∧ R = endK T e f st (takeP T e 5 q) ∧ RS w0 W gr gp v0 v1 v3 st okS okR
theorem mid_next {w0 w : World} {gr gp : Nat} {T : List Tk} {e : Int} {R : Except (Int × Int) Pst} {p0 : Nat} {mx df : Bool} {n i c a : Int} (h : MidQ w0 w gr gp T e R p0 mx df n i c a) (hp : p0 < T.length) (hT : T.length ≤ 1000000) (hI : IsR w0 w gr T i e c a) (hB : Below w0.heap.size w0 w) :
  Calls Tryd.prog 28 #[.pointer (some ⟨gr, 0, none⟩), .int .i64 5] w fun e' w' => ∃ t i2 c2 a2, e' = .returned (.string t) ∧ IsR w0 w' gr T i2 e c2 a2 ∧ Below w0.heap.size w0 w' ∧ Sit w0 w' gr gp T e R (T.length - p0) mx df (n + 1) i2 c2 a2 := by
 rcases h with ⟨hc, hi, hR⟩ | ⟨f, st, q, v0, v1, v3, okS, okR, rfl, rfl, rfl, hq, hm, hd, hn, hf, hR, hS⟩
 ·exact (r_next_bad 5 hi hc hT hI hB).mono fun e' w' ⟨h1, h2, h3, h4⟩ => ⟨_, i, c, a, h1, h2, h3, .inl ⟨hc, hi, hR⟩⟩
 ·obtain ⟨t, i2, c2, a2, hQ, hC⟩ := r_next (T := T) (e := e) 5 q (by decide) hT hI hB
  refine hC.mono fun e' w' ⟨h1, h2, h3, h4⟩ => ⟨t, i2, c2, a2, h1, h2, h3, ?_⟩
  cases ht : takeP T e 5 q with
  | error x =>
   obtain ⟨x, y⟩ := x
   rw [ht] at hQ hR
   obtain ⟨hx, hi, rfl, rfl, _⟩ := hQ
   exact .inl ⟨hx, hi, hR⟩
  | ok x =>
   obtain ⟨t', q2⟩ := x
   rw [ht] at hQ hR
   obtain ⟨rfl, rfl, rfl, rfl⟩ := hQ
   have h5 := takeP_mono ht
   exact .inr ⟨f, st, q2, v0, v1, v3, okS, okR, rfl, rfl, rfl, hm, hd, hn, by omega, by omega, hR, hS.keep h4⟩
def PolQR (w : World) (r : Except (Int × Int) Pst) (e : Ending) (w' : World) : Prop :=
 match r with
 | .ok st => ∃ v0 v1 v3, e = .returned (.tuple #[.agg (polcells v0 v1 st.mixed v3 st.allow), faultV (0, 0)]) ∧ Kd.R Kd.string 9 w' w.heap.size (fun k_ => (w.heap.size ≤ k_)) v0 st.csp ∧ Kd.R k47 47 w' w.heap.size (fun k_ => (w.heap.size ≤ k_) ∧ some k_ ≠ (v0 : Value).ownBlock) v1 st.shares ∧ Kd.V k41 41 w' w.heap.size (fun k_ => (w.heap.size ≤ k_) ∧ (some k_ ≠ (v0 : Value).ownBlock ∧ some k_ ≠ (v1 : Value).ownBlock)) v3 st.rules ∧ Below w.heap.size w w'
 | .error f => e = .returned (.tuple #[zeroPol, faultV f]) ∧ Below w.heap.size w w'
theorem rl_mkF (W : World) (ok : Nat → Prop) (x : Rl) {v : Value} (h : Kd.V k39 39 W 0 ok v x.f1.f2) : Kd.FK k41 W ok x [.bool x.f0, .int .i64 x.f1.f0, .string x.f1.f1.f0, .string x.f1.f1.f1, v] := by
 obtain ⟨A, c, rfl, hl, hF⟩ := h
 exact fun W2 hW => k41_mk W2 x hl (hF W2 hW)
theorem rpol_results (tmps : Array Value) (w : World) (gp gf : Nat) (cs fs : Array Value) (h2 : tmps.getD 2 undef = .pointer (some ⟨gp, 0, none⟩)) (h3 : tmps.getD 3 undef = .pointer (some ⟨gf, 0, none⟩))
  (hp : w.heap[gp]? = some (.cells cs 26 (0, 0))) (hf : w.heap[gf]? = some (.cells fs 50 (0, 0))) (hc : cs.size = 5) (hfs : fs.size = 2) :
  (results Tryd.f14 tmps).run Tryd.prog w = .ok (.tuple #[.agg cs, .agg fs]) w :=
 results_list (rs := [.cell 2 26, .cell 3 50]) rfl (by simp) (.cell gp _ cs (0, 0) _ h2 hp Tryd.underlying26 rfl (by rw [hc]; exact size_pol) (.cell gf _ fs (0, 0) _ h3 hf Tryd.underlying50 rfl (by rw [hfs]; exact size_fault) .nil))
end Go.Proofs.YtdlahgamdigkhaaDoor.Pu
namespace Go.Proofs.YtdlahgamdigkhaaDoor.Pu
open Go.RowKit Go.Proofs.YtdlahgamdigkhaaDoor.Pr Go.Proofs.YtdlahgamdigkhaaDoorW.PrintWords Go.Proofs.YtdlahgamdigkhaaDoorW.PrintLast Go.Proofs.YtdlahgamdigkhaaDoorW.PrintMore Go.Proofs.YtdlahgamdigkhaaDoor.Lx
open Go.Proofs.YtdlahgamdigkhaaDoor.Ps hiding Tk
theorem memB_nil (s : ByteArray) : memB s [] = false := rfl
theorem six_of {wd : ByteArray} (h : memB wd six = true) : wd = wCsp ∨ wd = wShare ∨ wd = wMixed ∨ wd = wDefault ∨ (wd = wAllow ∨ wd = wDeny) := by
 simp only [memB, six, List.any_cons, List.any_nil, Bool.or_eq_true, decide_eq_true_eq, Bool.or_false] at h
 exact h
theorem isP_six {T : List Tk} {e : Int} {p : Nat} {k0 p0 : Int} {wd : ByteArray} (ht : (⟨k0, p0, wd⟩ : Tk) = nxt T e p) : isP T e [wCsp, wShare, wMixed, wDefault, wAllow, wDeny] p = (decide (k0 = 1) && memB wd six) := by
 rw [isP, ← ht]; rfl
theorem item_no {T : List Tk} {e : Int} {st : Pst} {p : Nat} {k0 p0 : Int} {wd : ByteArray} (ht : (⟨k0, p0, wd⟩ : Tk) = nxt T e p) (h : (decide (k0 = 1) && memB wd six) = false) : itemP T e st p = .error (8, p0) := by
 rw [itemP, isP_six ht, h, if_neg Bool.false_ne_true, ← ht]
theorem item_in {T : List Tk} {e : Int} {st : Pst} {p : Nat} {p0 : Int} {wd : ByteArray} (ht : (⟨1, p0, wd⟩ : Tk) = nxt T e p) (h : memB wd six = true) : itemP T e st p =
  if wd = wMixed then (if st.metM + 1 > 1 then .error (10, p0) else if st.items + 1 > 60 then .error (2, p0) else itemK T e { st with metM := st.metM + 1, items := st.items + 1 } wd (p + 1))
  else if wd = wDefault then (if st.metD + 1 > 1 then .error (10, p0) else if st.items + 1 > 60 then .error (2, p0) else itemK T e { st with metD := st.metD + 1, items := st.items + 1 } wd (p + 1))
  else if st.items + 1 > 60 then .error (2, p0) else itemK T e { st with items := st.items + 1 } wd (p + 1) := by
 have htk : takeP T e 1 p = .ok (wd, p + 1) := by rw [takeP, ← ht]; rfl
 have hmd : isP T e [wMixed, wDefault] p = memB wd [wMixed, wDefault] := by rw [isP, ← ht]; rfl
 rw [itemP, isP_six ht, h, if_pos (by rfl), onceP, hmd, ← ht, htk]
 by_cases h1 : wd = wMixed
 ·subst h1
  rw [show memB wMixed [wMixed, wDefault] = true from by decide +kernel, if_pos rfl, if_pos rfl]
  dsimp only
  rw [if_pos rfl]
  by_cases h2 : st.metM + 1 > 1
  ·rw [if_pos h2, if_pos h2]
  ·rw [if_neg h2, if_neg h2]
 ·by_cases h2 : wd = wDefault
  ·subst h2
   rw [show memB wDefault [wMixed, wDefault] = true from by decide +kernel, if_pos rfl, if_neg h1, if_pos rfl]
   dsimp only
   rw [if_neg h1]
   by_cases h3 : st.metD + 1 > 1
   ·rw [if_pos h3, if_pos h3]
   ·rw [if_neg h3, if_neg h3]
  ·rw [show memB wd [wMixed, wDefault] = false from by rw [memB_cons, memB_cons, memB_nil, decide_eq_false h1, decide_eq_false h2]; rfl, if_neg Bool.false_ne_true, if_neg h1, if_neg h2]
theorem wordP_yes {T : List Tk} {e : Int} {ws : List ByteArray} {p : Nat} (w : ByteArray) (hw : memB w ws = true) (h : isP T e [w] p = true) : wordP T e ws p = .ok (w, p + 1) := by
 obtain ⟨h1, h2⟩ := one_word h
 rw [wordP, show isP T e ws p = true from by rw [isP, h1, h2, hw]; rfl, if_pos rfl, takeP, if_pos h1, h2]
theorem wordP_no {T : List Tk} {e : Int} {ws : List ByteArray} {p : Nat} (h : isP T e ws p = false) : wordP T e ws p = .error (8, (nxt T e p).f1) := by
 rw [wordP, h, if_neg Bool.false_ne_true]
theorem step_eq {T : List Tk} {e : Int} {f : Nat} {st : Pst} {p : Nat} {R : Except (Int × Int) Pst} (hR : R = itemsP T e f st p) (hf : T.length + 1 ≤ f + p) (hp : p < T.length) : ∃ f', T.length ≤ f' + p ∧ R = itemsK T e f' (itemP T e st p) := by
 obtain ⟨f', rfl⟩ : ∃ f', f = f' + 1 := ⟨f - 1, by omega⟩
 exact ⟨f', by omega, by rw [hR, itemsP_succ hp]⟩
section
variable {w0 W : World} {gr gp : Nat} {T : List Tk} {e : Int} {R : Except (Int × Int) Pst} {p0 : Nat} {mx df : Bool} {n i c a : Int} {f : Nat} {s5 : Pst} {q : Nat} {v0 v1 v3 : Value} {okS okR : Nat → Prop}
structure Cnt (mx df : Bool) (n : Int) (p0 q f : Nat) (T : List Tk) (s5 : Pst) : Prop where
 m : mx = decide (s5.metM = 1)
 d : df = decide (s5.metD = 1)
 n : n + 1 = (s5.items : Int)
 q : q = p0 + 1
 f : T.length ≤ f + p0
theorem mid_csp {t : ByteArray} (hQ : NxQ (takeP T e 2 q) t i c a) (hR : R = itemsK T e f (cspK s5 (takeP T e 2 q))) (hS : RS w0 W gr gp v0 v1 v3 { s5 with csp := s5.csp ++ [t] } okS okR) (hc : Cnt mx df n p0 q f T s5) : MidQ w0 W gr gp T e R p0 mx df n i c a := by
 cases ht : takeP T e 2 q with
 | error x =>
  obtain ⟨x, y⟩ := x
  rw [ht] at hQ hR
  obtain ⟨hx, hi, rfl, rfl, _⟩ := hQ
  exact .inl ⟨hx, hi, hR⟩
 | ok x =>
  obtain ⟨t', q2⟩ := x
  rw [ht] at hQ hR
  obtain ⟨rfl, rfl, rfl, rfl⟩ := hQ
  have := takeP_mono ht
  have := hc.q
  exact .inr ⟨f, { s5 with csp := s5.csp ++ [t] }, q2, v0, v1, v3, okS, okR, rfl, rfl, rfl, by omega, hc.m, hc.d, hc.n, hc.f, hR, hS⟩
theorem mid_sha {h : Sh} (hQ : ShQ (shareP T e q) h i c a) (hR : R = itemsK T e f (shaK s5 (shareP T e q))) (hS : RS w0 W gr gp v0 v1 v3 { s5 with shares := s5.shares ++ [h] } okS okR) (hc : Cnt mx df n p0 q f T s5) : MidQ w0 W gr gp T e R p0 mx df n i c a := by
 cases ht : shareP T e q with
 | error x =>
  obtain ⟨x, y⟩ := x
  rw [ht] at hQ hR
  obtain ⟨hx, hi, rfl, rfl⟩ := hQ
  exact .inl ⟨hx, hi, hR⟩
 | ok x =>
  obtain ⟨t', q2⟩ := x
  rw [ht] at hQ hR
  obtain ⟨rfl, rfl, rfl, rfl⟩ := hQ
  have := shareP_mono ht
  have := hc.q
  exact .inr ⟨f, { s5 with shares := s5.shares ++ [h] }, q2, v0, v1, v3, okS, okR, rfl, rfl, rfl, by omega, hc.m, hc.d, hc.n, hc.f, hR, hS⟩
theorem mid_rul {h : Cd} {wd : ByteArray} {q1 : Nat} (hQ : CdQ (condP T e q1) h i c a) (hq : q ≤ q1) (hR : R = itemsK T e f (ruleK s5 wd (condP T e q1))) (hS : RS w0 W gr gp v0 v1 v3 { s5 with rules := s5.rules ++ [⟨decide (wd = wAllow), h⟩] } okS okR) (hc : Cnt mx df n p0 q f T s5) : MidQ w0 W gr gp T e R p0 mx df n i c a := by
 cases ht : condP T e q1 with
 | error x =>
  obtain ⟨x, y⟩ := x
  rw [ht] at hQ hR
  obtain ⟨hx, hi, rfl, rfl⟩ := hQ
  exact .inl ⟨hx, hi, hR⟩
 | ok x =>
  obtain ⟨t', q2⟩ := x
  rw [ht] at hQ hR
  obtain ⟨rfl, rfl, rfl, rfl⟩ := hQ
  have := condP_mono T e _ _ _ ht
  have := hc.q
  exact .inr ⟨f, { s5 with rules := s5.rules ++ [⟨decide (wd = wAllow), h⟩] }, q2, v0, v1, v3, okS, okR, rfl, rfl, rfl, by omega, hc.m, hc.d, hc.n, hc.f, hR, hS⟩
theorem mid_ok {st : Pst} {q2 : Nat} (hq : q ≤ q2) (hm : st.metM = s5.metM) (hd : st.metD = s5.metD) (hn : st.items = s5.items) (hR : R = itemsK T e f (.ok (st, q2))) (hS : RS w0 W gr gp v0 v1 v3 st okS okR) (hc : Cnt mx df n p0 q f T s5) : MidQ w0 W gr gp T e R p0 mx df n (q2 : Int) 0 0 := by
 have := hc.q
 exact .inr ⟨f, st, q2, v0, v1, v3, okS, okR, rfl, rfl, rfl, by omega, by rw [hm]; exact hc.m, by rw [hd]; exact hc.d, by rw [hn]; exact hc.n, hc.f, hR, hS⟩
theorem mid_err {x y : Int} (hx : x ≠ 0) (hi : 0 ≤ i) (hR : R = itemsK T e f (.error (x, y))) : MidQ w0 W gr gp T e R p0 mx df n i x y := .inl ⟨hx, hi, hR⟩
end
set_option maxHeartbeats 40000000
set_option maxRecDepth 100000
theorem sc_bad {p_ : Prop} (h_ : p_ := by
 obtain rfl : R = .error (cE, p0) := HRE.out
 have l0 : (cE != (0 : Int)) = true := by simp [hc9]
 go_wp2_with fail
 refine (bad_quiet w2 _ gr T _ _ cE p0 true l0 HIX.out).mono ?_
 rintro e w' ⟨rfl, hww⟩
 obtain rfl := hww.symm
 clear hww
 dsimp only
 obtain ⟨A9, c9, hb9, _, _⟩ := HIX.out
 have d3 : w9.drew.cell? ⟨gr, 3, none⟩ = some (.int .i64 cE) := cellS66_3 hb9
 have d4 : w9.drew.cell? ⟨gr, 4, none⟩ = some (.int .i64 p0) := cellS66_4 hb9
 have HP9 : Aside0 (w9.heap[gA]? = some (.cells (polcells (.slice none 0 0) (.slice none 0 0) ⟨#[]⟩ (.slice none 0 0) false) 26 (0, 0))) := ⟨blk_below HP2.out HBX.out⟩
 have HF9 : Aside0 (w9.heap[gA + 1]? = some (.cells #[.int .i64 0, .int .i64 0] 50 (0, 0))) := ⟨blk_below HF2.out HBX.out⟩
 have HGR : Aside0 (gA + 1 < gr) := ⟨by have := HLT.out; have := HZ2.out; have := HGX.out; omega⟩
 clear hb9
 go_upto_region 45 with (fail)
 refine start_ (n := 7) (S := fun w' => w'.cell? ⟨gr, 3, none⟩ = some (.int .i64 cE) ∧ w'.cell? ⟨gr, 4, none⟩ = some (.int .i64 p0)) (ds := [6]) #[false, false, false, false, false, false, false] (by kernel_rfl) rfl rfl ⟨d3, d4⟩ (fun hHeld => ?_)
 refine pure_ (i := 0) (N := some 153) (v := ?_) (a' := ?_) #[true, false, false, false, false, false, false] rfl rfl (by kernel_rfl) (fun _ _ _ h => h) (Or.inl ⟨by rfl, ?_⟩) ?_ ?_
 rotate_left
 ·exact sRe9_1
 rotate_left
 ·exact nRe9_
 refine pure_ (i := 1) (N := some 154) (v := ?_) (a' := ?_) #[true, true, false, false, false, false, false] rfl rfl (by kernel_rfl) (fun _ _ _ h => h) (Or.inl ⟨by rfl, ?_⟩) ?_ ?_
 rotate_left
 ·exact sRe9_1
 rotate_left
 ·exact nRe9_
 refine pure_ (i := 2) (N := some 155) (v := ?_) (a' := ?_) #[true, true, true, false, false, false, false] rfl rfl (by kernel_rfl) (fun _ _ _ h => h) (Or.inl ⟨by rfl, ?_⟩) ?_ ?_
 rotate_left
 ·exact sRe9_1
 rotate_left
 ·exact nRe9_
 refine pure_ (i := 3) (N := some 156) (v := ?_) (a' := ?_) #[true, true, true, true, false, false, false] rfl rfl (by kernel_rfl) (fun _ _ _ h => h) (Or.inl ⟨by rfl, ?_⟩) ?_ ?_
 rotate_left
 ·exact sRe9_1
 rotate_left
 ·exact nRe9_
 refine take_ (i := 4) (N := some 157) (v := ?_) (a' := ?_) #[true, true, true, true, true, false, false] rfl rfl (by kernel_rfl) (fun _ _ _ h => h) (Or.inl ⟨by rfl, ?_⟩) hHeld ?_ ?_
 rotate_left
 ·rintro w' ⟨s0, s1⟩
  go_simp
  with_reducible rfl
 rotate_left
 ·exact nRe9_
 refine one_ (i := 5) (N := none) #[true, true, true, true, true, true, false] rfl rfl (by kernel_rfl) (by decide) (fun K hK => ?_)
 refine QT.storeRow_ (by rfl) rfl 26 (.tmp 2) (.tmp 153) rfl gA #[.slice none 0 0, .slice none 0 0, .string ⟨#[]⟩, .slice none 0 0, .bool false] rfl rfl 26 _ HP9.out (by kernel_rfl) rfl (by simp [Value.oneCell']) ?_
 refine hK.out _ _ ⟨(cell_setRow_other _ _ _ _ (show gr ≠ gA by have := HGR.out; omega)).trans hHeld.1, (cell_setRow_other _ _ _ _ (show gr ≠ gA by have := HGR.out; omega)).trans hHeld.2⟩ (fun hHeld => ?_)
 clear hK K
 refine last_ (i := 6) (N := none) #[true, true, true, true, true, true, true] rfl rfl (by kernel_rfl) (by decide) (fun K hK => ?_)
 refine QT.storeRow_ (by rfl) rfl 50 (.tmp 3) (.tmp 157) rfl (gA + 1) #[.int .i64 cE, .int .i64 p0] rfl rfl 50 #[.int .i64 0, .int .i64 0] ((setRow_other _ _ _ _ (show gA + 1 ≠ gA by omega)).trans HF9.out) (by kernel_rfl) rfl (by simp [Value.oneCell']) ?_
 refine hK.out _ _ ?_
 clear hK K
 refine done_ (by kernel_rfl) ?_

 rw [hput, hput]
 clear hput
 go_wp2
 refine bodyPost_ret (rpol_results _ _ gA (gA + 1) _ _ rfl rfl ?_ ?_ rfl rfl) rfl ⟨rfl, ?_⟩
 ·exact (setRow_other _ _ _ _ (show gA ≠ gA + 1 by omega)).trans (setRow_heap _ _ _ _ _ _ HP9.out)
 ·exact setRow_heap _ _ _ _ _ _ ((setRow_other _ _ _ _ (show gA + 1 ≠ gA by omega)).trans HF9.out)
 ·exact below_setRow (below_setRow (below_drew (HB2.out.trans (HBX.out.mono HB2.out.size))) (by rw [HGA.out]; omega) _) (by rw [HGA.out]; omega) _) : p_ := h_
theorem sc_round {p_ : Prop} (h_ : p_ := by
 go_wp2_with fail
 refine (mid_next HMR.out HPT.out HLN.out HIR.out HBR.out).mono ?_
 rintro e w20 ⟨t20, i20, c20, a20, rfl, hi20, hb20, hs20⟩
 dsimp only
 have HI20 := Aside0.mk hi20
 have HB20 := Aside0.mk hb20
 have HS20 := Aside0.mk hs20
 clear hi20 hb20 hs20
 go_wp2
 go_roundg (T.length - p)
 case measure => have := HGK.out; have := HPT.out; omega
 case rel => exact ⟨_, _, _, i20, c20, a20, rfl, rfl, rfl, HI20, HB20, HS20⟩) : p_ := h_
theorem rpolicy_calls (s : ByteArray) (k : Nat) (T : List Tk) (c a : Int) (w : World) (h : parapetref19_Tokens.f k s = some (T, c, a)) (hsz : ∀ t ∈ T, t.f2.size ≤ 1000000) (hln : T.length ≤ 1000000) (hss : c = 0 → s.size ≤ 1000000) :
  Calls Tryd.prog 14 #[.string s] w (PolQR w (polT s.size (T, c, a))) := by
 have HSZ := Aside0.mk hsz
 have HLN := Aside0.mk hln
 have HSS := Aside0.mk hss
 obtain ⟨gA, hgA⟩ : ∃ gA, gA = w.heap.size := ⟨_, rfl⟩
 obtain ⟨R, hR⟩ : ∃ R, R = polT s.size (T, c, a) := ⟨_, rfl⟩
 rw [← hR]
 have HR := Aside0.mk hR
 clear hR hsz hln hss
 have HTK := Aside0.mk h
 clear h
 go_enter Tryd.func14, Tryd.ntmps14
 go_wp2_with fail
 refine (parapetref19_Tokens.calls k s T c a _ HTK.out).mono ?_
 rintro e w1 ⟨v0, rfl, hT, hb⟩
 dsimp only
 have HF1 : Aside0 (w1.heap[gA + 1]? = some (.cells #[.int .i64 0, .int .i64 0] 50 (0, 0))) := ⟨by rw [hgA]; exact blk_below (blk_new2 _ _ _ _ _) hb⟩
 have HP1 : Aside0 (w1.heap[gA]? = some (.cells (polcells (.slice none 0 0) (.slice none 0 0) ⟨#[]⟩ (.slice none 0 0) false) 26 (0, 0))) := ⟨by rw [hgA]; exact blk_below (blk_alloc (blk_new _ _) _) hb⟩
 have HB1 : Aside0 (Below w.heap.size w w1) := ⟨(below_alloc (below_alloc (Below.refl _ _) _) _).trans (hb.mono (below_alloc (below_alloc (Below.refl _ _) _) _).size)⟩
 obtain ⟨A0, c0, e0⟩ := Kd.R_slice hT
 obtain ⟨n0, hn0⟩ : ∃ n0, n0 = T.length := ⟨_, rfl⟩
 rw [← hn0] at e0
 subst e0
 rw [size_two, ← hgA] at hT
 have HT1 := Aside0.mk hT
 have HN0 := Aside0.mk hn0
 have HGA := Aside0.mk hgA
 clear hT hb hn0
 rw [← hgA]
 clear hgA
 obtain ⟨gf, hgf⟩ : ∃ gf, gf = w1.heap.size := ⟨_, rfl⟩
 have hput : ∀ (a : Act) (v : Value), a.put none v = a := fun _ _ => rfl
 by_cases hc : c = 0
 ·have l1 : (c != (0 : Int)) = false := by simp [hc]
  subst hc
  replace HSS := Aside0.mk (HSS.out rfl)
  go_upto_region 2 with (refine wpList_store_row rfl 50 _ _ rfl w1.heap.size #[.int .i64 0, .int .i64 a] rfl rfl 50 #[.int .i64 0, .int .i64 0] (blk_new _ _) size_fault rfl (by simp [Value.oneCell']) ?_)
  obtain ⟨w2, hw2⟩ : ∃ w2, w2 = (w1.alloc (.cells #[.int .i64 0, .int .i64 0] 50)).setRow w1.heap.size #[.int .i64 0, .int .i64 a] := ⟨_, rfl⟩
  rw [← hw2, ← hgf]
  have HZ2 : Aside0 (gf < w2.heap.size) := ⟨by rw [hw2, hgf]; exact blk_lt (setRow_heap _ _ _ _ _ _ (blk_new w1 (.cells #[.int .i64 0, .int .i64 0] 50)))⟩
  have HX2 : Aside0 (w2.heap[gf]? = some (.cells #[.int .i64 0, .int .i64 a] 50 (0, 0))) := ⟨by rw [hw2, hgf]; exact setRow_heap _ _ _ _ _ _ (blk_new w1 (.cells #[.int .i64 0, .int .i64 0] 50))⟩
  have HLT : Aside0 (gA + 1 < gf) := ⟨by rw [hgf]; exact blk_lt HF1.out⟩
  have HK12 : Aside0 (Below w1.heap.size w1 w2) := ⟨by rw [hw2]; exact below_setRow (below_alloc (Below.refl _ _) _) (Nat.le_refl _) _⟩
  clear hw2
  have HF2 : Aside0 (w2.heap[gA + 1]? = some (.cells #[.int .i64 0, .int .i64 0] 50 (0, 0))) := ⟨blk_below HF1.out HK12.out⟩
  have HP2 : Aside0 (w2.heap[gA]? = some (.cells (polcells (.slice none 0 0) (.slice none 0 0) ⟨#[]⟩ (.slice none 0 0) false) 26 (0, 0))) := ⟨blk_below HP1.out HK12.out⟩
  have HB2 : Aside0 (Below w.heap.size w w2) := ⟨HB1.out.trans (HK12.out.mono HB1.out.size)⟩
  have HC2 : Aside0 (n0 ≤ c0 ∧ k69.C w2 A0 T.length T) := ⟨(Kd.R_reads' HT1.out).2.1, (Kd.R_reads' (Kd.R_below HT1.out HK12.out)).2.2⟩
  clear HF1 HP1 HB1 HT1 HK12 hgf
  have t0 : w2.cell? ⟨gf, 0, none⟩ = some (.int .i64 0) := blk_cell HX2.out 0
  obtain ⟨gr, hgr⟩ : ∃ gr, gr = w2.heap.size := ⟨_, rfl⟩
  go_wp2_with (refine wpList_store_row rfl 26 _ _ rfl (w2.heap.size + 1) (polcells (.slice none 0 0) (.slice none 0 0) wBlock (.slice none 0 0) false) rfl rfl 26 (polcells (.slice none 0 0) (.slice none 0 0) ⟨#[]⟩ (.slice none 0 0) false) (blk_new2 _ _ _ _ _) size_pol rfl (pol_one ⟨rfl, rfl, rfl⟩ _ _) ?_)
  obtain ⟨w3, hw3⟩ : ∃ w3, w3 = ((w2.alloc (.cells #[.slice A0 n0 c0, .int .i64 0, .int .i64 s.size, .int .i64 0, .int .i64 0] 66)).alloc (.cells #[.slice none 0 0, .slice none 0 0, .string ⟨#[]⟩, .slice none 0 0, .bool false] 26)).setRow (w2.heap.size + 1) (polcells (.slice none 0 0) (.slice none 0 0) wBlock (.slice none 0 0) false) := ⟨_, rfl⟩
  obtain ⟨gp, hgp⟩ : ∃ gp, gp = gr + 1 := ⟨_, rfl⟩
  have HX3 : Aside0 (w3.heap[gr]? = some (.cells #[.slice A0 n0 c0, .int .i64 0, .int .i64 s.size, .int .i64 0, .int .i64 0] 66 (0, 0))) := ⟨by rw [hw3, hgr]; exact (setRow_other _ _ _ _ (by omega)).trans (blk_alloc (blk_new _ _) _)⟩
  have HQ3 : Aside0 (w3.heap[gp]? = some (.cells (polcells (.slice none 0 0) (.slice none 0 0) wBlock (.slice none 0 0) false) 26 (0, 0))) := ⟨by rw [hw3, hgp, hgr]; exact setRow_heap _ _ _ _ _ _ (blk_new2 _ _ _ _ _)⟩
  have HB3 : Aside0 (Below w2.heap.size w2 w3) := ⟨by rw [hw3]; exact below_setRow (below_alloc (below_alloc (Below.refl _ _) _) _) (Nat.le_succ _) _⟩
  have HGX : Aside0 (gr = w2.heap.size ∧ gp = gr + 1) := ⟨⟨hgr, hgp⟩⟩
  rw [← hw3, ← hgr, ← hgp]
  clear hw3 hgr hgp t0 l1
  have HI3 : Aside0 (IsR w2 w3 gr T 0 s.size 0 0) := ⟨⟨A0, c0, by rw [← HN0.out]; exact HX3.out, by rw [HGX.out.1]; exact Nat.le_refl _, HC2.out.2⟩⟩
  have HS3 : Aside0 (RS w2 w3 gr gp (.slice none 0 0) (.slice none 0 0) (.slice none 0 0) pst0 (fun _ => False) (fun _ => False)) := ⟨{ blk := HQ3.out, rC := Kd.R_nil _ _ _ _ _, rS := Kd.R_nil _ _ _ _ _, rR := Kd.N_nil _ _ _ _ _, dC := fun k hk => by simp [Value.ownBlock] at hk, bS := fun _ h => h.elim, bR := fun _ h => h.elim, ng := by have := HGX.out.2; omega, lg := by have := HGX.out; omega, lr := blk_lt HX3.out, lC := Nat.le_refl _, lS := Nat.le_refl _, lR := Nat.le_refl _, lI := by decide, lM := by decide, lD := by decide, eM := fun _ => rfl, eD := fun _ => rfl }⟩
  have HR0 : Aside0 (R = itemsP T s.size (T.length + 1) pst0 0) := ⟨by rw [HR.out, polT, if_pos rfl]; rfl⟩
  clear HX3 HQ3 HR
  go_loopg [8, 9, 10] (T.length + 1) (fun gk v8 v9 v10 wr => ∃ (mx df : Bool) (n i c2 a2 : Int), v8 = .bool mx ∧ v9 = .bool df ∧ v10 = .int .i64 n ∧ Aside0 (IsR w2 wr gr T i s.size c2 a2) ∧ Aside0 (Below w2.heap.size w2 wr) ∧ Aside0 (Sit w2 wr gr gp T s.size R gk mx df n i c2 a2))
  case atStart => exact ⟨false, false, 0, 0, 0, 0, rfl, rfl, rfl, HI3, HB3, ⟨.inr ⟨T.length + 1, pst0, 0, _, _, _, _, _, rfl, rfl, rfl, rfl, rfl, rfl, Nat.le_refl _, Nat.le_refl _, HR0.out, HS3.out⟩⟩⟩
  case round =>
   clear HI3 HB3 HS3 HR0
   obtain ⟨mx, df, n, i, c2, a2, rfl, rfl, rfl, HI, HB, HSit⟩ := hrel
   rcases HSit.out with ⟨hc, hi, hR⟩ | ⟨f, st, p, v0, v1, v3, okS, okR, rfl, rfl, rfl, hm, hd, hn, hf, hgk, hR, hS⟩
   ·skip
    have l0 : (c2 != (0 : Int)) = true := by simp [hc]
    have HRE0 : Aside0 (R = .error (c2, a2)) := ⟨hR⟩
    have HC2' := Aside0.mk hc
    go_wp2
    go_quiet ((go_at_call 24; exact Calls.quiet_of_same (bad_quiet w2 _ gr T _ _ c2 a2 _ l0 (IsS66.drewN HI.out _))))
    obtain ⟨w5, hw5⟩ : ∃ w5, w5 = wr.drewN nq := ⟨_, rfl⟩
    rw [← hw5]
    have HI5 : Aside0 (IsR w2 w5 gr T i s.size c2 a2) := ⟨by rw [hw5]; exact IsS66.drewN HI.out _⟩
    have HB5 : Aside0 (Below w2.heap.size w2 w5) := ⟨by rw [hw5]; exact pw_below_drewN HB.out _⟩
    clear hw5 HI HB hc l0
    have hc9 := HC2'.out
    obtain ⟨cE, hcE⟩ : ∃ cE, cE = c2 := ⟨_, rfl⟩
    obtain ⟨p0, hp0⟩ : ∃ p0, p0 = a2 := ⟨_, rfl⟩
    obtain ⟨w9, hw9⟩ : ∃ w9, w9 = w5 := ⟨_, rfl⟩
    have HIX : Aside0 (IsR w2 w9 gr T i s.size cE p0) := ⟨by rw [hcE, hp0, hw9]; exact HI5.out⟩
    have HBX : Aside0 (Below w2.heap.size w2 w9) := ⟨by rw [hw9]; exact HB5.out⟩
    have HRE : Aside0 (R = .error (cE, p0)) := ⟨by rw [hcE, hp0]; exact HRE0.out⟩
    rw [← hw9]
    rw [← hcE] at hc9
    clear hcE hp0 hw9 HI5 HB5 HRE0
    exact sc_bad
   ·by_cases hp : p < n0
    ·skip
     have l1 : decide ((p : Int) < (n0 : Int)) = true := decide_eq_true (by omega)
     have l2 : decide (p < n0) = true := decide_eq_true hp
     have HPT : Aside0 (p < T.length) := ⟨by have := HN0.out; omega⟩
     obtain ⟨f', hf1, hf2⟩ := step_eq hR hf HPT.out
     have HRK : Aside0 (R = itemsK T s.size f' (itemP T s.size st p)) := ⟨hf2⟩
     have HFF : Aside0 (T.length ≤ f' + p) := ⟨hf1⟩
     have HGK : Aside0 (T.length - p + 1 ≤ gk) := ⟨hgk⟩
     obtain ⟨it, hit⟩ : ∃ it, it = st.items := ⟨_, rfl⟩
     obtain rfl : n = (it : Int) := by rw [hit]; exact hn
     have HIT := Aside0.mk hit
     have hli : (it : Int) ≤ 60 := by have := hS.lI; omega
     have HS := Aside0.mk hS
     have HMX := Aside0.mk hm
     have HDF := Aside0.mk hd
     obtain ⟨A1, c1, hb1, _, _⟩ := HI.out
     have t0 : wr.cell? ⟨gr, 0, none⟩ = some (.slice A1 n0 c1) := by rw [HN0.out]; exact cellS66_0 hb1
     have t1 : wr.cell? ⟨gr, 1, none⟩ = some (.int .i64 (p : Int)) := cellS66_1 hb1
     have l0 : ((0 : Int) != 0) = false := by decide
     clear hf1 hf2 hR hf hgk hn hm hd hS hit hp hb1 HSit
     go_wp2
     go_quiet ((go_at_call 24; exact Calls.quiet_of_same (bad_quiet w2 _ gr T _ _ 0 0 _ l0 (IsS66.drewN HI.out _))))
     obtain ⟨w5, hw5⟩ : ∃ w5, w5 = wr.drewN nq := ⟨_, rfl⟩
     rw [← hw5]
     have HI5 : Aside0 (IsR w2 w5 gr T (p : Int) s.size 0 0) := ⟨by rw [hw5]; exact IsS66.drewN HI.out _⟩
     have HB5 : Aside0 (Below w2.heap.size w2 w5) := ⟨by rw [hw5]; exact pw_below_drewN HB.out _⟩
     have HS5 : Aside0 (RS w2 w5 gr gp v0 v1 v3 st okS okR) := ⟨by rw [hw5]; exact HS.out.drewN _⟩
     clear hw5 t0 t1 l0 l1 l2 HI HB HS
     have h6 := r_kind (T := T) (e := s.size) p HI5.out HB5.out
     obtain ⟨tk, htk⟩ : ∃ tk, tk = nxt T s.size p := ⟨_, rfl⟩
     rw [← htk] at h6
     obtain ⟨k0, p0, wd⟩ := tk
     dsimp only at h6
     have H6 := Aside0.mk h6
     have HTK2 := Aside0.mk htk
     clear h6 htk
     go_wp2_with fail
     refine H6.out.mono ?_
     rintro e w6 ⟨rfl, hs, hb, hk⟩
     dsimp only
     have HI6 := Aside0.mk hs
     have HB6 := Aside0.mk hb
     have HS6 : Aside0 (RS w2 w6 gr gp v0 v1 v3 st okS okR) := ⟨HS5.out.keep hk⟩
     clear hs hb hk HI5 HB5 HS5 H6
     by_cases hk0 : k0 = 1
     ·subst hk0
      obtain ⟨A6, c6, hb6, _, hC6⟩ := HI6.out
      obtain ⟨ad, hA1, _, _, q2⟩ := at_T69 hC6 (p : Int) (by omega) (by have := HPT.out; omega)
      have hA2 : A6 = some ad := hA1
      subst hA2
      change _ = some (Value.string (rtok T (p : Int)).f2) at q2
      rw [rtok_nxt (e := s.size) HPT.out, ← HTK2.out] at q2
      dsimp only at q2
      simp only [Int.toNat_natCast] at q2
      replace q2 := (HB6.out.cell (World.block_lt_of_cell? w2 _ q2)).trans q2
      have hbl := World.block_lt_of_cell? w6 _ q2
      have t0 : w6.cell? ⟨gr, 0, none⟩ = some (.slice (some ad) n0 c6) := by rw [HN0.out]; exact cellS66_0 hb6
      have t1 : w6.cell? ⟨gr, 1, none⟩ = some (.int .i64 (p : Int)) := cellS66_1 hb6
      have hlt2 : (p : Int) < (n0 : Int) := by have := HPT.out; have := HN0.out; omega
      clear hb6 hC6 hA1
      go_wp2
      go_quiet (fail)
      obtain ⟨w7, hw7⟩ : ∃ w7, w7 = w6.drewN nq := ⟨_, rfl⟩
      rw [← hw7]
      have HI7 : Aside0 (IsR w2 w7 gr T (p : Int) s.size 0 0) := ⟨by rw [hw7]; exact IsS66.drewN HI6.out _⟩
      have HB7 : Aside0 (Below w2.heap.size w2 w7) := ⟨by rw [hw7]; exact pw_below_drewN HB6.out _⟩
      have HS7 : Aside0 (RS w2 w7 gr gp v0 v1 v3 st okS okR) := ⟨by rw [hw7]; exact HS6.out.drewN _⟩
      clear hw7 q2 hbl t0 t1 HI6 HB6 HS6
      cases hmem : memB wd six with
      | false =>
       have HMEM := Aside0.mk hmem
       clear hmem
       have hin := parapetref1_In.calls (six.length + 1) wd (some ⟨w7.heap.size, 0, none⟩) 6 six _ (w7.alloc (.cells #[.string wCsp, .string wShare, .string wMixed, .string wDefault, .string wAllow, .string wDeny] 9)) (lit_strs w7 six (by decide)) (Nat.le_refl _) (in_f wd six (by decide))
       rw [HMEM.out] at hin
       have HIN := Aside0.mk hin
       clear hin
       go_wp2_with fail
       refine HIN.out.mono ?_
       rintro e w8 ⟨rfl, ⟨⟨nd, hw8⟩⟩⟩
       dsimp only
       have HI8 : Aside0 (IsR w2 w8 gr T (p : Int) s.size 0 0) := ⟨by rw [hw8]; exact IsS66.drewN (IsS66.alloc HI7.out _) _⟩
       have HB8 : Aside0 (Below w2.heap.size w2 w8) := ⟨by rw [hw8]; exact pw_below_drewN (below_alloc HB7.out _) _⟩
       have HS8 : Aside0 (RS w2 w8 gr gp v0 v1 v3 st okS okR) := ⟨by rw [hw8]; exact (HS7.out.keep (keep_alloc (KeepBut.refl _ _ _) _)).drewN _⟩
       clear hw8 HIN
       have HRE0 : Aside0 (R = .error (8, p0)) := ⟨by rw [HRK.out, item_no HTK2.out (by rw [HMEM.out]; rfl)]; rfl⟩
       go_wp2_with fail
       refine (r_wrong (T := T) (e := s.size) p 8 HI8.out HB8.out).mono ?_
       rintro e w9 ⟨rfl, hs, hb, hk⟩
       dsimp only
       have HIX := Aside0.mk hs
       have HBX := Aside0.mk hb
       have HKX := Aside0.mk hk
       clear hs hb hk
       rw [← HTK2.out] at HIX
       have hc9 : (8 : Int) ≠ 0 := by decide
       obtain ⟨cE, hcE⟩ : ∃ cE : Int, cE = 8 := ⟨_, rfl⟩
       rw [← hcE] at HIX hc9 HRE0
       have HRE := HRE0
       clear hcE HRE0
       exact sc_bad
      | true =>
       have HMEM := Aside0.mk hmem
       clear hmem
       have hin := parapetref1_In.calls (six.length + 1) wd (some ⟨w7.heap.size, 0, none⟩) 6 six _ (w7.alloc (.cells #[.string wCsp, .string wShare, .string wMixed, .string wDefault, .string wAllow, .string wDeny] 9)) (lit_strs w7 six (by decide)) (Nat.le_refl _) (in_f wd six (by decide))
       rw [HMEM.out] at hin
       have HIN := Aside0.mk hin
       clear hin
       go_wp2_with fail
       refine HIN.out.mono ?_
       rintro e w8 ⟨rfl, ⟨⟨nd, hw8⟩⟩⟩
       dsimp only
       have HI8 : Aside0 (IsR w2 w8 gr T (p : Int) s.size 0 0) := ⟨by rw [hw8]; exact IsS66.drewN (IsS66.alloc HI7.out _) _⟩
       have HB8 : Aside0 (Below w2.heap.size w2 w8) := ⟨by rw [hw8]; exact pw_below_drewN (below_alloc HB7.out _) _⟩
       have HS8 : Aside0 (RS w2 w8 gr gp v0 v1 v3 st okS okR) := ⟨by rw [hw8]; exact (HS7.out.keep (keep_alloc (KeepBut.refl _ _ _) _)).drewN _⟩
       clear hw8 HIN
       clear HI7 HB7 HS7
       rcases six_of HMEM.out with hwd | hwd | hwd | hwd | hwd
       ·skip
        have ts0 : (wd.toList == [99, 115, 112]) = true := (eq_word (w := wd) (a := wCsp) (by decide +kernel)).trans (decide_eq_true hwd)
        have ts1 : (wd.toList == [115, 104, 97, 114, 101]) = false := (eq_word (w := wd) (a := wShare) (by decide +kernel)).trans (decide_eq_false (by rw [hwd]; decide +kernel))
        have ts2 : (wd.toList == [109, 105, 120, 101, 100]) = false := (eq_word (w := wd) (a := wMixed) (by decide +kernel)).trans (decide_eq_false (by rw [hwd]; decide +kernel))
        have ts3 : (wd.toList == [100, 101, 102, 97, 117, 108, 116]) = false := (eq_word (w := wd) (a := wDefault) (by decide +kernel)).trans (decide_eq_false (by rw [hwd]; decide +kernel))
        have HWD := Aside0.mk hwd
        clear hwd
        by_cases hbig : 60 ≤ it
        ·exact sRe9_0
        ·have l3 : decide ((60 : Int) ≤ (it : Int)) = false := decide_eq_false (by omega)
         have HIL : Aside0 (it < 60) := ⟨by omega⟩
         have HRW : Aside0 (R = itemsK T s.size f' (itemK T s.size { st with items := st.items + 1 } wd (p + 1))) := ⟨by rw [HRK.out, item_in HTK2.out HMEM.out, if_neg (by rw [HWD.out]; decide +kernel), if_neg (by rw [HWD.out]; decide +kernel), if_neg (by have := HIT.out; omega)]⟩
         obtain ⟨s5, hs5⟩ : ∃ s5, s5 = ({ st with items := st.items + 1 } : Pst) := ⟨_, rfl⟩
         rw [← hs5] at HRW
         have HS5 : Aside0 (RS w2 w8 gr gp v0 v1 v3 s5 okS okR) := ⟨by rw [hs5]; exact HS8.out.count (by have := HIL.out; have := HIT.out; omega)⟩
         have HLN5 : Aside0 (s5.csp.length + 1 ≤ s5.items ∧ s5.shares.length + 1 ≤ s5.items ∧ s5.rules.length + 1 ≤ s5.items) := ⟨by rw [hs5]; exact ⟨Nat.succ_le_succ HS8.out.lC, Nat.succ_le_succ HS8.out.lS, Nat.succ_le_succ HS8.out.lR⟩⟩
         have HCN : Aside0 (Cnt mx df (it : Int) p (p + 1) f' T s5) := ⟨⟨by rw [hs5]; exact HMX.out, by rw [hs5]; exact HDF.out, by have := HIT.out; rw [hs5]; show ((it : Int)) + 1 = ((st.items + 1 : Nat) : Int); omega, rfl, HFF.out⟩⟩
         clear hs5 hbig HS8 HRK
         obtain ⟨A8, c8, hb8, _, _⟩ := HI8.out
         have t1 : w8.cell? ⟨gr, 1, none⟩ = some (.int .i64 (p : Int)) := cellS66_1 hb8
         have f1 := blk_frozen hb8 1
         have hjb : (p : Int) ≤ 1000000 := by have := HLN.out; have := HPT.out; omega
         clear hb8
         go_upto_region 21 with (fail)
         obtain ⟨w9, hw9⟩ : ∃ w9, w9 = w8.setCell ⟨gr, 1, none⟩ (.int .i64 ((p : Int) + 1)) := ⟨_, rfl⟩
         rw [← hw9]
         have HI9 : Aside0 (IsR w2 w9 gr T ((p + 1 : Nat) : Int) s.size 0 0) := ⟨by rw [hw9, Int.natCast_add]; exact IsS66.set_1 HI8.out _⟩
         have HB9 : Aside0 (Below w2.heap.size w2 w9) := ⟨by rw [hw9]; exact HB8.out.setCell (p := ⟨gr, 1, none⟩) (IsS66.ge HI8.out) _⟩
         have HS9 : Aside0 (RS w2 w9 gr gp v0 v1 v3 s5 okS okR) := ⟨by rw [hw9]; exact HS5.out.kept (Kept.setCell (S := fun k => k = gr) (p := ⟨gr, 1, none⟩) (Kept.refl _ _) (.inl rfl) _)⟩
         clear hw9 t1 f1 hjb HS5 HI8 HB8
         obtain ⟨t, i7, c7, a7, hQ, hC⟩ := r_next (w0 := w2) (w := w9.drew) (g := gr) (T := T) (e := s.size) 2 (p + 1) (by decide) HLN.out HI9.out (below_drew HB9.out)
         have HRX : Aside0 (R = itemsK T s.size f' (cspK s5 (takeP T s.size 2 (p + 1)))) := ⟨by rw [HRW.out, itemK_csp HWD.out]⟩
         have HQ := Aside0.mk hQ
         have HC := Aside0.mk hC
         have HLB : Aside0 ((s5.csp.length + 1) * 16 ≤ 140737488355328) := ⟨by have := HLN5.out.1; have := HS9.out.lI; omega⟩
         have d0 : w9.drew.cell? ⟨gp, 0, none⟩ = some v0 := blk_cell HS9.out.blk 0
         clear hQ hC HRW
         go_upto_region 26 with (fail)
         refine start_ (n := 8) (S := fun w' => w'.cell? ⟨gp, 0, none⟩ = some v0) (ds := [5, 7]) #[false, false, false, false, false, false, false, false] (by kernel_rfl) rfl rfl (d0) (fun hHeld => ?_)
         refine pure_ (i := 0) (N := some 108) (v := ?_) (a' := ?_) #[true, false, false, false, false, false, false, false] rfl rfl (by kernel_rfl) (fun _ _ _ h => h) (Or.inl ⟨by rfl, ?_⟩) ?_ ?_
         rotate_left
         ·exact sRe9_1
         rotate_left
         ·exact nRe9_
         refine pure_ (i := 2) (N := some 110) (v := ?_) (a' := ?_) #[true, false, true, false, false, false, false, false] rfl rfl (by kernel_rfl) (fun _ _ _ h => h) (Or.inl ⟨by rfl, ?_⟩) ?_ ?_
         rotate_left
         ·exact sRe9_1
         rotate_left
         ·exact nRe9_
         refine take_ (i := 1) (N := some 109) (v := ?_) (a' := ?_) #[true, true, true, false, false, false, false, false] rfl rfl (by kernel_rfl) (fun _ _ _ h => h) (Or.inl ⟨by rfl, ?_⟩) hHeld ?_ ?_
         rotate_left
         ·intro w' s0
          go_simp
          with_reducible rfl
         rotate_left
         ·exact nRe9_
         refine one_ (i := 3) (N := some 111) #[true, true, true, true, false, false, false, false] rfl rfl (by kernel_rfl) (by decide) (fun K hK => ?_)
         refine goes_ Tryd.func28 (by kernel_rfl) rfl #[.pointer (some ⟨gr, 0, none⟩), .int .i64 2] (by rfl) rfl rfl (by simp only [List.map_toArray, List.map_cons, List.map_nil]; rfl) ?_
         refine HC.out.mono ?_
         rintro e w11 ⟨rfl, hi11, hb11, hk11⟩
         refine ⟨_, rfl, ?_⟩
         have HI11 := Aside0.mk hi11
         have HB11 := Aside0.mk hb11
         have HS11 : Aside0 (RS w2 w11 gr gp v0 v1 v3 s5 okS okR) := ⟨HS9.out.keep hk11⟩
         clear hi11 hb11 hk11
         refine hK.out _ _ ((blk_cell HS11.out.blk 0)) (fun hHeld => ?_)
         clear hK K
         refine norm_ (a' := ?_) ?_ ?_
         rotate_left
         ·show Act.put _ (some 111) _ = _
          exact nRe9_
         refine one_ (i := 4) (N := some 112) #[true, true, true, true, true, false, false, false] rfl rfl (by kernel_rfl) (by decide) (fun K hK => ?_)
         refine value_ (w1 := ?_) (v := ?_) (by rfl) rfl ?_ ?_
         rotate_left 2
         ·go_simp
          constructor
          ·rfl
          ·rfl
         refine hK.out _ _ ((blk_cell (show (w11.alloc _).heap[gp]? = _ from blk_alloc HS11.out.blk _) 0)) (fun hHeld => ?_)
         clear hK K
         refine norm_ (a' := ?_) ?_ ?_
         rotate_left
         ·show Act.put _ (some 112) _ = _
          exact nRe9_
         refine last_ (i := 5) (N := some 113) #[true, true, true, true, true, true, false, false] rfl rfl (by kernel_rfl) (by decide) (fun K hK => ?_)
         refine Kd.R_append_step Kd.string (w0 := w2) (W := w11) w2.heap.size (by rfl) _ _ 22 9 (.string ⟨#[]⟩) 16 rfl Tryd.underlying22 info_str rfl (by decide) (by decide) v0 s5.csp t [.string t] (fun _ => True) (fun _ => False) rfl rfl rfl (fun _ hk => hk.elim) (fun _ _ => trivial) HS11.out.rC HB11.out HB11.out.size HLB.out ?_
         intro v12 w12 hO12 hB12 hG12 hat12
         have HI13 : Aside0 (IsR w2 (w12.setCell ⟨gp, 0, none⟩ v12) gr T i7 s.size c7 a7) := ⟨IsS66.far (IsS66.grown HI11.out hG12 (fun he => (HS11.out.dC gr he.symm).1 rfl)) (p := ⟨gp, 0, none⟩) HS11.out.ng _⟩
         have HB13 : Aside0 (Below w2.heap.size w2 (w12.setCell ⟨gp, 0, none⟩ v12)) := ⟨hB12.setCell (p := ⟨gp, 0, none⟩) HS11.out.lg _⟩
         have HM13 : Aside0 (MidQ w2 (w12.setCell ⟨gp, 0, none⟩ v12) gr gp T s.size R p mx df (it : Int) i7 c7 a7) := ⟨mid_csp HQ.out HRX.out (HS11.out.csp hO12 hG12 hat12 HLN5.out.1) HCN.out⟩
         have hp12 : w12.heap[gp]? = some (.cells (polcells v0 v1 s5.mixed v3 s5.allow) 26 (0, 0)) := (hG12.block gp (blk_lt HS11.out.blk) (fun he => (HS11.out.dC gp he.symm).2.1 rfl)).trans HS11.out.blk
         obtain ⟨A12, c12, e12⟩ := Kd.R_slice hO12
         obtain ⟨n12, hn12⟩ : ∃ n12, n12 = (s5.csp ++ [t]).length := ⟨_, rfl⟩
         rw [← hn12] at e12
         subst e12
         have e4 : w12.cell? ⟨gp, 0, none⟩ = some v0 := blk_cell hp12 0
         have f4 := blk_frozen hp12 0
         clear hO12 hB12 hG12 hat12 hp12 hn12
         refine hK.out _ _ ?_
         clear hK K
         refine norm_ (a' := ?_) ?_ ?_
         rotate_left
         ·show Act.put _ (some 113) _ = _
          exact nRe9_
         refine pure_ (i := 6) (N := some 114) (v := ?_) (a' := ?_) #[true, true, true, true, true, true, true, false] rfl rfl (by kernel_rfl) (fun _ _ _ h => h) (Or.inl ⟨by rfl, ?_⟩) ?_ ?_
         rotate_left
         ·exact sRe9_1
         rotate_left
         ·exact nRe9_
         refine last_ (i := 7) (N := none) #[true, true, true, true, true, true, true, true] rfl rfl (by kernel_rfl) (by decide) (fun K hK => ?_)
         refine skip_ (w1 := ?_) (by rfl) rfl ?_ ?_
         rotate_left
         ·go_simp
          rfl
         refine hK.out _ _ ?_
         clear hK K
         refine done_ (by kernel_rfl) ?_

         have HIR := HI13
         have HBR := HB13
         have HMR := HM13
         exact sc_round
       ·skip
        have ts0 : (wd.toList == [99, 115, 112]) = false := (eq_word (w := wd) (a := wCsp) (by decide +kernel)).trans (decide_eq_false (by rw [hwd]; decide +kernel))
        have ts1 : (wd.toList == [115, 104, 97, 114, 101]) = true := (eq_word (w := wd) (a := wShare) (by decide +kernel)).trans (decide_eq_true hwd)
        have ts2 : (wd.toList == [109, 105, 120, 101, 100]) = false := (eq_word (w := wd) (a := wMixed) (by decide +kernel)).trans (decide_eq_false (by rw [hwd]; decide +kernel))
        have ts3 : (wd.toList == [100, 101, 102, 97, 117, 108, 116]) = false := (eq_word (w := wd) (a := wDefault) (by decide +kernel)).trans (decide_eq_false (by rw [hwd]; decide +kernel))
        have HWD := Aside0.mk hwd
        clear hwd
        by_cases hbig : 60 ≤ it
        ·exact sRe9_0
        ·have l3 : decide ((60 : Int) ≤ (it : Int)) = false := decide_eq_false (by omega)
         have HIL : Aside0 (it < 60) := ⟨by omega⟩
         have HRW : Aside0 (R = itemsK T s.size f' (itemK T s.size { st with items := st.items + 1 } wd (p + 1))) := ⟨by rw [HRK.out, item_in HTK2.out HMEM.out, if_neg (by rw [HWD.out]; decide +kernel), if_neg (by rw [HWD.out]; decide +kernel), if_neg (by have := HIT.out; omega)]⟩
         obtain ⟨s5, hs5⟩ : ∃ s5, s5 = ({ st with items := st.items + 1 } : Pst) := ⟨_, rfl⟩
         rw [← hs5] at HRW
         have HS5 : Aside0 (RS w2 w8 gr gp v0 v1 v3 s5 okS okR) := ⟨by rw [hs5]; exact HS8.out.count (by have := HIL.out; have := HIT.out; omega)⟩
         have HLN5 : Aside0 (s5.csp.length + 1 ≤ s5.items ∧ s5.shares.length + 1 ≤ s5.items ∧ s5.rules.length + 1 ≤ s5.items) := ⟨by rw [hs5]; exact ⟨Nat.succ_le_succ HS8.out.lC, Nat.succ_le_succ HS8.out.lS, Nat.succ_le_succ HS8.out.lR⟩⟩
         have HCN : Aside0 (Cnt mx df (it : Int) p (p + 1) f' T s5) := ⟨⟨by rw [hs5]; exact HMX.out, by rw [hs5]; exact HDF.out, by have := HIT.out; rw [hs5]; show ((it : Int)) + 1 = ((st.items + 1 : Nat) : Int); omega, rfl, HFF.out⟩⟩
         clear hs5 hbig HS8 HRK
         obtain ⟨A8, c8, hb8, _, _⟩ := HI8.out
         have t1 : w8.cell? ⟨gr, 1, none⟩ = some (.int .i64 (p : Int)) := cellS66_1 hb8
         have f1 := blk_frozen hb8 1
         have hjb : (p : Int) ≤ 1000000 := by have := HLN.out; have := HPT.out; omega
         clear hb8
         go_upto_region 21 with (fail)
         obtain ⟨w9, hw9⟩ : ∃ w9, w9 = w8.setCell ⟨gr, 1, none⟩ (.int .i64 ((p : Int) + 1)) := ⟨_, rfl⟩
         rw [← hw9]
         have HI9 : Aside0 (IsR w2 w9 gr T ((p + 1 : Nat) : Int) s.size 0 0) := ⟨by rw [hw9, Int.natCast_add]; exact IsS66.set_1 HI8.out _⟩
         have HB9 : Aside0 (Below w2.heap.size w2 w9) := ⟨by rw [hw9]; exact HB8.out.setCell (p := ⟨gr, 1, none⟩) (IsS66.ge HI8.out) _⟩
         have HS9 : Aside0 (RS w2 w9 gr gp v0 v1 v3 s5 okS okR) := ⟨by rw [hw9]; exact HS5.out.kept (Kept.setCell (S := fun k => k = gr) (p := ⟨gr, 1, none⟩) (Kept.refl _ _) (.inl rfl) _)⟩
         clear hw9 t1 f1 hjb HS5 HI8 HB8
         have hC := rshare_calls w2 w9.drew gr T s.size (p + 1) HI9.out (below_drew HB9.out) HLN.out
         have HRX : Aside0 (R = itemsK T s.size f' (shaK s5 (shareP T s.size (p + 1)))) := ⟨by rw [HRW.out, itemK_share (by rw [HWD.out]; decide +kernel) HWD.out]⟩
         have HC := Aside0.mk hC
         have HLB : Aside0 ((s5.shares.length + 1) * 72 ≤ 140737488355328) := ⟨by have := HLN5.out.2.1; have := HS9.out.lI; omega⟩
         have d0 : w9.drew.cell? ⟨gp, 1, none⟩ = some v1 := blk_cell HS9.out.blk 1
         have HSD : Aside0 (RS w2 w9.drew gr gp v0 v1 v3 s5 okS okR) := ⟨HS9.out.drewN 1⟩
         have HGG : Aside0 (gr < w9.drew.heap.size ∧ gp < w9.drew.heap.size) := ⟨⟨HS9.out.lr, blk_lt HS9.out.blk⟩⟩
         have HOK : Aside0 (∀ k, w9.drew.heap.size ≤ k → (okS k ∨ w9.drew.heap.size ≤ k) ∧ some k ≠ v1.ownBlock) := ⟨fun k hk => ⟨.inr hk, fun he => by have := Kd.R_lt HSD.out.rS k he.symm; omega⟩⟩
         clear hC HRW
         go_upto_region 28 with (fail)
         refine start_ (n := 8) (S := fun w' => w'.cell? ⟨gp, 1, none⟩ = some v1) (ds := [5, 7]) #[false, false, false, false, false, false, false, false] (by kernel_rfl) rfl rfl (d0) (fun hHeld => ?_)
         refine pure_ (i := 0) (N := some 117) (v := ?_) (a' := ?_) #[true, false, false, false, false, false, false, false] rfl rfl (by kernel_rfl) (fun _ _ _ h => h) (Or.inl ⟨by rfl, ?_⟩) ?_ ?_
         rotate_left
         ·exact sRe9_1
         rotate_left
         ·exact nRe9_
         refine pure_ (i := 2) (N := some 119) (v := ?_) (a' := ?_) #[true, false, true, false, false, false, false, false] rfl rfl (by kernel_rfl) (fun _ _ _ h => h) (Or.inl ⟨by rfl, ?_⟩) ?_ ?_
         rotate_left
         ·exact sRe9_1
         rotate_left
         ·exact nRe9_
         refine take_ (i := 1) (N := some 118) (v := ?_) (a' := ?_) #[true, true, true, false, false, false, false, false] rfl rfl (by kernel_rfl) (fun _ _ _ h => h) (Or.inl ⟨by rfl, ?_⟩) hHeld ?_ ?_
         rotate_left
         ·intro w' s0
          go_simp
          with_reducible rfl
         rotate_left
         ·exact nRe9_
         refine one_ (i := 3) (N := some 120) #[true, true, true, true, false, false, false, false] rfl rfl (by kernel_rfl) (by decide) (fun K hK => ?_)
         refine goes_ Tryd.func29 (by kernel_rfl) rfl #[.pointer (some ⟨gr, 0, none⟩)] (by rfl) rfl rfl (by simp only [List.map_toArray, List.map_cons, List.map_nil]; rfl) ?_
         refine HC.out.mono ?_
         rintro e w11 ⟨h7, i7, c7, a7, x1, x2, hq7, rfl, g1, g2, hi11, hb11, hk11⟩
         refine ⟨_, rfl, ?_⟩
         have HQ := Aside0.mk hq7
         have HI11 := Aside0.mk hi11
         have HB11 := Aside0.mk hb11
         have HS11 : Aside0 (RS w2 w11 gr gp v0 v1 v3 s5 okS okR) := ⟨HSD.out.keep hk11⟩
         have HZ11 : Aside0 (w9.drew.heap.size ≤ w11.heap.size) := ⟨hk11.1⟩
         have HMM : Aside0 (k47.M w11 w2.heap.size (fun k => w9.drew.heap.size ≤ k) h7 [.string h7.f0, x1, x2, .bool h7.f3]) := ⟨k47_mkM w11 w2.heap.size _ h7 g1 g2⟩
         have HFR : Aside0 (∀ k, w11.heap.size ≤ k → okS k ∨ w9.drew.heap.size ≤ k) := ⟨fun k hk => .inr (Nat.le_trans HZ11.out hk)⟩
         have HR11 : Aside0 (k47.R 47 w11 w2.heap.size (fun k => okS k ∨ w9.drew.heap.size ≤ k) v1 s5.shares) := ⟨Kd.R_mono HS11.out.rS (fun k hk => .inl hk)⟩
         clear hi11 hb11 hk11 g1 g2 hq7
         refine hK.out _ _ ((blk_cell HS11.out.blk 1)) (fun hHeld => ?_)
         clear hK K
         refine norm_ (a' := ?_) ?_ ?_
         rotate_left
         ·show Act.put _ (some 120) _ = _
          exact nRe9_
         refine one_ (i := 4) (N := some 121) #[true, true, true, true, true, false, false, false] rfl rfl (by kernel_rfl) (by decide) (fun K hK => ?_)
         refine value_ (w1 := ?_) (v := ?_) (by rfl) rfl ?_ ?_
         rotate_left 2
         ·go_simp
          constructor
          ·rfl
          ·rfl
         refine hK.out _ _ ((blk_cell (show (w11.alloc _).heap[gp]? = _ from blk_alloc HS11.out.blk _) 1)) (fun hHeld => ?_)
         clear hK K
         refine norm_ (a' := ?_) ?_ ?_
         rotate_left
         ·show Act.put _ (some 121) _ = _
          exact nRe9_
         refine last_ (i := 5) (N := some 122) #[true, true, true, true, true, true, false, false] rfl rfl (by kernel_rfl) (by decide) (fun K hK => ?_)
         refine Kd.R_append_step k47 (w0 := w2) (W := w11) w2.heap.size (by rfl) _ _ 23 47 _ 72 rfl Tryd.underlying23 info_sh rfl (by decide) (by decide) v1 s5.shares h7 [.string h7.f0, x1, x2, .bool h7.f3] (fun k => okS k ∨ w9.drew.heap.size ≤ k) (fun k => w9.drew.heap.size ≤ k) rfl rfl HMM.out HOK.out HFR.out HR11.out HB11.out HB11.out.size HLB.out ?_
         intro v12 w12 hO12 hB12 hG12 hat12
         have HI13 : Aside0 (IsR w2 (w12.setCell ⟨gp, 1, none⟩ v12) gr T i7 s.size c7 a7) := ⟨IsS66.far (IsS66.grown HI11.out hG12 (fun he => (HS11.out.bS gr (HS11.out.rS.1 gr he.symm)).2.2.1 rfl)) (p := ⟨gp, 1, none⟩) HS11.out.ng _⟩
         have HB13 : Aside0 (Below w2.heap.size w2 (w12.setCell ⟨gp, 1, none⟩ v12)) := ⟨hB12.setCell (p := ⟨gp, 1, none⟩) HS11.out.lg _⟩
         have HM13 : Aside0 (MidQ w2 (w12.setCell ⟨gp, 1, none⟩ v12) gr gp T s.size R p mx df (it : Int) i7 c7 a7) := ⟨mid_sha HQ.out HRX.out (RS.share HSD.out HS11.out HZ11.out hO12 hG12 HLN5.out.2.1 HB9.out.size HGG.out) HCN.out⟩
         have hp12 : w12.heap[gp]? = some (.cells (polcells v0 v1 s5.mixed v3 s5.allow) 26 (0, 0)) := (hG12.block gp (blk_lt HS11.out.blk) (fun he => (HS11.out.bS gp (HS11.out.rS.1 gp he.symm)).2.2.2.1 rfl)).trans HS11.out.blk
         obtain ⟨A12, c12, e12⟩ := Kd.R_slice hO12
         obtain ⟨n12, hn12⟩ : ∃ n12, n12 = (s5.shares ++ [h7]).length := ⟨_, rfl⟩
         rw [← hn12] at e12
         subst e12
         have e4 : w12.cell? ⟨gp, 1, none⟩ = some v1 := blk_cell hp12 1
         have f4 := blk_frozen hp12 1
         clear hO12 hB12 hG12 hat12 hp12 hn12
         refine hK.out _ _ ?_
         clear hK K
         refine norm_ (a' := ?_) ?_ ?_
         rotate_left
         ·show Act.put _ (some 122) _ = _
          exact nRe9_
         refine pure_ (i := 6) (N := some 123) (v := ?_) (a' := ?_) #[true, true, true, true, true, true, true, false] rfl rfl (by kernel_rfl) (fun _ _ _ h => h) (Or.inl ⟨by rfl, ?_⟩) ?_ ?_
         rotate_left
         ·exact sRe9_1
         rotate_left
         ·exact nRe9_
         refine last_ (i := 7) (N := none) #[true, true, true, true, true, true, true, true] rfl rfl (by kernel_rfl) (by decide) (fun K hK => ?_)
         refine skip_ (w1 := ?_) (by rfl) rfl ?_ ?_
         rotate_left
         ·go_simp
          rfl
         refine hK.out _ _ ?_
         clear hK K
         refine done_ (by kernel_rfl) ?_

         have HIR := HI13
         have HBR := HB13
         have HMR := HM13
         exact sc_round
       ·skip
        have ts0 : (wd.toList == [99, 115, 112]) = false := (eq_word (w := wd) (a := wCsp) (by decide +kernel)).trans (decide_eq_false (by rw [hwd]; decide +kernel))
        have ts1 : (wd.toList == [115, 104, 97, 114, 101]) = false := (eq_word (w := wd) (a := wShare) (by decide +kernel)).trans (decide_eq_false (by rw [hwd]; decide +kernel))
        have ts2 : (wd.toList == [109, 105, 120, 101, 100]) = true := (eq_word (w := wd) (a := wMixed) (by decide +kernel)).trans (decide_eq_true hwd)
        have ts3 : (wd.toList == [100, 101, 102, 97, 117, 108, 116]) = false := (eq_word (w := wd) (a := wDefault) (by decide +kernel)).trans (decide_eq_false (by rw [hwd]; decide +kernel))
        have HWD := Aside0.mk hwd
        clear hwd
        cases mx with
        | true =>
         have HM1 : Aside0 (st.metM = 1) := ⟨of_decide_eq_true HMX.out.symm⟩
         have HRE0 : Aside0 (R = .error (10, p0)) := ⟨by rw [HRK.out, item_in HTK2.out HMEM.out, if_pos HWD.out, if_pos (by have := HM1.out; omega)]; rfl⟩
         go_wp2_with fail
         refine (r_wrong (T := T) (e := s.size) p 10 HI8.out HB8.out).mono ?_
         rintro e w9 ⟨rfl, hs, hb, hk⟩
         dsimp only
         have HIX := Aside0.mk hs
         have HBX := Aside0.mk hb
         have HKX := Aside0.mk hk
         clear hs hb hk
         rw [← HTK2.out] at HIX
         have hc9 : (10 : Int) ≠ 0 := by decide
         obtain ⟨cE, hcE⟩ : ∃ cE : Int, cE = 10 := ⟨_, rfl⟩
         rw [← hcE] at HIX hc9 HRE0
         have HRE := HRE0
         clear hcE HRE0
         exact sc_bad
        | false =>
         have HM0 : Aside0 (st.metM = 0) := ⟨by have := of_decide_eq_false HMX.out.symm; have := HS8.out.lM; omega⟩
         by_cases hbig : 60 ≤ it
         ·have l3 : decide ((60 : Int) ≤ (it : Int)) = true := decide_eq_true (by omega)
          have HRE0 : Aside0 (R = .error (2, p0)) := ⟨by rw [HRK.out, item_in HTK2.out HMEM.out, if_pos HWD.out, if_neg (by have := HM0.out; omega), if_pos (by have := HIT.out; omega)]; rfl⟩
          go_wp2_with fail
          refine (r_wrong (T := T) (e := s.size) p 2 HI8.out HB8.out).mono ?_
          rintro e w9 ⟨rfl, hs, hb, hk⟩
          dsimp only
          have HIX := Aside0.mk hs
          have HBX := Aside0.mk hb
          have HKX := Aside0.mk hk
          clear hs hb hk
          rw [← HTK2.out] at HIX
          have hc9 : (2 : Int) ≠ 0 := by decide
          obtain ⟨cE, hcE⟩ : ∃ cE : Int, cE = 2 := ⟨_, rfl⟩
          rw [← hcE] at HIX hc9 HRE0
          have HRE := HRE0
          clear hcE HRE0
          exact sc_bad
         ·have l3 : decide ((60 : Int) ≤ (it : Int)) = false := decide_eq_false (by omega)
          have HIL : Aside0 (it < 60) := ⟨by omega⟩
          have HRW : Aside0 (R = itemsK T s.size f' (itemK T s.size { st with metM := st.metM + 1, items := st.items + 1 } wd (p + 1))) := ⟨by rw [HRK.out, item_in HTK2.out HMEM.out, if_pos HWD.out, if_neg (by have := HM0.out; omega), if_neg (by have := HIT.out; omega)]⟩
          obtain ⟨s5, hs5⟩ : ∃ s5, s5 = ({ st with metM := st.metM + 1, items := st.items + 1 } : Pst) := ⟨_, rfl⟩
          rw [← hs5] at HRW
          have HS5 : Aside0 (RS w2 w8 gr gp v0 v1 v3 s5 okS okR) := ⟨by rw [hs5]; exact (HS8.out.count (by have := HIL.out; have := HIT.out; omega)).metM HM0.out⟩
          have HLN5 : Aside0 (s5.csp.length + 1 ≤ s5.items ∧ s5.shares.length + 1 ≤ s5.items ∧ s5.rules.length + 1 ≤ s5.items) := ⟨by rw [hs5]; exact ⟨Nat.succ_le_succ HS8.out.lC, Nat.succ_le_succ HS8.out.lS, Nat.succ_le_succ HS8.out.lR⟩⟩
          have HCN : Aside0 (Cnt true df (it : Int) p (p + 1) f' T s5) := ⟨⟨by rw [hs5]; exact (decide_eq_true (by show st.metM + 1 = 1; have := HM0.out; omega)).symm, by rw [hs5]; exact HDF.out, by have := HIT.out; rw [hs5]; show ((it : Int)) + 1 = ((st.items + 1 : Nat) : Int); omega, rfl, HFF.out⟩⟩
          have HMN : Aside0 (s5.metM ≠ 0) := ⟨by rw [hs5]; exact Nat.succ_ne_zero _⟩
          have HMB : Aside0 (s5.mixed = wBlock) := ⟨by rw [hs5]; exact HS8.out.eM HM0.out⟩
          clear hs5 hbig HS8 HRK
          obtain ⟨A8, c8, hb8, _, _⟩ := HI8.out
          have t1 : w8.cell? ⟨gr, 1, none⟩ = some (.int .i64 (p : Int)) := cellS66_1 hb8
          have f1 := blk_frozen hb8 1
          have hjb : (p : Int) ≤ 1000000 := by have := HLN.out; have := HPT.out; omega
          clear hb8
          go_upto_region 21 with (fail)
          obtain ⟨w9, hw9⟩ : ∃ w9, w9 = w8.setCell ⟨gr, 1, none⟩ (.int .i64 ((p : Int) + 1)) := ⟨_, rfl⟩
          rw [← hw9]
          have HI9 : Aside0 (IsR w2 w9 gr T ((p + 1 : Nat) : Int) s.size 0 0) := ⟨by rw [hw9, Int.natCast_add]; exact IsS66.set_1 HI8.out _⟩
          have HB9 : Aside0 (Below w2.heap.size w2 w9) := ⟨by rw [hw9]; exact HB8.out.setCell (p := ⟨gr, 1, none⟩) (IsS66.ge HI8.out) _⟩
          have HS9 : Aside0 (RS w2 w9 gr gp v0 v1 v3 s5 okS okR) := ⟨by rw [hw9]; exact HS5.out.kept (Kept.setCell (S := fun k => k = gr) (p := ⟨gr, 1, none⟩) (Kept.refl _ _) (.inl rfl) _)⟩
          clear hw9 t1 f1 hjb HS5 HI8 HB8
          have HRX : Aside0 (R = itemsK T s.size f' (mixK s5 (wordP T s.size [wBlock, wUpgrade, wAllow] (p + 1)))) := ⟨by rw [HRW.out, itemK_mixed (by rw [HWD.out]; decide +kernel) (by rw [HWD.out]; decide +kernel) HWD.out]⟩
          cases hif : isP T s.size [wBlock] (p + 1) with
          | true =>
           have HIF := Aside0.mk hif
           clear hif
           go_wp2_with fail
           refine (r_take1 (T := T) (e := s.size) wBlock (p + 1) HLN.out HI9.out HB9.out HIF.out).mono ?_
           rintro e w10 ⟨rfl, hs, hb, hk⟩
           dsimp only
           have HI10 := Aside0.mk hs
           have HB10 := Aside0.mk hb
           have HS10 : Aside0 (RS w2 w10 gr gp v0 v1 v3 s5 okS okR) := ⟨HS9.out.keep hk⟩
           clear hs hb hk HI9 HB9 HS9
           have HM : Aside0 (MidQ w2 w10 gr gp T s.size R p true df (it : Int) ((p + 1 + 1 : Nat) : Int) 0 0) := ⟨mid_ok (st := { s5 with mixed := wBlock }) (s5 := s5) (q := p + 1) (Nat.le_succ _) rfl rfl rfl (by rw [HRX.out, wordP_yes wBlock (by decide +kernel) HIF.out]; rfl) (by rw [← HMB.out]; exact HS10.out) HCN.out⟩
           have HIR := HI10
           have HBR := HB10
           have HMR := HM
           exact sc_round
          | false =>
           have HIF := Aside0.mk hif
           have HN9 := Aside0.mk hif
           clear hif
           go_wp2_with fail
           refine (r_take0 (T := T) (e := s.size) wBlock (p + 1) HLN.out HI9.out HB9.out HIF.out).mono ?_
           rintro e w10 ⟨rfl, hs, hb, hk⟩
           dsimp only
           have HI10 := Aside0.mk hs
           have HB10 := Aside0.mk hb
           have HS10 : Aside0 (RS w2 w10 gr gp v0 v1 v3 s5 okS okR) := ⟨HS9.out.keep hk⟩
           clear hs hb hk HI9 HB9 HS9
           clear HIF
           cases hif : isP T s.size [wUpgrade] (p + 1) with
           | true =>
            have HIF := Aside0.mk hif
            clear hif
            go_wp2_with fail
            refine (r_take1 (T := T) (e := s.size) wUpgrade (p + 1) HLN.out HI10.out HB10.out HIF.out).mono ?_
            rintro e w11 ⟨rfl, hs, hb, hk⟩
            dsimp only
            have HI11 := Aside0.mk hs
            have HB11 := Aside0.mk hb
            have HS11 : Aside0 (RS w2 w11 gr gp v0 v1 v3 s5 okS okR) := ⟨HS10.out.keep hk⟩
            clear hs hb hk HI10 HB10 HS10
            have e5 : w11.cell? ⟨gp, 2, none⟩ = some (.string s5.mixed) := blk_cell HS11.out.blk 2
            have f5 := blk_frozen HS11.out.blk 2
            have HI13 : Aside0 (IsR w2 (w11.setCell ⟨gp, 2, none⟩ (.string wUpgrade)) gr T ((p + 1 + 1 : Nat) : Int) s.size 0 0) := ⟨IsS66.far HI11.out (p := ⟨gp, 2, none⟩) HS11.out.ng _⟩
            have HB13 : Aside0 (Below w2.heap.size w2 (w11.setCell ⟨gp, 2, none⟩ (.string wUpgrade))) := ⟨HB11.out.setCell (p := ⟨gp, 2, none⟩) HS11.out.lg _⟩
            have HM13 : Aside0 (MidQ w2 (w11.setCell ⟨gp, 2, none⟩ (.string wUpgrade)) gr gp T s.size R p true df (it : Int) ((p + 1 + 1 : Nat) : Int) 0 0) := ⟨mid_ok (st := { s5 with mixed := wUpgrade }) (s5 := s5) (q := p + 1) (Nat.le_succ _) rfl rfl rfl (by rw [HRX.out, wordP_yes wUpgrade (by decide +kernel) HIF.out]; rfl) (HS11.out.setMixed wUpgrade HMN.out) HCN.out⟩
            have HIR := HI13
            have HBR := HB13
            have HMR := HM13
            exact sc_round
           | false =>
            have HIF := Aside0.mk hif
            have HN10 := Aside0.mk hif
            clear hif
            go_wp2_with fail
            refine (r_take0 (T := T) (e := s.size) wUpgrade (p + 1) HLN.out HI10.out HB10.out HIF.out).mono ?_
            rintro e w11 ⟨rfl, hs, hb, hk⟩
            dsimp only
            have HI11 := Aside0.mk hs
            have HB11 := Aside0.mk hb
            have HS11 : Aside0 (RS w2 w11 gr gp v0 v1 v3 s5 okS okR) := ⟨HS10.out.keep hk⟩
            clear hs hb hk HI10 HB10 HS10
            clear HIF
            cases hif : isP T s.size [wAllow] (p + 1) with
            | true =>
             have HIF := Aside0.mk hif
             clear hif
             go_wp2_with fail
             refine (r_take1 (T := T) (e := s.size) wAllow (p + 1) HLN.out HI11.out HB11.out HIF.out).mono ?_
             rintro e w12 ⟨rfl, hs, hb, hk⟩
             dsimp only
             have HI12 := Aside0.mk hs
             have HB12 := Aside0.mk hb
             have HS12 : Aside0 (RS w2 w12 gr gp v0 v1 v3 s5 okS okR) := ⟨HS11.out.keep hk⟩
             clear hs hb hk HI11 HB11 HS11
             have e5 : w12.cell? ⟨gp, 2, none⟩ = some (.string s5.mixed) := blk_cell HS12.out.blk 2
             have f5 := blk_frozen HS12.out.blk 2
             have HI13 : Aside0 (IsR w2 (w12.setCell ⟨gp, 2, none⟩ (.string wAllow)) gr T ((p + 1 + 1 : Nat) : Int) s.size 0 0) := ⟨IsS66.far HI12.out (p := ⟨gp, 2, none⟩) HS12.out.ng _⟩
             have HB13 : Aside0 (Below w2.heap.size w2 (w12.setCell ⟨gp, 2, none⟩ (.string wAllow))) := ⟨HB12.out.setCell (p := ⟨gp, 2, none⟩) HS12.out.lg _⟩
             have HM13 : Aside0 (MidQ w2 (w12.setCell ⟨gp, 2, none⟩ (.string wAllow)) gr gp T s.size R p true df (it : Int) ((p + 1 + 1 : Nat) : Int) 0 0) := ⟨mid_ok (st := { s5 with mixed := wAllow }) (s5 := s5) (q := p + 1) (Nat.le_succ _) rfl rfl rfl (by rw [HRX.out, wordP_yes wAllow (by decide +kernel) HIF.out]; rfl) (HS12.out.setMixed wAllow HMN.out) HCN.out⟩
             have HIR := HI13
             have HBR := HB13
             have HMR := HM13
             exact sc_round
            | false =>
             have HIF := Aside0.mk hif
             have HN11 := Aside0.mk hif
             clear hif
             go_wp2_with fail
             refine (r_take0 (T := T) (e := s.size) wAllow (p + 1) HLN.out HI11.out HB11.out HIF.out).mono ?_
             rintro e w12 ⟨rfl, hs, hb, hk⟩
             dsimp only
             have HI12 := Aside0.mk hs
             have HB12 := Aside0.mk hb
             have HS12 : Aside0 (RS w2 w12 gr gp v0 v1 v3 s5 okS okR) := ⟨HS11.out.keep hk⟩
             clear hs hb hk HI11 HB11 HS11
             clear HIF
             go_wp2_with fail
             refine (r_wrong (T := T) (e := s.size) (p + 1) 8 HI12.out HB12.out).mono ?_
             rintro e w13 ⟨rfl, hs, hb, hk⟩
             dsimp only
             have HIX := Aside0.mk hs
             have HBX := Aside0.mk hb
             have HKX := Aside0.mk hk
             clear hs hb hk
             have HNO : isP T s.size [wBlock, wUpgrade, wAllow] (p + 1) = false := by rw [isP_cons, isP_cons wUpgrade, HN9.out, HN10.out, HN11.out]; rfl
             have HM13 : Aside0 (MidQ w2 w13 gr gp T s.size R p true df (it : Int) ((p + 1 : Nat) : Int) 8 (nxt T s.size (p + 1)).f1) := ⟨mid_err (by decide) (by omega) (by rw [HRX.out, wordP_no HNO]; rfl)⟩
             clear HNO
             have HIR := HIX
             have HBR := HBX
             have HMR := HM13
             exact sc_round
       ·skip
        have ts0 : (wd.toList == [99, 115, 112]) = false := (eq_word (w := wd) (a := wCsp) (by decide +kernel)).trans (decide_eq_false (by rw [hwd]; decide +kernel))
        have ts1 : (wd.toList == [115, 104, 97, 114, 101]) = false := (eq_word (w := wd) (a := wShare) (by decide +kernel)).trans (decide_eq_false (by rw [hwd]; decide +kernel))
        have ts2 : (wd.toList == [109, 105, 120, 101, 100]) = false := (eq_word (w := wd) (a := wMixed) (by decide +kernel)).trans (decide_eq_false (by rw [hwd]; decide +kernel))
        have ts3 : (wd.toList == [100, 101, 102, 97, 117, 108, 116]) = true := (eq_word (w := wd) (a := wDefault) (by decide +kernel)).trans (decide_eq_true hwd)
        have HWD := Aside0.mk hwd
        clear hwd
        cases df with
        | true =>
         have HM1 : Aside0 (st.metD = 1) := ⟨of_decide_eq_true HDF.out.symm⟩
         have HRE0 : Aside0 (R = .error (10, p0)) := ⟨by rw [HRK.out, item_in HTK2.out HMEM.out, if_neg (by rw [HWD.out]; decide +kernel), if_pos HWD.out, if_pos (by have := HM1.out; omega)]; rfl⟩
         go_wp2_with fail
         refine (r_wrong (T := T) (e := s.size) p 10 HI8.out HB8.out).mono ?_
         rintro e w9 ⟨rfl, hs, hb, hk⟩
         dsimp only
         have HIX := Aside0.mk hs
         have HBX := Aside0.mk hb
         have HKX := Aside0.mk hk
         clear hs hb hk
         rw [← HTK2.out] at HIX
         have hc9 : (10 : Int) ≠ 0 := by decide
         obtain ⟨cE, hcE⟩ : ∃ cE : Int, cE = 10 := ⟨_, rfl⟩
         rw [← hcE] at HIX hc9 HRE0
         have HRE := HRE0
         clear hcE HRE0
         exact sc_bad
        | false =>
         have HM0 : Aside0 (st.metD = 0) := ⟨by have := of_decide_eq_false HDF.out.symm; have := HS8.out.lD; omega⟩
         by_cases hbig : 60 ≤ it
         ·have l3 : decide ((60 : Int) ≤ (it : Int)) = true := decide_eq_true (by omega)
          have HRE0 : Aside0 (R = .error (2, p0)) := ⟨by rw [HRK.out, item_in HTK2.out HMEM.out, if_neg (by rw [HWD.out]; decide +kernel), if_pos HWD.out, if_neg (by have := HM0.out; omega), if_pos (by have := HIT.out; omega)]; rfl⟩
          go_wp2_with fail
          refine (r_wrong (T := T) (e := s.size) p 2 HI8.out HB8.out).mono ?_
          rintro e w9 ⟨rfl, hs, hb, hk⟩
          dsimp only
          have HIX := Aside0.mk hs
          have HBX := Aside0.mk hb
          have HKX := Aside0.mk hk
          clear hs hb hk
          rw [← HTK2.out] at HIX
          have hc9 : (2 : Int) ≠ 0 := by decide
          obtain ⟨cE, hcE⟩ : ∃ cE : Int, cE = 2 := ⟨_, rfl⟩
          rw [← hcE] at HIX hc9 HRE0
          have HRE := HRE0
          clear hcE HRE0
          exact sc_bad
         ·have l3 : decide ((60 : Int) ≤ (it : Int)) = false := decide_eq_false (by omega)
          have HIL : Aside0 (it < 60) := ⟨by omega⟩
          have HRW : Aside0 (R = itemsK T s.size f' (itemK T s.size { st with metD := st.metD + 1, items := st.items + 1 } wd (p + 1))) := ⟨by rw [HRK.out, item_in HTK2.out HMEM.out, if_neg (by rw [HWD.out]; decide +kernel), if_pos HWD.out, if_neg (by have := HM0.out; omega), if_neg (by have := HIT.out; omega)]⟩
          obtain ⟨s5, hs5⟩ : ∃ s5, s5 = ({ st with metD := st.metD + 1, items := st.items + 1 } : Pst) := ⟨_, rfl⟩
          rw [← hs5] at HRW
          have HS5 : Aside0 (RS w2 w8 gr gp v0 v1 v3 s5 okS okR) := ⟨by rw [hs5]; exact (HS8.out.count (by have := HIL.out; have := HIT.out; omega)).metD HM0.out⟩
          have HLN5 : Aside0 (s5.csp.length + 1 ≤ s5.items ∧ s5.shares.length + 1 ≤ s5.items ∧ s5.rules.length + 1 ≤ s5.items) := ⟨by rw [hs5]; exact ⟨Nat.succ_le_succ HS8.out.lC, Nat.succ_le_succ HS8.out.lS, Nat.succ_le_succ HS8.out.lR⟩⟩
          have HCN : Aside0 (Cnt mx true (it : Int) p (p + 1) f' T s5) := ⟨⟨by rw [hs5]; exact HMX.out, by rw [hs5]; exact (decide_eq_true (by show st.metD + 1 = 1; have := HM0.out; omega)).symm, by have := HIT.out; rw [hs5]; show ((it : Int)) + 1 = ((st.items + 1 : Nat) : Int); omega, rfl, HFF.out⟩⟩
          have HMN : Aside0 (s5.metD ≠ 0) := ⟨by rw [hs5]; exact Nat.succ_ne_zero _⟩
          have HMB : Aside0 (s5.allow = false) := ⟨by rw [hs5]; exact HS8.out.eD HM0.out⟩
          clear hs5 hbig HS8 HRK
          obtain ⟨A8, c8, hb8, _, _⟩ := HI8.out
          have t1 : w8.cell? ⟨gr, 1, none⟩ = some (.int .i64 (p : Int)) := cellS66_1 hb8
          have f1 := blk_frozen hb8 1
          have hjb : (p : Int) ≤ 1000000 := by have := HLN.out; have := HPT.out; omega
          clear hb8
          go_upto_region 21 with (fail)
          obtain ⟨w9, hw9⟩ : ∃ w9, w9 = w8.setCell ⟨gr, 1, none⟩ (.int .i64 ((p : Int) + 1)) := ⟨_, rfl⟩
          rw [← hw9]
          have HI9 : Aside0 (IsR w2 w9 gr T ((p + 1 : Nat) : Int) s.size 0 0) := ⟨by rw [hw9, Int.natCast_add]; exact IsS66.set_1 HI8.out _⟩
          have HB9 : Aside0 (Below w2.heap.size w2 w9) := ⟨by rw [hw9]; exact HB8.out.setCell (p := ⟨gr, 1, none⟩) (IsS66.ge HI8.out) _⟩
          have HS9 : Aside0 (RS w2 w9 gr gp v0 v1 v3 s5 okS okR) := ⟨by rw [hw9]; exact HS5.out.kept (Kept.setCell (S := fun k => k = gr) (p := ⟨gr, 1, none⟩) (Kept.refl _ _) (.inl rfl) _)⟩
          clear hw9 t1 f1 hjb HS5 HI8 HB8
          have HRX : Aside0 (R = itemsK T s.size f' (defK s5 (wordP T s.size [wAllow, wDeny] (p + 1)))) := ⟨by rw [HRW.out, itemK_default (by rw [HWD.out]; decide +kernel) (by rw [HWD.out]; decide +kernel) (by rw [HWD.out]; decide +kernel) HWD.out]⟩
          cases hif : isP T s.size [wAllow] (p + 1) with
          | true =>
           have HIF := Aside0.mk hif
           clear hif
           go_wp2_with fail
           refine (r_take1 (T := T) (e := s.size) wAllow (p + 1) HLN.out HI9.out HB9.out HIF.out).mono ?_
           rintro e w10 ⟨rfl, hs, hb, hk⟩
           dsimp only
           have HI10 := Aside0.mk hs
           have HB10 := Aside0.mk hb
           have HS10 : Aside0 (RS w2 w10 gr gp v0 v1 v3 s5 okS okR) := ⟨HS9.out.keep hk⟩
           clear hs hb hk HI9 HB9 HS9
           have e5 : w10.cell? ⟨gp, 4, none⟩ = some (.bool s5.allow) := blk_cell HS10.out.blk 4
           have f5 := blk_frozen HS10.out.blk 4
           have HI13 : Aside0 (IsR w2 (w10.setCell ⟨gp, 4, none⟩ (.bool true)) gr T ((p + 1 + 1 : Nat) : Int) s.size 0 0) := ⟨IsS66.far HI10.out (p := ⟨gp, 4, none⟩) HS10.out.ng _⟩
           have HB13 : Aside0 (Below w2.heap.size w2 (w10.setCell ⟨gp, 4, none⟩ (.bool true))) := ⟨HB10.out.setCell (p := ⟨gp, 4, none⟩) HS10.out.lg _⟩
           have HM13 : Aside0 (MidQ w2 (w10.setCell ⟨gp, 4, none⟩ (.bool true)) gr gp T s.size R p mx true (it : Int) ((p + 1 + 1 : Nat) : Int) 0 0) := ⟨mid_ok (st := { s5 with allow := true }) (s5 := s5) (q := p + 1) (Nat.le_succ _) rfl rfl rfl (by rw [HRX.out, wordP_yes wAllow (by decide +kernel) HIF.out]; rfl) (HS10.out.setAllow true HMN.out) HCN.out⟩
           have HIR := HI13
           have HBR := HB13
           have HMR := HM13
           exact sc_round
          | false =>
           have HIF := Aside0.mk hif
           have HN9 := Aside0.mk hif
           clear hif
           go_wp2_with fail
           refine (r_take0 (T := T) (e := s.size) wAllow (p + 1) HLN.out HI9.out HB9.out HIF.out).mono ?_
           rintro e w10 ⟨rfl, hs, hb, hk⟩
           dsimp only
           have HI10 := Aside0.mk hs
           have HB10 := Aside0.mk hb
           have HS10 : Aside0 (RS w2 w10 gr gp v0 v1 v3 s5 okS okR) := ⟨HS9.out.keep hk⟩
           clear hs hb hk HI9 HB9 HS9
           clear HIF
           cases hif : isP T s.size [wDeny] (p + 1) with
           | true =>
            have HIF := Aside0.mk hif
            clear hif
            go_wp2_with fail
            refine (r_take1 (T := T) (e := s.size) wDeny (p + 1) HLN.out HI10.out HB10.out HIF.out).mono ?_
            rintro e w11 ⟨rfl, hs, hb, hk⟩
            dsimp only
            have HI11 := Aside0.mk hs
            have HB11 := Aside0.mk hb
            have HS11 : Aside0 (RS w2 w11 gr gp v0 v1 v3 s5 okS okR) := ⟨HS10.out.keep hk⟩
            clear hs hb hk HI10 HB10 HS10
            have HM : Aside0 (MidQ w2 w11 gr gp T s.size R p mx true (it : Int) ((p + 1 + 1 : Nat) : Int) 0 0) := ⟨mid_ok (st := { s5 with allow := false }) (s5 := s5) (q := p + 1) (Nat.le_succ _) rfl rfl rfl (by rw [HRX.out, wordP_yes wDeny (by decide +kernel) HIF.out]; rfl) (by rw [← HMB.out]; exact HS11.out) HCN.out⟩
            have HIR := HI11
            have HBR := HB11
            have HMR := HM
            exact sc_round
           | false =>
            have HIF := Aside0.mk hif
            have HN10 := Aside0.mk hif
            clear hif
            go_wp2_with fail
            refine (r_take0 (T := T) (e := s.size) wDeny (p + 1) HLN.out HI10.out HB10.out HIF.out).mono ?_
            rintro e w11 ⟨rfl, hs, hb, hk⟩
            dsimp only
            have HI11 := Aside0.mk hs
            have HB11 := Aside0.mk hb
            have HS11 : Aside0 (RS w2 w11 gr gp v0 v1 v3 s5 okS okR) := ⟨HS10.out.keep hk⟩
            clear hs hb hk HI10 HB10 HS10
            clear HIF
            go_wp2_with fail
            refine (r_wrong (T := T) (e := s.size) (p + 1) 8 HI11.out HB11.out).mono ?_
            rintro e w13 ⟨rfl, hs, hb, hk⟩
            dsimp only
            have HIX := Aside0.mk hs
            have HBX := Aside0.mk hb
            have HKX := Aside0.mk hk
            clear hs hb hk
            have HNO : isP T s.size [wAllow, wDeny] (p + 1) = false := by rw [isP_cons, HN9.out, HN10.out]; rfl
            have HM13 : Aside0 (MidQ w2 w13 gr gp T s.size R p mx true (it : Int) ((p + 1 : Nat) : Int) 8 (nxt T s.size (p + 1)).f1) := ⟨mid_err (by decide) (by omega) (by rw [HRX.out, wordP_no HNO]; rfl)⟩
            clear HNO
            have HIR := HIX
            have HBR := HBX
            have HMR := HM13
            exact sc_round
       ·replace hwd : ¬ wd = wCsp ∧ ¬ wd = wShare ∧ ¬ wd = wMixed ∧ ¬ wd = wDefault := by rcases hwd with rfl | rfl <;> decide +kernel
        have ts0 : (wd.toList == [99, 115, 112]) = false := (eq_word (w := wd) (a := wCsp) (by decide +kernel)).trans (decide_eq_false hwd.1)
        have ts1 : (wd.toList == [115, 104, 97, 114, 101]) = false := (eq_word (w := wd) (a := wShare) (by decide +kernel)).trans (decide_eq_false hwd.2.1)
        have ts2 : (wd.toList == [109, 105, 120, 101, 100]) = false := (eq_word (w := wd) (a := wMixed) (by decide +kernel)).trans (decide_eq_false hwd.2.2.1)
        have ts3 : (wd.toList == [100, 101, 102, 97, 117, 108, 116]) = false := (eq_word (w := wd) (a := wDefault) (by decide +kernel)).trans (decide_eq_false hwd.2.2.2)
        have HWD := Aside0.mk hwd
        clear hwd
        by_cases hbig : 60 ≤ it
        ·have l3 : decide ((60 : Int) ≤ (it : Int)) = true := decide_eq_true (by omega)
         have HRE0 : Aside0 (R = .error (2, p0)) := ⟨by rw [HRK.out, item_in HTK2.out HMEM.out, if_neg HWD.out.2.2.1, if_neg HWD.out.2.2.2, if_pos (by have := HIT.out; omega)]; rfl⟩
         go_wp2_with fail
         refine (r_wrong (T := T) (e := s.size) p 2 HI8.out HB8.out).mono ?_
         rintro e w9 ⟨rfl, hs, hb, hk⟩
         dsimp only
         have HIX := Aside0.mk hs
         have HBX := Aside0.mk hb
         have HKX := Aside0.mk hk
         clear hs hb hk
         rw [← HTK2.out] at HIX
         have hc9 : (2 : Int) ≠ 0 := by decide
         obtain ⟨cE, hcE⟩ : ∃ cE : Int, cE = 2 := ⟨_, rfl⟩
         rw [← hcE] at HIX hc9 HRE0
         have HRE := HRE0
         clear hcE HRE0
         exact sc_bad
        ·have l3 : decide ((60 : Int) ≤ (it : Int)) = false := decide_eq_false (by omega)
         have HIL : Aside0 (it < 60) := ⟨by omega⟩
         have HRW : Aside0 (R = itemsK T s.size f' (itemK T s.size { st with items := st.items + 1 } wd (p + 1))) := ⟨by rw [HRK.out, item_in HTK2.out HMEM.out, if_neg HWD.out.2.2.1, if_neg HWD.out.2.2.2, if_neg (by have := HIT.out; omega)]⟩
         obtain ⟨s5, hs5⟩ : ∃ s5, s5 = ({ st with items := st.items + 1 } : Pst) := ⟨_, rfl⟩
         rw [← hs5] at HRW
         have HS5 : Aside0 (RS w2 w8 gr gp v0 v1 v3 s5 okS okR) := ⟨by rw [hs5]; exact HS8.out.count (by have := HIL.out; have := HIT.out; omega)⟩
         have HLN5 : Aside0 (s5.csp.length + 1 ≤ s5.items ∧ s5.shares.length + 1 ≤ s5.items ∧ s5.rules.length + 1 ≤ s5.items) := ⟨by rw [hs5]; exact ⟨Nat.succ_le_succ HS8.out.lC, Nat.succ_le_succ HS8.out.lS, Nat.succ_le_succ HS8.out.lR⟩⟩
         have HCN : Aside0 (Cnt mx df (it : Int) p (p + 1) f' T s5) := ⟨⟨by rw [hs5]; exact HMX.out, by rw [hs5]; exact HDF.out, by have := HIT.out; rw [hs5]; show ((it : Int)) + 1 = ((st.items + 1 : Nat) : Int); omega, rfl, HFF.out⟩⟩
         clear hs5 hbig HS8 HRK
         obtain ⟨A8, c8, hb8, _, _⟩ := HI8.out
         have t1 : w8.cell? ⟨gr, 1, none⟩ = some (.int .i64 (p : Int)) := cellS66_1 hb8
         have f1 := blk_frozen hb8 1
         have hjb : (p : Int) ≤ 1000000 := by have := HLN.out; have := HPT.out; omega
         clear hb8
         go_upto_region 21 with (fail)
         obtain ⟨w9, hw9⟩ : ∃ w9, w9 = w8.setCell ⟨gr, 1, none⟩ (.int .i64 ((p : Int) + 1)) := ⟨_, rfl⟩
         rw [← hw9]
         have HI9 : Aside0 (IsR w2 w9 gr T ((p + 1 : Nat) : Int) s.size 0 0) := ⟨by rw [hw9, Int.natCast_add]; exact IsS66.set_1 HI8.out _⟩
         have HB9 : Aside0 (Below w2.heap.size w2 w9) := ⟨by rw [hw9]; exact HB8.out.setCell (p := ⟨gr, 1, none⟩) (IsS66.ge HI8.out) _⟩
         have HS9 : Aside0 (RS w2 w9 gr gp v0 v1 v3 s5 okS okR) := ⟨by rw [hw9]; exact HS5.out.kept (Kept.setCell (S := fun k => k = gr) (p := ⟨gr, 1, none⟩) (Kept.refl _ _) (.inl rfl) _)⟩
         clear hw9 t1 f1 hjb HS5 HI8 HB8
         have HRX : Aside0 (R = itemsK T s.size f' (ifK T s.size s5 wd (wordP T s.size [wIf] (p + 1)))) := ⟨by rw [HRW.out, itemK_rule HWD.out.1 HWD.out.2.1 HWD.out.2.2.1 HWD.out.2.2.2]⟩
         cases hif : isP T s.size [wIf] (p + 1) with
         | false =>
          have HIF := Aside0.mk hif
          clear hif
          go_wp2_with fail
          refine (r_take0 (T := T) (e := s.size) wIf (p + 1) HLN.out HI9.out HB9.out HIF.out).mono ?_
          rintro e w10 ⟨rfl, hs, hb, hk⟩
          dsimp only
          have HI10 := Aside0.mk hs
          have HB10 := Aside0.mk hb
          have HS10 : Aside0 (RS w2 w10 gr gp v0 v1 v3 s5 okS okR) := ⟨HS9.out.keep hk⟩
          clear hs hb hk HI9 HB9 HS9
          go_wp2_with fail
          refine (r_wrong (T := T) (e := s.size) (p + 1) 8 HI10.out HB10.out).mono ?_
          rintro e w11 ⟨rfl, hs, hb, hk⟩
          dsimp only
          have HIX := Aside0.mk hs
          have HBX := Aside0.mk hb
          have HKX := Aside0.mk hk
          clear hs hb hk
          have HM11 : Aside0 (MidQ w2 w11 gr gp T s.size R p mx df (it : Int) ((p + 1 : Nat) : Int) 8 (nxt T s.size (p + 1)).f1) := ⟨mid_err (by decide) (by omega) (by rw [HRX.out, wordP_no HIF.out]; rfl)⟩
          have HIR := HIX
          have HBR := HBX
          have HMR := HM11
          exact sc_round
         | true =>
          have HIF := Aside0.mk hif
          clear hif
          go_wp2_with fail
          refine (r_take1 (T := T) (e := s.size) wIf (p + 1) HLN.out HI9.out HB9.out HIF.out).mono ?_
          rintro e w10 ⟨rfl, hs, hb, hk⟩
          dsimp only
          have HI10 := Aside0.mk hs
          have HB10 := Aside0.mk hb
          have HS10 : Aside0 (RS w2 w10 gr gp v0 v1 v3 s5 okS okR) := ⟨HS9.out.keep hk⟩
          clear hs hb hk HI9 HB9 HS9
          have hC := rcond_calls w2 w10.drew gr T s.size HLN.out HSZ.out (p + 1 + 1) HI10.out (below_drew HB10.out)
          have HRY : Aside0 (R = itemsK T s.size f' (ruleK s5 wd (condP T s.size (p + 1 + 1)))) := ⟨by rw [HRX.out, wordP_yes wIf (by decide +kernel) HIF.out]; rfl⟩
          have HC := Aside0.mk hC
          have HLB : Aside0 ((s5.rules.length + 1) * 72 ≤ 140737488355328) := ⟨by have := HLN5.out.2.2; have := HS10.out.lI; omega⟩
          have d0 : w10.drew.cell? ⟨gp, 3, none⟩ = some v3 := blk_cell HS10.out.blk 3
          have HSD : Aside0 (RS w2 w10.drew gr gp v0 v1 v3 s5 okS okR) := ⟨HS10.out.drewN 1⟩
          have HGG : Aside0 (gr < w10.drew.heap.size ∧ gp < w10.drew.heap.size) := ⟨⟨HS10.out.lr, blk_lt HS10.out.blk⟩⟩
          have HOK : Aside0 (∀ k, w10.drew.heap.size ≤ k → (okR k ∨ w10.drew.heap.size ≤ k) ∧ some k ≠ v3.ownBlock) := ⟨fun k hk => ⟨.inr hk, fun he => by have := Kd.N_lt HSD.out.rR k he.symm; omega⟩⟩
          obtain ⟨y, hy⟩ : ∃ y, y = decide (wd = wAllow) := ⟨_, rfl⟩
          have tA : (wd.toList == [97, 108, 108, 111, 119]) = y := (eq_word (w := wd) (a := wAllow) (by decide +kernel)).trans hy.symm
          have HY := Aside0.mk hy
          clear hC HRW hy
          go_upto_region 24 with (fail)
          refine start_ (n := 11) (S := fun w' => w'.cell? ⟨gp, 3, none⟩ = some v3) (ds := [8, 10]) #[false, false, false, false, false, false, false, false, false, false, false] (by kernel_rfl) rfl rfl (d0) (fun hHeld => ?_)
          refine pure_ (i := 0) (N := some 96) (v := ?_) (a' := ?_) #[true, false, false, false, false, false, false, false, false, false, false] rfl rfl (by kernel_rfl) (fun _ _ _ h => h) (Or.inl ⟨by rfl, ?_⟩) ?_ ?_
          rotate_left
          ·exact sRe9_1
          rotate_left
          ·exact nRe9_
          refine pure_ (i := 2) (N := some 98) (v := ?_) (a' := ?_) #[true, false, true, false, false, false, false, false, false, false, false] rfl rfl (by kernel_rfl) (fun _ _ _ h => h) (Or.inl ⟨by rfl, ?_⟩) ?_ ?_
          rotate_left
          ·exact sRe9_1
          rotate_left
          ·exact nRe9_
          refine pure_ (i := 3) (N := some 99) (v := ?_) (a' := ?_) #[true, false, true, true, false, false, false, false, false, false, false] rfl rfl (by kernel_rfl) (fun _ _ _ h => h) (Or.inl ⟨by rfl, ?_⟩) ?_ ?_
          rotate_left
          ·exact sRe9_1
          rotate_left
          ·exact nRe9_
          refine pure_ (i := 4) (N := some 100) (v := ?_) (a' := ?_) #[true, false, true, true, true, false, false, false, false, false, false] rfl rfl (by kernel_rfl) (fun _ _ _ h => h) (Or.inl ⟨by rfl, ?_⟩) ?_ ?_
          rotate_left
          ·exact sRe9_1
          rotate_left
          ·exact nRe9_
          refine take_ (i := 1) (N := some 97) (v := ?_) (a' := ?_) #[true, true, true, true, true, false, false, false, false, false, false] rfl rfl (by kernel_rfl) (fun _ _ _ h => h) (Or.inl ⟨by rfl, ?_⟩) hHeld ?_ ?_
          rotate_left
          ·intro w' s0
           go_simp
           with_reducible rfl
          rotate_left
          ·exact nRe9_
          refine one_ (i := 5) (N := some 101) #[true, true, true, true, true, true, false, false, false, false, false] rfl rfl (by kernel_rfl) (by decide) (fun K hK => ?_)
          refine goes_ Tryd.func31 (by kernel_rfl) rfl #[.pointer (some ⟨gr, 0, none⟩), .int .i64 0] (by rfl) rfl rfl (by simp only [List.map_toArray, List.map_cons, List.map_nil]; rfl) ?_
          refine HC.out.mono ?_
          rintro e w11 ⟨h7, i7, c7, a7, x3, hq7, rfl, g3, hi11, hb11, hk11⟩
          refine ⟨_, rfl, ?_⟩
          unfold cdcells
          have HQ := Aside0.mk hq7
          have HI11 := Aside0.mk hi11
          have HB11 := Aside0.mk hb11
          have HS11 : Aside0 (RS w2 w11 gr gp v0 v1 v3 s5 okS okR) := ⟨HSD.out.keep hk11⟩
          have HZ11 : Aside0 (w10.drew.heap.size ≤ w11.heap.size) := ⟨hk11.1⟩
          have HMM : Aside0 (Kd.FK k41 w11 (fun k => w10.drew.heap.size ≤ k) ⟨y, h7⟩ [.bool y, .int .i64 h7.f0, .string h7.f1.f0, .string h7.f1.f1, x3]) := ⟨rl_mkF w11 _ ⟨y, h7⟩ (Kd.V_lower g3 (Nat.zero_le _))⟩
          have HFR : Aside0 (∀ k, w11.heap.size ≤ k → okR k ∨ w10.drew.heap.size ≤ k) := ⟨fun k hk => .inr (Nat.le_trans HZ11.out hk)⟩
          have HR11 : Aside0 (k41.N 41 w11 w2.heap.size (fun k => okR k ∨ w10.drew.heap.size ≤ k) v3 s5.rules) := ⟨Kd.N_mono HS11.out.rR (fun k hk => .inl hk)⟩
          clear hi11 hb11 hk11 g3 hq7
          refine hK.out _ _ ((blk_cell HS11.out.blk 3)) (fun hHeld => ?_)
          clear hK K
          refine norm_ (a' := ?_) ?_ ?_
          rotate_left
          ·show Act.put _ (some 101) _ = _
           exact nRe9_
          refine pure_ (i := 6) (N := some 102) (v := ?_) (a' := ?_) #[true, true, true, true, true, true, true, false, false, false, false] rfl rfl (by kernel_rfl) (fun _ _ _ h => h) (Or.inl ⟨by rfl, ?_⟩) ?_ ?_
          rotate_left
          ·exact sRe9_1
          rotate_left
          ·exact nRe9_
          refine one_ (i := 7) (N := some 103) #[true, true, true, true, true, true, true, true, false, false, false] rfl rfl (by kernel_rfl) (by decide) (fun K hK => ?_)
          refine value_ (w1 := ?_) (v := ?_) (by rfl) rfl ?_ ?_
          rotate_left 2
          ·go_simp
           constructor
           ·rfl
           ·rfl
          refine hK.out _ _ ((blk_cell (show (w11.alloc _).heap[gp]? = _ from blk_alloc HS11.out.blk _) 3)) (fun hHeld => ?_)
          clear hK K
          refine norm_ (a' := ?_) ?_ ?_
          rotate_left
          ·show Act.put _ (some 103) _ = _
           exact nRe9_
          refine last_ (i := 8) (N := some 104) #[true, true, true, true, true, true, true, true, true, false, false] rfl rfl (by kernel_rfl) (by decide) (fun K hK => ?_)
          refine Kd.N_append_step k41 (w0 := w2) (W := w11) w2.heap.size (by rfl) _ _ 24 41 _ 72 rfl Tryd.underlying24 info_rule rfl (by decide) (by decide) v3 s5.rules ⟨y, h7⟩ [.bool y, .int .i64 h7.f0, .string h7.f1.f0, .string h7.f1.f1, x3] (fun k => okR k ∨ w10.drew.heap.size ≤ k) (fun k => w10.drew.heap.size ≤ k) rfl rfl HMM.out HOK.out HFR.out HR11.out HB11.out HB11.out.size HLB.out ?_
          intro v12 w12 hO12 hB12 hG12 hat12
          have HI13 : Aside0 (IsR w2 (w12.setCell ⟨gp, 3, none⟩ v12) gr T i7 s.size c7 a7) := ⟨IsS66.far (IsS66.grown HI11.out hG12 (fun he => (HS11.out.bR gr (HS11.out.rR.1 gr he.symm)).2.2.1 rfl)) (p := ⟨gp, 3, none⟩) HS11.out.ng _⟩
          have HB13 : Aside0 (Below w2.heap.size w2 (w12.setCell ⟨gp, 3, none⟩ v12)) := ⟨hB12.setCell (p := ⟨gp, 3, none⟩) HS11.out.lg _⟩
          have HM13 : Aside0 (MidQ w2 (w12.setCell ⟨gp, 3, none⟩ v12) gr gp T s.size R p mx df (it : Int) i7 c7 a7) := ⟨mid_rul HQ.out (Nat.le_succ _) HRY.out (by rw [← HY.out]; exact RS.rule HSD.out HS11.out HZ11.out hO12 hG12 HLN5.out.2.2 HB10.out.size HGG.out) HCN.out⟩
          have hp12 : w12.heap[gp]? = some (.cells (polcells v0 v1 s5.mixed v3 s5.allow) 26 (0, 0)) := (hG12.block gp (blk_lt HS11.out.blk) (fun he => (HS11.out.bR gp (HS11.out.rR.1 gp he.symm)).2.2.2 rfl)).trans HS11.out.blk
          obtain ⟨A12, c12, e12⟩ := Kd.N_slice hO12
          obtain ⟨n12, hn12⟩ : ∃ n12, n12 = (s5.rules ++ [(⟨y, h7⟩ : Rl)]).length := ⟨_, rfl⟩
          rw [← hn12] at e12
          subst e12
          have e4 : w12.cell? ⟨gp, 3, none⟩ = some v3 := blk_cell hp12 3
          have f4 := blk_frozen hp12 3
          clear hO12 hB12 hG12 hat12 hp12 hn12
          refine hK.out _ _ ?_
          clear hK K
          refine norm_ (a' := ?_) ?_ ?_
          rotate_left
          ·show Act.put _ (some 104) _ = _
           exact nRe9_
          refine pure_ (i := 9) (N := some 105) (v := ?_) (a' := ?_) #[true, true, true, true, true, true, true, true, true, true, false] rfl rfl (by kernel_rfl) (fun _ _ _ h => h) (Or.inl ⟨by rfl, ?_⟩) ?_ ?_
          rotate_left
          ·exact sRe9_1
          rotate_left
          ·exact nRe9_
          refine last_ (i := 10) (N := none) #[true, true, true, true, true, true, true, true, true, true, true] rfl rfl (by kernel_rfl) (by decide) (fun K hK => ?_)
          refine skip_ (w1 := ?_) (by rfl) rfl ?_ ?_
          rotate_left
          ·go_simp
           rfl
          refine hK.out _ _ ?_
          clear hK K
          refine done_ (by kernel_rfl) ?_

          have HIR := HI13
          have HBR := HB13
          have HMR := HM13
          exact sc_round
     ·have l6 : (k0 == (1 : Int)) = false := by simp [hk0]
      have HMEM : Aside0 (memB (⟨#[]⟩ : ByteArray) six = false) := ⟨by decide +kernel⟩
      have HRE0 : Aside0 (R = .error (8, p0)) := ⟨by rw [HRK.out, item_no HTK2.out (by rw [decide_eq_false hk0]; rfl)]; rfl⟩
      have hin := parapetref1_In.calls (six.length + 1) (⟨#[]⟩ : ByteArray) (some ⟨w6.heap.size, 0, none⟩) 6 six _ (w6.alloc (.cells #[.string wCsp, .string wShare, .string wMixed, .string wDefault, .string wAllow, .string wDeny] 9)) (lit_strs w6 six (by decide)) (Nat.le_refl _) (in_f (⟨#[]⟩ : ByteArray) six (by decide))
      rw [HMEM.out] at hin
      have HIN := Aside0.mk hin
      clear hin
      go_wp2_with fail
      refine HIN.out.mono ?_
      rintro e w8 ⟨rfl, ⟨⟨nd, hw8⟩⟩⟩
      dsimp only
      have HI8 : Aside0 (IsR w2 w8 gr T (p : Int) s.size 0 0) := ⟨by rw [hw8]; exact IsS66.drewN (IsS66.alloc HI6.out _) _⟩
      have HB8 : Aside0 (Below w2.heap.size w2 w8) := ⟨by rw [hw8]; exact pw_below_drewN (below_alloc HB6.out _) _⟩
      have HS8 : Aside0 (RS w2 w8 gr gp v0 v1 v3 st okS okR) := ⟨by rw [hw8]; exact (HS6.out.keep (keep_alloc (KeepBut.refl _ _ _) _)).drewN _⟩
      clear hw8 HIN
      go_wp2_with fail
      refine (r_wrong (T := T) (e := s.size) p 8 HI8.out HB8.out).mono ?_
      rintro e w9 ⟨rfl, hs, hb, hk⟩
      dsimp only
      have HIX := Aside0.mk hs
      have HBX := Aside0.mk hb
      have HKX := Aside0.mk hk
      clear hs hb hk
      rw [← HTK2.out] at HIX
      have hc9 : (8 : Int) ≠ 0 := by decide
      obtain ⟨cE, hcE⟩ : ∃ cE : Int, cE = 8 := ⟨_, rfl⟩
      rw [← hcE] at HIX hc9 HRE0
      have HRE := HRE0
      clear hcE HRE0
      exact sc_bad
    ·skip
     have l1 : decide ((p : Int) < (n0 : Int)) = false := decide_eq_false (by omega)
     have l2 : decide (p < n0) = false := decide_eq_false hp
     obtain rfl : R = .ok st := by
      rw [hR]
      cases f with
      | zero => rfl
      | succ f => rw [itemsP, if_neg (by have := HN0.out; omega)]
     obtain ⟨A1, c1, hb1, _, _⟩ := HI.out
     have t0 : wr.cell? ⟨gr, 0, none⟩ = some (.slice A1 n0 c1) := by rw [HN0.out]; exact cellS66_0 hb1
     have t1 : wr.cell? ⟨gr, 1, none⟩ = some (.int .i64 (p : Int)) := cellS66_1 hb1
     have l0 : ((0 : Int) != 0) = false := by decide
     have HS := Aside0.mk hS
     clear hb1 hm hd hn hf hgk hS hR hp
     go_wp2
     go_quiet ((go_at_call 24; exact Calls.quiet_of_same (bad_quiet w2 _ gr T _ _ 0 0 _ l0 (IsS66.drewN HI.out _))))
     obtain ⟨w5, hw5⟩ : ∃ w5, w5 = wr.drewN nq := ⟨_, rfl⟩
     rw [← hw5]
     have HI5 : Aside0 (IsR w2 w5 gr T (p : Int) s.size 0 0) := ⟨by rw [hw5]; exact IsS66.drewN HI.out _⟩
     have HB5 : Aside0 (Below w2.heap.size w2 w5) := ⟨by rw [hw5]; exact pw_below_drewN HB.out _⟩
     have HS5 : Aside0 (RS w2 w5 gr gp v0 v1 v3 st okS okR) := ⟨by rw [hw5]; exact HS.out.drewN _⟩
     clear hw5 t0 t1 HI HB HS l1 l2
     go_wp2_with fail
     refine (bad_quiet w2 _ gr T _ _ 0 0 false l0 HI5.out).mono ?_
     rintro e w' ⟨rfl, hww⟩
     obtain rfl := hww.symm
     clear hww
     dsimp only
     obtain ⟨B0, k0, e0⟩ := Kd.R_slice HS5.out.rC
     obtain ⟨B1, k1, e1⟩ := Kd.R_slice HS5.out.rS
     obtain ⟨B3, k3, e3⟩ := Kd.N_slice HS5.out.rR
     have HC : Aside0 (v0.oneCell' = true ∧ v1.oneCell' = true ∧ v3.oneCell' = true) := ⟨by rw [e0, e1, e3]; exact ⟨rfl, rfl, rfl⟩⟩
     have HPr : Aside0 (w5.heap[gA]? = some (.cells (polcells (.slice none 0 0) (.slice none 0 0) ⟨#[]⟩ (.slice none 0 0) false) 26 (0, 0))) := ⟨blk_below HP2.out HB5.out⟩
     have HFr : Aside0 (w5.heap[gA + 1]? = some (.cells #[.int .i64 0, .int .i64 0] 50 (0, 0))) := ⟨blk_below HF2.out HB5.out⟩
     have HKS : Aside0 (∀ c1 c2, Kept w5 ((w5.setRow gA c1).setRow (gA + 1) c2) (fun k => k = gA ∨ k = gA + 1)) := ⟨fun c1 c2 => ((kept_setRow w5 gA c1).mono (fun k hk => .inl hk)).then_ (kept_setRow _ _ _) (fun k hk => .inl (.inr hk))⟩
     have HGT : Aside0 (gA + 1 < w2.heap.size) := ⟨by have := HLT.out; have := HZ2.out; omega⟩
     have HBr : Aside0 (Below w.heap.size w w5) := ⟨HB2.out.trans (HB5.out.mono HB2.out.size)⟩
     clear e0 e1 e3
     go_wp2_with (first | refine wpList_load_row rfl 26 _ rfl gp rfl 26 (polcells v0 v1 st.mixed v3 st.allow) (0, 0) _ HS5.out.blk Tryd.underlying26 rfl size_pol ?_ | refine wpList_store_row rfl 26 (.tmp 2) (.tmp 158) rfl gA (polcells v0 v1 st.mixed v3 st.allow) rfl rfl 26 _ HPr.out size_pol rfl (pol_one HC.out _ _) ?_ | refine wpList_store_row rfl 50 (.tmp 3) (.tmp 159) rfl (gA + 1) #[.int .i64 0, .int .i64 0] rfl rfl 50 #[.int .i64 0, .int .i64 0] ((setRow_other _ _ _ _ (show gA + 1 ≠ gA by omega)).trans HFr.out) size_fault rfl (by simp [Value.oneCell']) ?_)
     refine bodyPost_ret (rpol_results _ _ gA (gA + 1) _ _ rfl rfl ?_ ?_ rfl rfl) rfl ⟨v0, v1, v3, rfl, ?_, ?_, ?_, ?_⟩
     ·exact (setRow_other _ _ _ _ (show gA ≠ gA + 1 by omega)).trans (setRow_heap _ _ _ _ _ _ HPr.out)
     ·exact setRow_heap _ _ _ _ _ _ ((setRow_other _ _ _ _ (show gA + 1 ≠ gA by omega)).trans HFr.out)
     ·exact Kd.R_lower (Kd.R_mono (Kd.R_kept (Kd.R_bound HS5.out.rC) (HKS.out _ _) (fun k ho hs => by have := ho.2.1; have := HGT.out; rcases hs with hs | hs <;> omega)) (fun k ho => by have := ho.2.1; have := HB2.out.size; omega)) HB2.out.size
     ·exact Kd.R_lower (Kd.R_mono (Kd.R_kept HS5.out.rS (HKS.out _ _) (fun k ho hs => by have := (HS5.out.bS k ho).2.1; have := HGT.out; rcases hs with hs | hs <;> omega)) (fun k ho => ⟨by have := (HS5.out.bS k ho).2.1; have := HB2.out.size; omega, fun he => (HS5.out.dC k he.symm).2.2.1 ho⟩)) HB2.out.size
     ·exact Kd.N_V (Kd.N_mono (Kd.N_kept HS5.out.rR (HKS.out _ _) (fun k ho hs => by have := (HS5.out.bR k ho).2.1; have := HGT.out; rcases hs with hs | hs <;> omega)) (fun k ho => ⟨by have := (HS5.out.bR k ho).2.1; have := HB2.out.size; omega, fun he => (HS5.out.dC k he.symm).2.2.2 ho, fun he => (HS5.out.bS k (HS5.out.rS.1 k he.symm)).2.2.2.2 ho⟩))
     ·exact below_setRow (below_setRow HBr.out (by rw [HGA.out]; omega) _) (by rw [HGA.out]; omega) _
 ·have l1 : (c != (0 : Int)) = true := by simp [hc]
  obtain rfl : R = .error (c, a) := by rw [HR.out, polT, if_neg hc]
  go_upto_region 2 with (refine wpList_store_row rfl 50 _ _ rfl w1.heap.size #[.int .i64 c, .int .i64 a] rfl rfl 50 #[.int .i64 0, .int .i64 0] (blk_new _ _) size_fault rfl (by simp [Value.oneCell']) ?_)
  obtain ⟨w2, hw2⟩ : ∃ w2, w2 = (w1.alloc (.cells #[.int .i64 0, .int .i64 0] 50)).setRow w1.heap.size #[.int .i64 c, .int .i64 a] := ⟨_, rfl⟩
  rw [← hw2, ← hgf]
  have HX2 : Aside0 (w2.heap[gf]? = some (.cells #[.int .i64 c, .int .i64 a] 50 (0, 0))) := ⟨by rw [hw2, hgf]; exact setRow_heap _ _ _ _ _ _ (blk_new w1 (.cells #[.int .i64 0, .int .i64 0] 50))⟩
  have HLT : Aside0 (gA + 1 < gf) := ⟨by rw [hgf]; exact blk_lt HF1.out⟩
  have HK12 : Aside0 (Below w1.heap.size w1 w2) := ⟨by rw [hw2]; exact below_setRow (below_alloc (Below.refl _ _) _) (Nat.le_refl _) _⟩
  clear hw2
  have HF2 : Aside0 (w2.heap[gA + 1]? = some (.cells #[.int .i64 0, .int .i64 0] 50 (0, 0))) := ⟨blk_below HF1.out HK12.out⟩
  have HP2 : Aside0 (w2.heap[gA]? = some (.cells (polcells (.slice none 0 0) (.slice none 0 0) ⟨#[]⟩ (.slice none 0 0) false) 26 (0, 0))) := ⟨blk_below HP1.out HK12.out⟩
  have HB2 : Aside0 (Below w.heap.size w w2) := ⟨HB1.out.trans (HK12.out.mono HB1.out.size)⟩
  have t0 : w2.cell? ⟨gf, 0, none⟩ = some (.int .i64 c) := blk_cell HX2.out 0
  have d0 : w2.drew.cell? ⟨gf, 0, none⟩ = some (.int .i64 c) := blk_cell HX2.out 0
  have d1 : w2.drew.cell? ⟨gf, 1, none⟩ = some (.int .i64 a) := blk_cell HX2.out 1
  clear HF1 HP1 HB1 HT1 HK12 hgf
  go_upto_region 3 with (fail)
  refine start_ (n := 4) (S := fun w' => w'.cell? ⟨gf, 0, none⟩ = some (.int .i64 c) ∧ w'.cell? ⟨gf, 1, none⟩ = some (.int .i64 a)) (ds := [3]) #[false, false, false, false] (by kernel_rfl) rfl rfl ⟨d0, d1⟩ (fun hHeld => ?_)
  refine pure_ (i := 0) (N := some 20) (v := ?_) (a' := ?_) #[true, false, false, false] rfl rfl (by kernel_rfl) (fun _ _ _ h => h) (Or.inl ⟨by rfl, ?_⟩) ?_ ?_
  rotate_left
  ·exact sRe9_1
  rotate_left
  ·exact nRe9_
  refine take_ (i := 1) (N := some 21) (v := ?_) (a' := ?_) #[true, true, false, false] rfl rfl (by kernel_rfl) (fun _ _ _ h => h) (Or.inl ⟨by rfl, ?_⟩) hHeld ?_ ?_
  rotate_left
  ·rintro w' ⟨s0, s1⟩
   go_simp
   with_reducible rfl
  rotate_left
  ·exact nRe9_
  refine one_ (i := 2) (N := none) #[true, true, true, false] rfl rfl (by kernel_rfl) (by decide) (fun K hK => ?_)
  refine QT.storeRow_ (by rfl) rfl 26 (.tmp 2) (.tmp 20) rfl gA #[.slice none 0 0, .slice none 0 0, .string ⟨#[]⟩, .slice none 0 0, .bool false] rfl rfl 26 _ HP2.out (by kernel_rfl) rfl (by simp [Value.oneCell']) ?_
  refine hK.out _ _ ⟨(cell_setRow_other _ _ _ _ (show gf ≠ gA by have := HLT.out; omega)).trans hHeld.1, (cell_setRow_other _ _ _ _ (show gf ≠ gA by have := HLT.out; omega)).trans hHeld.2⟩ (fun hHeld => ?_)
  clear hK K
  refine last_ (i := 3) (N := none) #[true, true, true, true] rfl rfl (by kernel_rfl) (by decide) (fun K hK => ?_)
  refine QT.storeRow_ (by rfl) rfl 50 (.tmp 3) (.tmp 21) rfl (gA + 1) #[.int .i64 c, .int .i64 a] rfl rfl 50 #[.int .i64 0, .int .i64 0] ((setRow_other _ _ _ _ (show gA + 1 ≠ gA by omega)).trans HF2.out) (by kernel_rfl) rfl (by simp [Value.oneCell']) ?_
  refine hK.out _ _ ?_
  clear hK K
  refine done_ (by kernel_rfl) ?_

  rw [hput, hput]
  clear hput
  go_wp2
  refine bodyPost_ret (rpol_results _ _ gA (gA + 1) _ _ rfl rfl ?_ ?_ rfl rfl) rfl ⟨rfl, ?_⟩
  ·exact (setRow_other _ _ _ _ (show gA ≠ gA + 1 by omega)).trans (setRow_heap _ _ _ _ _ _ HP2.out)
  ·exact setRow_heap _ _ _ _ _ _ ((setRow_other _ _ _ _ (show gA + 1 ≠ gA by omega)).trans HF2.out)
  ·exact below_setRow (below_setRow (below_drew HB2.out) (by rw [HGA.out]; omega) _) (by rw [HGA.out]; omega) _
end Go.Proofs.YtdlahgamdigkhaaDoor.Pu
namespace Go.Proofs.YtdlahgamdigkhaaDoor.Pu
open Go.RowKit Go.Proofs.YtdlahgamdigkhaaDoor.Pr Go.Proofs.YtdlahgamdigkhaaDoorW.PrintWords Go.Proofs.YtdlahgamdigkhaaDoorW.PrintLast Go.Proofs.YtdlahgamdigkhaaDoorW.PrintMore Go.Proofs.YtdlahgamdigkhaaDoor.Lx
open Go.Proofs.YtdlahgamdigkhaaDoor.Ps hiding Tk
theorem rpolA (x : ByteArray) (w : World) : Calls Tryd.prog 14 #[.string x] w (PolQR w (polA x)) := by
 obtain ⟨k, hk⟩ := rtokens_ev x
 obtain ⟨T, hT⟩ : ∃ T, T = tokM x := ⟨_, rfl⟩
 have h := hk k (Nat.le_refl _)
 have ho := okTk_iff.1 (okTk_tokM x)
 have hz : T.2.1 = 0 → x.size ≤ 1000000 := fun h0 => by
  rw [hT] at h0
  rcases tokM_cases x with ⟨ts, h1, hs, hv, hl⟩ | ⟨j, h1, hj⟩ | ⟨h1, hl⟩
  ·omega
  ·rw [h1] at h0; exact absurd (show (8 : Int) = 0 from h0) (by decide)
  ·rw [h1] at h0; exact absurd (show (2 : Int) = 0 from h0) (by decide)
 rw [polA]
 rw [← hT] at h ho ⊢
 obtain ⟨T, c, a⟩ := T
 exact rpolicy_calls x k T c a w h ho.2 ho.1 hz
end Go.Proofs.YtdlahgamdigkhaaDoor.Pu
namespace Go.Proofs.YtdlahgamdigkhaaDoor.Sn
open Go.RowKit Go.Maps Go.Proofs.YtdlahgamdigkhaaDoor.Pr Go.Proofs.YtdlahgamdigkhaaDoorW.PrintWords Go.Proofs.YtdlahgamdigkhaaDoorW.PrintLast Go.Proofs.YtdlahgamdigkhaaDoorW.PrintMore Go.Proofs.YtdlahgamdigkhaaDoor.Mp Go.Proofs.YtdlahgamdigkhaaDoor.Lx
open Go.Proofs.YtdlahgamdigkhaaDoor.Ps hiding Tk lowB
open Go.Proofs.YtdlahgamdigkhaaDoor.Pu
structure PolAt (w : World) (A0 A1 A3 : Option Addr) (st : Pst) : Prop where
 c0 : Kd.string.C w A0 st.csp.length st.csp
 c1 : k47.C w A1 st.shares.length st.shares
 f3 : Kd.F k41 w (fun _ => True) A3 st.rules.length st.rules
theorem PolAt.below {w w' : World} {A0 A1 A3 : Option Addr} {st : Pst} (h : PolAt w A0 A1 A3 st) (hb : Below w.heap.size w w') : PolAt w' A0 A1 A3 st := ⟨Kd.C_below h.c0 hb, Kd.C_below h.c1 hb, Kd.F_below h.f3 hb⟩
def polS (A0 A1 A3 : Option Addr) (c0 c1 c3 : Nat) (st : Pst) : Value := polV A0 A1 A3 st.csp.length c0 st.shares.length c1 st.rules.length c3 st.mixed st.allow
def ReadQ (w : World) (s : ByteArray) (e : Ending) (w' : World) : Prop :=
 match polA s with
 | .ok st => ∃ A0 A1 A3 c0 c1 c3, e = .returned (.tuple #[polS A0 A1 A3 c0 c1 c3 st, .bool true]) ∧ PolAt w' A0 A1 A3 st ∧ Below w.heap.size w w'
 | .error _ => e = .returned (.tuple #[polV none none none 0 0 0 0 0 0 ⟨#[]⟩ false, .bool false]) ∧ Below w.heap.size w w'
theorem polA_le {x : ByteArray} {st : Pst} (h : polA x = .ok st) : x.size ≤ 3000 := by
 rw [polA, polT_eq] at h
 rcases tokM_cases x with ⟨ts, h1, hs, hv, hl⟩ | ⟨j, h1, hj⟩ | ⟨h1, hl⟩
 ·exact hl
 ·rw [h1] at h; rw [if_neg (by exact (by decide : ¬ (8 : Int) = 0))] at h; cases h
 ·rw [h1] at h; rw [if_neg (by exact (by decide : ¬ (2 : Int) = 0))] at h; cases h
theorem read_results (fn : Func) (h : fn.results = #[.cell 2 26, .tmp 3]) (tmps : Array Value) (w : World) (gp : Nat) (cs : Array Value) (b : Bool) (h2 : tmps.getD 2 undef = .pointer (some ⟨gp, 0, none⟩)) (h3 : tmps.getD 3 undef = .bool b)
  (hp : w.heap[gp]? = some (.cells cs 26 (0, 0))) (hc : cs.size = 5) : (results fn tmps).run Tryd.prog w = .ok (.tuple #[.agg cs, .bool b]) w := by
 have hv := results_list (P := Tryd.prog) (tmps := tmps) (w := w) (rs := [.cell 2 26, .tmp 3]) h (by simp) (.cell gp _ cs (0, 0) _ h2 hp Tryd.underlying26 rfl (by rw [hc]; exact size_pol) (.tmp .nil))
 rw [h3] at hv
 exact hv
set_option maxHeartbeats 16000000
set_option maxRecDepth 100000
theorem read_calls (s : ByteArray) (w : World) : Calls Tryd.prog 7 #[.string s] w (ReadQ w s) := by
 obtain ⟨wA, hwA⟩ : ∃ wA, wA = w.alloc (.cells #[.slice none 0 0, .slice none 0 0, .string ⟨#[]⟩, .slice none 0 0, .bool false] 26) := ⟨_, rfl⟩
 have HXA : Aside0 (wA.heap[w.heap.size]? = some (.cells #[.slice none 0 0, .slice none 0 0, .string ⟨#[]⟩, .slice none 0 0, .bool false] 26 (0, 0))) := ⟨by rw [hwA]; exact blk_new _ _⟩
 have HBA : Aside0 (Below w.heap.size w wA) := ⟨by rw [hwA]; exact below_alloc (Below.refl _ _) _⟩
 have HWA := Aside0.mk hwA
 have HSA : Aside0 (w.heap.size < wA.heap.size) := ⟨blk_lt HXA.out⟩
 have HP := Aside0.mk (rpolA s wA)
 clear hwA
 unfold ReadQ
 cases hp : polA s with
 | error f =>
  obtain ⟨fc, fa⟩ := f
  have hnz : fc ≠ 0 := polA_nz s _ hp
  rw [hp] at HP
  go_enter Tryd.func7, Tryd.ntmps7
  go_upto_region 1 with (fail)
  rw [← HWA.out]
  go_wp2_with fail
  refine HP.out.mono ?_
  rintro e w1 ⟨rfl, hb⟩
  unfold zeroPol polcells faultV
  dsimp only
  have hQ : True := trivial
  obtain ⟨w2, hw2⟩ : ∃ w2, w2 = (((w1.alloc (.cells #[.slice none 0 0, .slice none 0 0, .string ⟨#[]⟩, .slice none 0 0, .bool false] 26)).alloc (.cells #[.int .i64 0, .int .i64 0] 50)).setRow w1.heap.size #[.slice none 0 0, .slice none 0 0, .string ⟨#[]⟩, .slice none 0 0, .bool false]).setRow (w1.heap.size + 1) #[.int .i64 fc, .int .i64 fa] := ⟨_, rfl⟩
  have hb2 : Below w1.heap.size w1 w2 := by rw [hw2]; exact below_setRow (below_setRow (below_alloc (below_alloc (Below.refl _ _) _) _) (Nat.le_refl _) _) (Nat.le_succ _) _
  have hp0 : w2.heap[w1.heap.size]? = some (.cells #[.slice none 0 0, .slice none 0 0, .string ⟨#[]⟩, .slice none 0 0, .bool false] 26 (0, 0)) := by rw [hw2]; exact (setRow_other _ _ _ _ (by omega)).trans (setRow_heap _ _ _ _ _ _ (blk_alloc (blk_new w1 (.cells #[.slice none 0 0, .slice none 0 0, .string ⟨#[]⟩, .slice none 0 0, .bool false] 26)) _))
  have hp1 : w2.heap[w1.heap.size + 1]? = some (.cells #[.int .i64 fc, .int .i64 fa] 50 (0, 0)) := by rw [hw2]; exact setRow_heap _ _ _ _ _ _ ((setRow_other _ _ _ _ (by omega)).trans (blk_new2 w1 #[.slice none 0 0, .slice none 0 0, .string ⟨#[]⟩, .slice none 0 0, .bool false] #[.int .i64 0, .int .i64 0] 26 50))
  have HQ0 := Aside0.mk hp0
  have HXB : Aside0 (w2.heap[w.heap.size]? = some (.cells #[.slice none 0 0, .slice none 0 0, .string ⟨#[]⟩, .slice none 0 0, .bool false] 26 (0, 0))) := ⟨blk_below (blk_below HXA.out hb) hb2⟩
  have HB2 : Aside0 (Below wA.heap.size wA w2) := ⟨hb.trans (hb2.mono hb.size)⟩
  have HB3 : Aside0 (Below w.heap.size w w2) := ⟨HBA.out.trans (HB2.out.mono HBA.out.size)⟩
  have u0 : w2.cell? ⟨w1.heap.size + 1, 0, none⟩ = some (.int .i64 fc) := blk_cell hp1 0
  have HW2 := Aside0.mk hw2
  have HQQ : Aside0 _ := ⟨hQ⟩
  have l0 : (fc == (0 : Int)) = false := by simp [hnz]
  clear hw2 hp0 hp1 hb hb2 hQ HP
  go_upto_region 2 with (first | refine wpList_store_row rfl 26 _ _ rfl w1.heap.size #[.slice none 0 0, .slice none 0 0, .string ⟨#[]⟩, .slice none 0 0, .bool false] rfl rfl 26 #[.slice none 0 0, .slice none 0 0, .string ⟨#[]⟩, .slice none 0 0, .bool false] (blk_alloc (blk_new _ _) _) size_pol rfl (by simp [Value.oneCell']) ?_ | refine wpList_store_row rfl 50 _ _ rfl (w1.heap.size + 1) #[.int .i64 fc, .int .i64 fa] rfl rfl 50 #[.int .i64 0, .int .i64 0] ((setRow_other _ _ _ _ (by omega)).trans (blk_new2 _ _ _ _ _)) size_fault rfl (by simp [Value.oneCell']) ?_)
  rw [← HW2.out]
  go_wp2_with (first | refine wpList_load_row rfl 26 _ rfl w1.heap.size rfl 26 #[.slice none 0 0, .slice none 0 0, .string ⟨#[]⟩, .slice none 0 0, .bool false] (0, 0) _ HQ0.out Tryd.underlying26 rfl size_pol ?_ | refine wpList_store_row rfl 26 _ _ rfl w.heap.size #[.slice none 0 0, .slice none 0 0, .string ⟨#[]⟩, .slice none 0 0, .bool false] rfl rfl 26 #[.slice none 0 0, .slice none 0 0, .string ⟨#[]⟩, .slice none 0 0, .bool false] HXB.out size_pol rfl (by simp [Value.oneCell']) ?_)
  exact bodyPost_ret (read_results _ rfl _ _ w.heap.size #[.slice none 0 0, .slice none 0 0, .string ⟨#[]⟩, .slice none 0 0, .bool false] false rfl rfl (setRow_heap _ _ _ _ _ _ HXB.out) rfl) rfl ⟨rfl, below_setRow HB3.out (Nat.le_refl _) _⟩
 | ok st =>
  rw [hp] at HP
  go_enter Tryd.func7, Tryd.ntmps7
  go_upto_region 1 with (fail)
  rw [← HWA.out]
  go_wp2_with fail
  refine HP.out.mono ?_
  rintro e w1 ⟨v0, v1, v3, rfl, hR0, hR1, hV3, hb⟩
  unfold polcells faultV
  dsimp only
  obtain ⟨A0, c0, e0⟩ := Kd.R_slice hR0
  obtain ⟨A1, c1, e1⟩ := Kd.R_slice hR1
  obtain ⟨A3, c3, e3⟩ := Kd.V_slice hV3
  rw [e0] at hR0
  rw [e1] at hR1
  rw [e3] at hV3
  have hQ : ∀ w', (∀ k, wA.heap.size ≤ k → k < w1.heap.size → w'.heap[k]? = w1.heap[k]?) → PolAt w' A0 A1 A3 st := fun w' h => ⟨(Kd.R_reads' (Kd.R_step hR0 (fun k ho hl => h k ho hl))).2.2, (Kd.R_reads' (Kd.R_step hR1 (fun k ho hl => h k ho.1 hl))).2.2, Kd.F_mono (Kd.V_F (Kd.V_step hV3 (fun k ho hl => h k ho.1 hl))) (fun _ _ => trivial)⟩
  obtain ⟨n0, hn0⟩ : ∃ n, n = st.csp.length := ⟨_, rfl⟩
  obtain ⟨n1, hn1⟩ : ∃ n, n = st.shares.length := ⟨_, rfl⟩
  obtain ⟨n3, hn3⟩ : ∃ n, n = st.rules.length := ⟨_, rfl⟩
  rw [← hn0] at e0
  rw [← hn1] at e1
  rw [← hn3] at e3
  have HPS : Aside0 (polS A0 A1 A3 c0 c1 c3 st = .agg #[.slice A0 n0 c0, .slice A1 n1 c1, .string st.mixed, .slice A3 n3 c3, .bool st.allow]) := ⟨by rw [hn0, hn1, hn3]; rfl⟩
  subst e0 e1 e3
  clear hR0 hR1 hV3 hn0 hn1 hn3
  obtain ⟨w2, hw2⟩ : ∃ w2, w2 = (((w1.alloc (.cells #[.slice none 0 0, .slice none 0 0, .string ⟨#[]⟩, .slice none 0 0, .bool false] 26)).alloc (.cells #[.int .i64 0, .int .i64 0] 50)).setRow w1.heap.size #[.slice A0 n0 c0, .slice A1 n1 c1, .string st.mixed, .slice A3 n3 c3, .bool st.allow]).setRow (w1.heap.size + 1) #[.int .i64 0, .int .i64 0] := ⟨_, rfl⟩
  have hb2 : Below w1.heap.size w1 w2 := by rw [hw2]; exact below_setRow (below_setRow (below_alloc (below_alloc (Below.refl _ _) _) _) (Nat.le_refl _) _) (Nat.le_succ _) _
  have hp0 : w2.heap[w1.heap.size]? = some (.cells #[.slice A0 n0 c0, .slice A1 n1 c1, .string st.mixed, .slice A3 n3 c3, .bool st.allow] 26 (0, 0)) := by rw [hw2]; exact (setRow_other _ _ _ _ (by omega)).trans (setRow_heap _ _ _ _ _ _ (blk_alloc (blk_new w1 (.cells #[.slice none 0 0, .slice none 0 0, .string ⟨#[]⟩, .slice none 0 0, .bool false] 26)) _))
  have hp1 : w2.heap[w1.heap.size + 1]? = some (.cells #[.int .i64 0, .int .i64 0] 50 (0, 0)) := by rw [hw2]; exact setRow_heap _ _ _ _ _ _ ((setRow_other _ _ _ _ (by omega)).trans (blk_new2 w1 #[.slice none 0 0, .slice none 0 0, .string ⟨#[]⟩, .slice none 0 0, .bool false] #[.int .i64 0, .int .i64 0] 26 50))
  have HQ0 := Aside0.mk hp0
  have HXB : Aside0 (w2.heap[w.heap.size]? = some (.cells #[.slice none 0 0, .slice none 0 0, .string ⟨#[]⟩, .slice none 0 0, .bool false] 26 (0, 0))) := ⟨blk_below (blk_below HXA.out hb) hb2⟩
  have HB2 : Aside0 (Below wA.heap.size wA w2) := ⟨hb.trans (hb2.mono hb.size)⟩
  have HB3 : Aside0 (Below w.heap.size w w2) := ⟨HBA.out.trans (HB2.out.mono HBA.out.size)⟩
  have u0 : w2.cell? ⟨w1.heap.size + 1, 0, none⟩ = some (.int .i64 0) := blk_cell hp1 0
  have HW2 := Aside0.mk hw2
  have HQQ : Aside0 (∀ w', (∀ k, wA.heap.size ≤ k → k < w2.heap.size → w'.heap[k]? = w2.heap[k]?) → PolAt w' A0 A1 A3 st) := ⟨fun w' h => hQ w' (fun k h1 h2 => (h k h1 (Nat.lt_of_lt_of_le h2 hb2.size)).trans (hb2.block k h2))⟩
  have hsz := polA_le hp
  have l1 : decide ((s.size : Int) ≤ 3000) = true := decide_eq_true (by omega)
  have l2 : (s.size : Int) ≤ 3000 := by omega
  clear hw2 hp0 hp1 hb hb2 hQ HP
  go_upto_region 2 with (first | refine wpList_store_row rfl 26 _ _ rfl w1.heap.size #[.slice A0 n0 c0, .slice A1 n1 c1, .string st.mixed, .slice A3 n3 c3, .bool st.allow] rfl rfl 26 #[.slice none 0 0, .slice none 0 0, .string ⟨#[]⟩, .slice none 0 0, .bool false] (blk_alloc (blk_new _ _) _) size_pol rfl (by simp [Value.oneCell']) ?_ | refine wpList_store_row rfl 50 _ _ rfl (w1.heap.size + 1) #[.int .i64 0, .int .i64 0] rfl rfl 50 #[.int .i64 0, .int .i64 0] ((setRow_other _ _ _ _ (by omega)).trans (blk_new2 _ _ _ _ _)) size_fault rfl (by simp [Value.oneCell']) ?_)
  rw [← HW2.out]
  go_wp2_with (first | refine wpList_load_row rfl 26 _ rfl w1.heap.size rfl 26 #[.slice A0 n0 c0, .slice A1 n1 c1, .string st.mixed, .slice A3 n3 c3, .bool st.allow] (0, 0) _ HQ0.out Tryd.underlying26 rfl size_pol ?_ | refine wpList_store_row rfl 26 _ _ rfl w.heap.size #[.slice A0 n0 c0, .slice A1 n1 c1, .string st.mixed, .slice A3 n3 c3, .bool st.allow] rfl rfl 26 #[.slice none 0 0, .slice none 0 0, .string ⟨#[]⟩, .slice none 0 0, .bool false] HXB.out size_pol rfl (by simp [Value.oneCell']) ?_)
  refine bodyPost_ret (read_results _ rfl _ _ w.heap.size #[.slice A0 n0 c0, .slice A1 n1 c1, .string st.mixed, .slice A3 n3 c3, .bool st.allow] true rfl rfl (setRow_heap _ _ _ _ _ _ HXB.out) rfl) rfl ⟨A0, A1, A3, c0, c1, c3, by rw [HPS.out], ?_, below_setRow HB3.out (Nat.le_refl _) _⟩
  exact HQQ.out _ (fun k h1 _ => setRow_other _ _ _ _ (by have := HSA.out; omega))
end Go.Proofs.YtdlahgamdigkhaaDoor.Sn
