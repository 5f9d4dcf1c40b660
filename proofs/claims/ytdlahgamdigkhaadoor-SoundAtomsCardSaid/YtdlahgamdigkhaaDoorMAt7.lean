/- 16 texts of the proof, put together, less what is not used; what a tool printed stands among them. -/
import Derived.StringKeys
import Derived.KernelRfl
import Derived.Test.YtdlahgamdigkhaaDoorMAt6
set_option linter.unusedVariables false
set_option linter.unusedSimpArgs false
set_option maxRecDepth 100000
namespace Go.Proofs
open Go.RowKit
theorem sAt7_0 {p_ : Prop} (h_ : p_ := by
 replace HN2 := Aside0.mk (HN2.out rfl)
 go_wp2
 go_region
 clear q0 q1 t1 t2 l1 l2 l3 hip hp0 hp1 HEQ HRR HXR HB2 HK2
 go_wp2
 go_roundg (L.length - (i + 1))
 case measure => have := HGK.out; have := HIL.out; omega
 case rel => exact ⟨i + 1, by first | rfl | go_num, ⟨HIL.out⟩, ⟨Nat.le_refl _⟩, HN2, ⟨below_drew1 HBR.out⟩⟩) : p_ := h_
theorem sAt7_1 {p_ : Prop} (h_ : p_ := by
 obtain ⟨c0, rfl⟩ := List.length_eq_one_iff.1 hlen
 obtain ⟨gl, cap, v3', e9, hcap, l0, l1, l2, l3, hR3⟩ := one_openN HL4.out
 subst e9
 have HR3 := Aside0.mk hR3
 have HFN : Aside0 (CdQ R c0 i4 c4 a4) := ⟨HFin.out⟩
 clear hlen hR3 HFin
 go_wp2_with (refine wpList_store_row rfl 39 _ _ rfl gr (cdcells c0 v3') rfl rfl 39 _ HX4.out size_cd rfl (cd_one _ _ (V_cell1 HR3.out)) ?_)
 exact bodyPost_ret (cond_ret rfl rfl (setRow_heap _ _ _ _ _ _ HX4.out)) rfl ⟨c0, i4, c4, a4, v3', HFN.out, rfl, V_out HR3.out HG.out.2.2.1 _, (HA4.out.setRow HG.out.1 HG.out.2.1 (Nat.le_of_eq HG.out.2.2.1) _).to⟩) : p_ := h_
end Go.Proofs
namespace Go.Proofs.YtdlahgamdigkhaaDoor.Pu
open Go.RowKit Go.Proofs.YtdlahgamdigkhaaDoor.Pr Go.Proofs.YtdlahgamdigkhaaDoorW.PrintWords Go.Proofs.YtdlahgamdigkhaaDoorW.PrintLast Go.Proofs.YtdlahgamdigkhaaDoorW.PrintMore Go.Proofs.YtdlahgamdigkhaaDoor.Lx
open Go.Proofs.YtdlahgamdigkhaaDoor.Ps hiding Tk
def kidsR (kind : Int) : Res (List Cd) → Res Cd
 | .error x => .error x
 | .ok (l, r) => if l.length = 1 then .ok (l.getD 0 z39, r) else .ok (cond0 kind l, r)
def kids1 (T : List Tk) (e : Int) (one : Nat → Res Cd) (w : ByteArray) : Res Cd → Res (List Cd)
 | .error x => .error x
 | .ok (c, q) => kidsL T e one w (T.length + 1 - q) [c] q
theorem kidsP_eq {T : List Tk} {e : Int} {kind : Int} {w : ByteArray} {one : Nat → Res Cd} {p : Nat} : kidsP T e kind w one p = kidsR kind (kids1 T e one w (one p)) := by
 cases h : one p with
 | error x => rw [kidsP, h]; rfl
 | ok x =>
  obtain ⟨c, q⟩ := x
  rw [kidsP, h]
  show _ = kidsR kind (kidsL T e one w (T.length + 1 - q) [c] q)
  dsimp only
  cases kidsL T e one w (T.length + 1 - q) [c] q with
  | error x => rfl
  | ok x => rfl
def finC (kind : Int) (acc : List Cd) : Cd := if acc.length = 1 then acc.getD 0 z39 else cond0 kind acc
theorem finC_ok {kind : Int} {acc : List Cd} {q : Nat} : CdQ (kidsR kind (.ok (acc, q))) (finC kind acc) (q : Int) 0 0 := by
 rw [kidsR, finC]
 split <;> exact ⟨rfl, rfl, rfl, rfl⟩
def KSit (T : List Tk) (e : Int) (kind : Int) (w : ByteArray) (one : Nat → Res Cd) (R : Res Cd) (gk : Nat) (acc : List Cd) (i c a : Int) : Prop :=
 acc ≠ [] ∧ ((c ≠ 0 ∧ 0 ≤ i ∧ R = .error (c, a)) ∨ ∃ (f q : Nat), i = (q : Int) ∧ c = 0 ∧ a = 0 ∧ R = kidsR kind (kidsL T e one w f acc q) ∧ T.length + 1 - q ≤ f ∧ T.length - q ≤ gk ∧ acc.length ≤ q + 1)
theorem At.grown {w0 W w w' : World} {g : Nat} {T : List Tk} {i e c a : Int} (h : At w0 W w g T i e c a) {row : Option Nat} (hg : w.grownBy w' row) (hne : some g ≠ row) (hb : Below w0.heap.size w0 w') (hW : row = none ∨ ∃ b, row = some b ∧ W.heap.size ≤ b) : At w0 W w' g T i e c a :=
 ⟨IsS66.grown h.i hg hne, hb, h.k.trans (KeepBut.of_grown hg g) hW⟩
theorem cd_mkF {W : World} {ok : Nat → Prop} {x : Cd} {v : Value} (h : Kd.V k39 39 W 0 ok v x.f2) : Kd.FK k39 W ok x [.int .i64 x.f0, .string x.f1.f0, .string x.f1.f1, v] := by
 obtain ⟨A, c, rfl, hl, hF⟩ := h
 exact fun W2 hW => k39_mk W2 x hl (hF W2 hW)
theorem cd_openF {W : World} {ok : Nat → Prop} {x : Cd} {cs : List Value} (h : Kd.FK k39 W ok x cs) : ∃ v, cs = [.int .i64 x.f0, .string x.f1.f0, .string x.f1.f1, v] ∧ Kd.V k39 39 W 0 ok v x.f2 := by
 obtain ⟨A3, c3, rfl, l3, _⟩ := k39_open (Kd.FK_now h)
 exact ⟨_, rfl, A3, c3, rfl, l3, (fun W' hW => by obtain ⟨A3_, c3_, he, l3_, g3_⟩ := k39_open (h W' hW); injection (Option.some.inj (show some (Value.slice A3 x.f2.length c3) = some (Value.slice A3_ x.f2.length c3_) from congrArg (fun l => l[3]?) he)) with ha_ _ _; rw [ha_]; exact g3_)⟩
theorem one_openN {w : World} {base : Nat} {ok : Nat → Prop} {v : Value} {c : Cd} (h : Kd.N k39 39 w base ok v [c]) : ∃ gl cap v3, v = .slice (some ⟨gl, 0, none⟩) 1 cap ∧ 1 ≤ cap ∧ w.cell? ⟨gl, 0, none⟩ = some (.int .i64 c.f0) ∧ w.cell? ⟨gl, 1, none⟩ = some (.string c.f1.f0) ∧ w.cell? ⟨gl, 2, none⟩ = some (.string c.f1.f1) ∧ w.cell? ⟨gl, 3, none⟩ = some v3 ∧ Kd.V k39 39 w 0 ok v3 c.f2 := by
 obtain ⟨gl, cap, rfl, _, _, _⟩ := Kd.N_form h (by simp)
 obtain ⟨cs, hcl, hF, hc⟩ := Kd.N_get h z39 0 (Int.le_refl _) (by simp)
 obtain ⟨v3, rfl, hV⟩ := cd_openF (show Kd.FK k39 w _ c cs from hF)
 have hr := Kd.N_reads' h
 exact ⟨gl, cap, v3, rfl, hr.2.1, by simpa [add_plain] using hc 0 _ rfl, by simpa [add_plain] using hc 1 _ rfl, by simpa [add_plain] using hc 2 _ rfl, by simpa [add_plain] using hc 3 _ rfl, Kd.V_mono hV (fun k hk => hk.1)⟩
theorem row_oneN (W : World) (base : Nat) (c : Cd) (v3 : Value) (ok okp : Nat → Prop) (hF : Kd.FK k39 W okp c [.int .i64 c.f0, .string c.f1.f0, .string c.f1.f1, v3]) (hok : ∀ k, okp k → ok k) (hfresh : ok W.heap.size) (hbase : base ≤ W.heap.size) :
  Kd.N k39 39 (W.alloc (.cells (cdcells c v3) 39)) base ok (.slice (some ⟨W.heap.size, 0, none⟩) 1 1) [c] := by
 have hrep : Reps (Kd.FK k39 W okp) k39.sz [c] [.int .i64 c.f0, .string c.f1.f0, .string c.f1.f1, v3] := Reps.front hF rfl (Reps.none _ _) rfl
 refine Kd.N_made (W := W) (okp := okp) (rows := Kd.chunks k39.sz [c].length [.int .i64 c.f0, .string c.f1.f0, .string c.f1.f1, v3]) ⟨fun k hk => ?_, [.int .i64 c.f0, .string c.f1.f0, .string c.f1.f1, v3], ?_, Kd.reps_raw hrep (fun y cs hk => ⟨k39.K_len (Kd.FK_now hk), k39.K_one (Kd.FK_now hk)⟩)⟩ (World.grownBy_alloc W _ none) ⟨_, rfl, Nat.le_refl _⟩ (Kd.chunks_length _ _ _) (fun j y cs hy hc => by rw [Kd.chunks_get hc]; exact hrep.2 j y hy) hok hfresh
 ·have : W.heap.size = k := by simpa [Value.ownBlock] using hk
  exact this.symm
 ·rw [Kd.chunks_length]; exact World.ownsRow_lit (base := base) (e := 39) (size := 4) W (cdcells c v3) 1 hbase (by decide) rfl
theorem V_cell1 {w : World} {base : Nat} {ok : Nat → Prop} {v : Value} {l : List Cd} (h : Kd.V k39 39 w base ok v l) : v.oneCell' = true := by
 obtain ⟨A, c, rfl, _⟩ := h; rfl
theorem V_out {W w : World} {gr : Nat} {v : Value} {l : List Cd} {base : Nat} (h : Kd.V k39 39 w base (fun k => gr < k) v l) (hW : W.heap.size = gr) (cs : Array Value) : Kd.V k39 39 (w.setRow gr cs) W.heap.size (fun k => W.heap.size ≤ k) v l :=
 by
 obtain ⟨A, c, rfl, hl, hF⟩ := Kd.V_kept h (kept_setRow w gr cs) (fun k hk he => by omega)
 exact ⟨A, c, rfl, hl, Kd.F_mono hF (fun k hk => by omega)⟩
set_option maxHeartbeats 16000000
set_option maxRecDepth 100000
theorem sc_fin_and {p_ : Prop} (h_ : p_ := by
 have HX4 : Aside0 (w4.heap[gr]? = some (.cells #[.int .i64 0, .string ⟨#[]⟩, .string ⟨#[]⟩, .slice none 0 0] 39 (0, 0))) := ⟨blk_keep HX.out hk4 HG.out.1⟩
 have HL4 : Aside0 (Kd.N k39 39 w4 w0.heap.size (fun k => gr < k) u5 acc) := ⟨Kd.N_keep HL.out hk4 (fun k hk => by have := HG.out; omega)⟩
 clear hk4 HL HX
 by_cases hlen : acc.length = 1
 ·exact sAt7_1
 ·obtain ⟨A9, c9, e9⟩ := Kd.N_slice HL4.out
  obtain ⟨n9, hn9⟩ : ∃ n9, n9 = acc.length := ⟨_, rfl⟩
  have HFN : Aside0 (CdQ R (cond0 5 acc) i4 c4 a4) := ⟨by have := HFin.out; rwa [finC, if_neg hlen] at this⟩
  rw [← hn9] at e9 hlen
  subst e9
  have l1 : ((n9 : Int) == 1) = false := by simp; omega
  have HV4 := Aside0.mk (Kd.N_V (base' := 0) HL4.out)
  clear hlen hn9 HFin
  go_wp2_with (refine wpList_store_row rfl 39 _ _ rfl gr (cdcells (cond0 5 acc) (.slice A9 n9 c9)) rfl rfl 39 _ HX4.out size_cd rfl (cd_one _ _ rfl) ?_)
  exact bodyPost_ret (cond_ret rfl rfl (setRow_heap _ _ _ _ _ _ HX4.out)) rfl ⟨cond0 5 acc, i4, c4, a4, _, HFN.out, rfl, V_out HV4.out HG.out.2.2.1 _, (HA4.out.setRow HG.out.1 HG.out.2.1 (Nat.le_of_eq HG.out.2.2.1) _).to⟩) : p_ := h_
theorem rand_calls (w0 W : World) (g : Nat) (T : List Tk) (e : Int) (d : Int) (hT : T.length ≤ 1000000) {one : Nat → Res Cd} (hone : ∀ (q : Nat) (W2 : World), IsR w0 W2 g T (q : Int) e 0 0 → Below w0.heap.size w0 W2 → Calls Tryd.prog 57 #[.pointer (some ⟨g, 0, none⟩), .int .i64 d] W2 (CondQ w0 W2 g T e (one q)))
  (hmono : ∀ q c r, one q = .ok (c, r) → q ≤ r) (p : Nat) (h : IsR w0 W g T (p : Int) e 0 0) (hB : Below w0.heap.size w0 W) :
  Calls Tryd.prog 44 #[.pointer (some ⟨g, 0, none⟩), .int .i64 d] W (CondQ w0 W g T e (kidsP T e 5 wAnd one p)) := by
 have HT := Aside0.mk hT
 have HO := Aside0.mk hone
 have HMO := Aside0.mk hmono
 obtain ⟨gr, hgr⟩ : ∃ gr, gr = W.heap.size := ⟨_, rfl⟩
 have HA1 : Aside0 (At w0 W (W.alloc (.cells #[.int .i64 0, .string ⟨#[]⟩, .string ⟨#[]⟩, .slice none 0 0] 39)) g T (p : Int) e 0 0) := ⟨(At.start h hB).alloc _⟩
 have HX1 : Aside0 ((W.alloc (.cells #[.int .i64 0, .string ⟨#[]⟩, .string ⟨#[]⟩, .slice none 0 0] 39)).heap[gr]? = some (.cells #[.int .i64 0, .string ⟨#[]⟩, .string ⟨#[]⟩, .slice none 0 0] 39 (0, 0))) := ⟨by rw [hgr]; exact blk_new _ _⟩
 have HG : Aside0 (gr ≠ g ∧ w0.heap.size ≤ gr ∧ W.heap.size = gr ∧ g < gr) := ⟨by have := IsS66.lt h; have := hB.size; omega⟩
 obtain ⟨R, hR⟩ : ∃ R, R = kidsP T e 5 wAnd one p := ⟨_, rfl⟩
 rw [← hR]
 have HR0 : Aside0 (R = kidsR 5 (kids1 T e one wAnd (one p))) := ⟨by rw [hR, kidsP_eq]⟩
 clear hR h hB hT hone hmono
 go_enter Tryd.func44, Tryd.ntmps44
 go_upto_region 1 with (fail)
 obtain ⟨w1, hw1⟩ : ∃ w1, w1 = W.alloc (.cells #[.int .i64 0, .string ⟨#[]⟩, .string ⟨#[]⟩, .slice none 0 0] 39) := ⟨_, rfl⟩
 rw [← hw1] at HA1 HX1
 rw [← hw1, ← hgr]
 clear hw1 hgr
 have h2 := HO.out p w1 HA1.out.i HA1.out.b
 obtain ⟨r2, hr2⟩ : ∃ r2, r2 = one p := ⟨_, rfl⟩
 rw [← hr2] at h2 HR0
 have H2 := Aside0.mk h2
 have HR2 := Aside0.mk hr2
 clear h2 hr2
 go_wp2_with fail
 refine H2.out.mono ?_
 rintro ed w2 ⟨s2, i2, c2, a2, v2, hq2, rfl, hv2, hs2⟩
 unfold cdcells
 dsimp only
 have HQ2 := Aside0.mk hq2
 have HA2 := Aside0.mk (HA1.out.step hs2)
 have HX2 : Aside0 (w2.heap[gr]? = some (.cells #[.int .i64 0, .string ⟨#[]⟩, .string ⟨#[]⟩, .slice none 0 0] 39 (0, 0))) := ⟨blk_keep HX1.out hs2.2.2 HG.out.1⟩
 have HZ1 : Aside0 (gr < w1.heap.size) := ⟨blk_lt HX1.out⟩
 have HZ2 : Aside0 (gr < w2.heap.size) := ⟨blk_lt HX2.out⟩
 have HF2 : Aside0 (Kd.FK k39 w2 (fun k => gr < k) s2 [.int .i64 s2.f0, .string s2.f1.f0, .string s2.f1.f1, v2]) := ⟨cd_mkF (Kd.V_lower (Kd.V_mono hv2 (fun k hk => by have := HZ1.out; omega)) (Nat.zero_le _))⟩
 clear hq2 hv2 hs2 HA1 HX1 H2
 have HN3 : Aside0 (Kd.N k39 39 (w2.alloc (.cells #[.int .i64 s2.f0, .string s2.f1.f0, .string s2.f1.f1, v2] 39)) w0.heap.size (fun k => gr < k) (.slice (some ⟨w2.heap.size, 0, none⟩) 1 1) [s2]) := ⟨row_oneN w2 w0.heap.size s2 v2 _ _ HF2.out (fun _ hk => hk) HZ2.out HA2.out.b.size⟩
 go_wp2_with fail
 obtain ⟨w3, hw3⟩ : ∃ w3, w3 = w2.alloc (.cells #[.int .i64 s2.f0, .string s2.f1.f0, .string s2.f1.f1, v2] 39) := ⟨_, rfl⟩
 rw [← hw3] at HN3
 rw [← hw3]
 have HA3 : Aside0 (At w0 W w3 g T i2 e c2 a2) := ⟨by rw [hw3]; exact HA2.out.alloc _⟩
 have HX3 : Aside0 (w3.heap[gr]? = some (.cells #[.int .i64 0, .string ⟨#[]⟩, .string ⟨#[]⟩, .slice none 0 0] 39 (0, 0))) := ⟨by rw [hw3]; exact blk_alloc HX2.out _⟩
 have HK3 : Aside0 (KSit T e 5 wAnd one R (T.length + 1) [s2] i2 c2 a2) := ⟨by
  refine ⟨by simp, ?_⟩
  have hq := HQ2.out
  cases hr : r2 with
  | error x =>
   obtain ⟨x, y⟩ := x
   rw [hr] at hq
   obtain ⟨hx, hi, rfl, rfl⟩ := hq
   exact .inl ⟨hx, hi, by rw [HR0.out, hr]; rfl⟩
  | ok x =>
   obtain ⟨s', q⟩ := x
   rw [hr] at hq
   obtain ⟨rfl, rfl, rfl, rfl⟩ := hq
   exact .inr ⟨T.length + 1 - q, q, rfl, rfl, rfl, by rw [HR0.out, hr]; rfl, Nat.le_refl _, by omega, by simp⟩⟩
 have HZ : Aside0 (gr < w1.heap.size) := HZ1
 clear hw3 HA2 HX2 HF2 HQ2 HR0 HR2 HZ2 HZ1
 go_loopg [5] (T.length + 1) (fun gk v5 wr => ∃ (acc : List Cd) (i c a : Int), Aside0 (At w0 W wr g T i e c a) ∧ Aside0 (wr.heap[gr]? = some (.cells #[.int .i64 0, .string ⟨#[]⟩, .string ⟨#[]⟩, .slice none 0 0] 39 (0, 0))) ∧ Aside0 (Kd.N k39 39 wr w0.heap.size (fun k => gr < k) v5 acc) ∧ Aside0 (KSit T e 5 wAnd one R gk acc i c a))
 case atStart => exact ⟨[s2], i2, c2, a2, HA3, HX3, HN3, HK3⟩
 case round =>
  clear HA3 HX3 HN3 HK3
  obtain ⟨acc, i, c, a, HA, HX, HL, HK⟩ := hrel
  obtain ⟨hne, hk⟩ := HK.out
  rcases hk with ⟨hc, hi, hR⟩ | ⟨f, q, rfl, rfl, rfl, hR, hf, hgk, hal⟩
  ·have HFin : Aside0 (CdQ R (finC 5 acc) i c a) := ⟨by rw [hR]; exact ⟨hc, hi, rfl, rfl⟩⟩
   go_wp2_with fail
   refine (r_take_bad (T := T) (e := e) wAnd hi hc HA.out.i HA.out.b).mono ?_
   rintro ed w4 ⟨rfl, hs⟩
   dsimp only
   have HA4 := Aside0.mk (HA.out.step hs)
   have hk4 := hs.2.2
   obtain ⟨i4, rfl⟩ : ∃ i4, i4 = i := ⟨_, rfl⟩
   obtain ⟨c4, rfl⟩ : ∃ c4, c4 = c := ⟨_, rfl⟩
   obtain ⟨a4, rfl⟩ : ∃ a4, a4 = a := ⟨_, rfl⟩
   clear hs hc hi hR hne HA HK
   exact sc_fin_and
  ·cases hif : isP T e [wAnd] q with
   | false =>
    have HIF := Aside0.mk hif
    have HFin : Aside0 (CdQ R (finC 5 acc) (q : Int) 0 0) := ⟨by
     rw [hR, show kidsL T e one wAnd f acc q = .ok (acc, q) from by
      cases f with
      | zero => rfl
      | succ f => rw [kidsL, hif]; rfl]
     exact finC_ok⟩
    clear hif
    go_wp2_with fail
    refine (r_take0 (T := T) (e := e) wAnd q HT.out HA.out.i HA.out.b HIF.out).mono ?_
    rintro ed w4 ⟨rfl, hs⟩
    dsimp only
    obtain ⟨i4, hi4⟩ : ∃ i4, i4 = (q : Int) := ⟨_, rfl⟩
    obtain ⟨c4, hc4⟩ : ∃ c4, c4 = (0 : Int) := ⟨_, rfl⟩
    obtain ⟨a4, ha4⟩ : ∃ a4, a4 = (0 : Int) := ⟨_, rfl⟩
    have HA4 : Aside0 (At w0 W w4 g T i4 e c4 a4) := ⟨by rw [hi4, hc4, ha4]; exact HA.out.step hs⟩
    replace HFin : Aside0 (CdQ R (finC 5 acc) i4 c4 a4) := ⟨by rw [hi4, hc4, ha4]; exact HFin.out⟩
    have hk4 := hs.2.2
    clear hs hR hne HA HK hf hgk hal hi4 hc4 ha4 HIF
    exact sc_fin_and
   | true =>
    have HIF := Aside0.mk hif
    have HQT : Aside0 (q < T.length) := ⟨isP_lt hif⟩
    obtain ⟨f', rfl⟩ : ∃ f', f = f' + 1 := ⟨f - 1, by have := HQT.out; omega⟩
    have HRR : Aside0 (R = kidsR 5 (kidsK T e one wAnd f' acc (one (q + 1)))) := ⟨by rw [hR, kidsL_succ, hif, if_pos rfl]⟩
    have HB : Aside0 (T.length ≤ f' + q ∧ T.length - q ≤ gk ∧ acc.length ≤ q + 1) := ⟨⟨by omega, hgk, hal⟩⟩
    clear hif hR hne HK hf hgk hal
    go_wp2_with fail
    refine (r_take1 (T := T) (e := e) wAnd q HT.out HA.out.i HA.out.b HIF.out).mono ?_
    rintro ed w4 ⟨rfl, hs⟩
    dsimp only
    have HA4 := Aside0.mk (HA.out.step hs)
    have HX4 : Aside0 (w4.heap[gr]? = some (.cells #[.int .i64 0, .string ⟨#[]⟩, .string ⟨#[]⟩, .slice none 0 0] 39 (0, 0))) := ⟨blk_keep HX.out hs.2.2 HG.out.1⟩
    have HL4 : Aside0 (Kd.N k39 39 w4 w0.heap.size (fun k => gr < k) u5 acc) := ⟨Kd.N_keep HL.out hs.2.2 (fun k hk => by have := HG.out; omega)⟩
    have h6 := HO.out (q + 1) w4 HA4.out.i HA4.out.b
    obtain ⟨r6, hr6⟩ : ∃ r6, r6 = one (q + 1) := ⟨_, rfl⟩
    rw [← hr6] at h6 HRR
    have H6 := Aside0.mk h6
    have HR6 := Aside0.mk hr6
    clear hs h6 hr6 HA HX HL
    go_wp2_with fail
    refine H6.out.mono ?_
    rintro ed w6 ⟨s6, i6, c6, a6, v6, hq6, rfl, hv6, hs6⟩
    unfold cdcells
    dsimp only
    have HQ6 := Aside0.mk hq6
    have HA6 := Aside0.mk (HA4.out.step hs6)
    have HX6 : Aside0 (w6.heap[gr]? = some (.cells #[.int .i64 0, .string ⟨#[]⟩, .string ⟨#[]⟩, .slice none 0 0] 39 (0, 0))) := ⟨blk_keep HX4.out hs6.2.2 HG.out.1⟩
    have HL6 : Aside0 (Kd.N k39 39 w6 w0.heap.size (fun k => gr < k) u5 acc) := ⟨Kd.N_keep HL4.out hs6.2.2 (fun k hk => by have := HG.out; omega)⟩
    have HF6 : Aside0 (Kd.FK k39 w6 (fun k => w4.heap.size ≤ k) s6 [.int .i64 s6.f0, .string s6.f1.f0, .string s6.f1.f1, v6]) := ⟨cd_mkF (Kd.V_lower hv6 (Nat.zero_le _))⟩
    have HOK6 : Aside0 (∀ k, w4.heap.size ≤ k → gr < k ∧ some k ≠ (u5 : Value).ownBlock) := ⟨fun k hk => ⟨by have := blk_lt HX4.out; omega, fun he => by have := Kd.N_lt HL4.out _ he.symm; omega⟩⟩
    have HSW6 : Aside0 (∀ k, w6.heap.size ≤ k → gr < k) := ⟨fun k hk => by have := blk_lt HX6.out; omega⟩
    have hal : acc.length ≤ 1000001 := by have := HB.out.2.2; have := HT.out; have := HQT.out; omega
    clear hq6 hv6 hs6 HA4 HX4 H6
    go_wp2_with (at_builtin; refine Kd.N_append k39 (w0 := w0) w0.heap.size rfl (.tmp 12) (.tmp 16) 37 39 (.agg #[.int .i64 0, .string ⟨#[]⟩, .string ⟨#[]⟩, .slice none 0 0]) 64 rfl Tryd.underlying37 info_cd rfl (by decide) (by decide) u5 acc s6 [.int .i64 s6.f0, .string s6.f1.f0, .string s6.f1.f1, v6] (fun k => gr < k) (fun k => w4.heap.size ≤ k) rfl rfl HF6.out HOK6.out HSW6.out HL6.out HA6.out.b HA6.out.b.size (by omega) ?_)
    intro v7 w7 hN7 hB7 hG7 hat7
    have h0 : ∀ k, (u5 : Value).ownBlock = some k → gr < k := HL6.out.1
    have HA7 : Aside0 (At w0 W w7 g T i6 e c6 a6) := ⟨HA6.out.grown hG7 (fun he => by have := h0 g he.symm; have := HG.out; omega) hB7 (by
     cases hu : (u5 : Value).ownBlock with
     | none => exact .inl rfl
     | some b => exact .inr ⟨b, rfl, by have := h0 b hu; have := HG.out; omega⟩)⟩
    have HX7 : Aside0 (w7.heap[gr]? = some (.cells #[.int .i64 0, .string ⟨#[]⟩, .string ⟨#[]⟩, .slice none 0 0] 39 (0, 0))) := ⟨blk_grown HX6.out hG7 (fun he => by have := h0 gr he.symm; omega)⟩
    have HN7 := Aside0.mk hN7
    have HK7 : Aside0 (KSit T e 5 wAnd one R (T.length - q - 1) (acc ++ [s6]) i6 c6 a6) := ⟨by
     refine ⟨by simp, ?_⟩
     have hq := HQ6.out
     cases hr : r6 with
     | error x =>
      obtain ⟨x, y⟩ := x
      rw [hr] at hq
      obtain ⟨hx, hi, rfl, rfl⟩ := hq
      exact .inl ⟨hx, hi, by rw [HRR.out, hr]; rfl⟩
     | ok x =>
      obtain ⟨s', q2⟩ := x
      rw [hr] at hq
      obtain ⟨rfl, rfl, rfl, rfl⟩ := hq
      have hq2 := HMO.out (q + 1) s6 q2 (HR6.out.symm.trans hr)
      have := HB.out
      exact .inr ⟨f', q2, rfl, rfl, rfl, by rw [HRR.out, hr]; rfl, by omega, by omega, by rw [List.length_append, List.length_singleton]; omega⟩⟩
    clear hN7 hB7 hG7 hat7 h0 HA6 HX6 HL6 HF6 hal
    go_wp2
    go_roundg (T.length - q - 1)
    case measure => have := HB.out; have := HQT.out; omega
    case rel => exact ⟨acc ++ [s6], i6, c6, a6, HA7, HX7, HN7, HK7⟩
theorem sc_fin_or {p_ : Prop} (h_ : p_ := by
 have HX4 : Aside0 (w4.heap[gr]? = some (.cells #[.int .i64 0, .string ⟨#[]⟩, .string ⟨#[]⟩, .slice none 0 0] 39 (0, 0))) := ⟨blk_keep HX.out hk4 HG.out.1⟩
 have HL4 : Aside0 (Kd.N k39 39 w4 w0.heap.size (fun k => gr < k) u5 acc) := ⟨Kd.N_keep HL.out hk4 (fun k hk => by have := HG.out; omega)⟩
 clear hk4 HL HX
 by_cases hlen : acc.length = 1
 ·exact sAt7_1
 ·obtain ⟨A9, c9, e9⟩ := Kd.N_slice HL4.out
  obtain ⟨n9, hn9⟩ : ∃ n9, n9 = acc.length := ⟨_, rfl⟩
  have HFN : Aside0 (CdQ R (cond0 6 acc) i4 c4 a4) := ⟨by have := HFin.out; rwa [finC, if_neg hlen] at this⟩
  rw [← hn9] at e9 hlen
  subst e9
  have l1 : ((n9 : Int) == 1) = false := by simp; omega
  have HV4 := Aside0.mk (Kd.N_V (base' := 0) HL4.out)
  clear hlen hn9 HFin
  go_wp2_with (refine wpList_store_row rfl 39 _ _ rfl gr (cdcells (cond0 6 acc) (.slice A9 n9 c9)) rfl rfl 39 _ HX4.out size_cd rfl (cd_one _ _ rfl) ?_)
  exact bodyPost_ret (cond_ret rfl rfl (setRow_heap _ _ _ _ _ _ HX4.out)) rfl ⟨cond0 6 acc, i4, c4, a4, _, HFN.out, rfl, V_out HV4.out HG.out.2.2.1 _, (HA4.out.setRow HG.out.1 HG.out.2.1 (Nat.le_of_eq HG.out.2.2.1) _).to⟩) : p_ := h_
theorem ror_calls (w0 W : World) (g : Nat) (T : List Tk) (e : Int) (d : Int) (hT : T.length ≤ 1000000) {one : Nat → Res Cd} (hone : ∀ (q : Nat) (W2 : World), IsR w0 W2 g T (q : Int) e 0 0 → Below w0.heap.size w0 W2 → Calls Tryd.prog 44 #[.pointer (some ⟨g, 0, none⟩), .int .i64 d] W2 (CondQ w0 W2 g T e (one q)))
  (hmono : ∀ q c r, one q = .ok (c, r) → q ≤ r) (p : Nat) (h : IsR w0 W g T (p : Int) e 0 0) (hB : Below w0.heap.size w0 W) :
  Calls Tryd.prog 31 #[.pointer (some ⟨g, 0, none⟩), .int .i64 d] W (CondQ w0 W g T e (kidsP T e 6 wOr one p)) := by
 have HT := Aside0.mk hT
 have HO := Aside0.mk hone
 have HMO := Aside0.mk hmono
 obtain ⟨gr, hgr⟩ : ∃ gr, gr = W.heap.size := ⟨_, rfl⟩
 have HA1 : Aside0 (At w0 W (W.alloc (.cells #[.int .i64 0, .string ⟨#[]⟩, .string ⟨#[]⟩, .slice none 0 0] 39)) g T (p : Int) e 0 0) := ⟨(At.start h hB).alloc _⟩
 have HX1 : Aside0 ((W.alloc (.cells #[.int .i64 0, .string ⟨#[]⟩, .string ⟨#[]⟩, .slice none 0 0] 39)).heap[gr]? = some (.cells #[.int .i64 0, .string ⟨#[]⟩, .string ⟨#[]⟩, .slice none 0 0] 39 (0, 0))) := ⟨by rw [hgr]; exact blk_new _ _⟩
 have HG : Aside0 (gr ≠ g ∧ w0.heap.size ≤ gr ∧ W.heap.size = gr ∧ g < gr) := ⟨by have := IsS66.lt h; have := hB.size; omega⟩
 obtain ⟨R, hR⟩ : ∃ R, R = kidsP T e 6 wOr one p := ⟨_, rfl⟩
 rw [← hR]
 have HR0 : Aside0 (R = kidsR 6 (kids1 T e one wOr (one p))) := ⟨by rw [hR, kidsP_eq]⟩
 clear hR h hB hT hone hmono
 go_enter Tryd.func31, Tryd.ntmps31
 go_upto_region 1 with (fail)
 obtain ⟨w1, hw1⟩ : ∃ w1, w1 = W.alloc (.cells #[.int .i64 0, .string ⟨#[]⟩, .string ⟨#[]⟩, .slice none 0 0] 39) := ⟨_, rfl⟩
 rw [← hw1] at HA1 HX1
 rw [← hw1, ← hgr]
 clear hw1 hgr
 have h2 := HO.out p w1 HA1.out.i HA1.out.b
 obtain ⟨r2, hr2⟩ : ∃ r2, r2 = one p := ⟨_, rfl⟩
 rw [← hr2] at h2 HR0
 have H2 := Aside0.mk h2
 have HR2 := Aside0.mk hr2
 clear h2 hr2
 go_wp2_with fail
 refine H2.out.mono ?_
 rintro ed w2 ⟨s2, i2, c2, a2, v2, hq2, rfl, hv2, hs2⟩
 unfold cdcells
 dsimp only
 have HQ2 := Aside0.mk hq2
 have HA2 := Aside0.mk (HA1.out.step hs2)
 have HX2 : Aside0 (w2.heap[gr]? = some (.cells #[.int .i64 0, .string ⟨#[]⟩, .string ⟨#[]⟩, .slice none 0 0] 39 (0, 0))) := ⟨blk_keep HX1.out hs2.2.2 HG.out.1⟩
 have HZ1 : Aside0 (gr < w1.heap.size) := ⟨blk_lt HX1.out⟩
 have HZ2 : Aside0 (gr < w2.heap.size) := ⟨blk_lt HX2.out⟩
 have HF2 : Aside0 (Kd.FK k39 w2 (fun k => gr < k) s2 [.int .i64 s2.f0, .string s2.f1.f0, .string s2.f1.f1, v2]) := ⟨cd_mkF (Kd.V_lower (Kd.V_mono hv2 (fun k hk => by have := HZ1.out; omega)) (Nat.zero_le _))⟩
 clear hq2 hv2 hs2 HA1 HX1 H2
 have HN3 : Aside0 (Kd.N k39 39 (w2.alloc (.cells #[.int .i64 s2.f0, .string s2.f1.f0, .string s2.f1.f1, v2] 39)) w0.heap.size (fun k => gr < k) (.slice (some ⟨w2.heap.size, 0, none⟩) 1 1) [s2]) := ⟨row_oneN w2 w0.heap.size s2 v2 _ _ HF2.out (fun _ hk => hk) HZ2.out HA2.out.b.size⟩
 go_wp2_with fail
 obtain ⟨w3, hw3⟩ : ∃ w3, w3 = w2.alloc (.cells #[.int .i64 s2.f0, .string s2.f1.f0, .string s2.f1.f1, v2] 39) := ⟨_, rfl⟩
 rw [← hw3] at HN3
 rw [← hw3]
 have HA3 : Aside0 (At w0 W w3 g T i2 e c2 a2) := ⟨by rw [hw3]; exact HA2.out.alloc _⟩
 have HX3 : Aside0 (w3.heap[gr]? = some (.cells #[.int .i64 0, .string ⟨#[]⟩, .string ⟨#[]⟩, .slice none 0 0] 39 (0, 0))) := ⟨by rw [hw3]; exact blk_alloc HX2.out _⟩
 have HK3 : Aside0 (KSit T e 6 wOr one R (T.length + 1) [s2] i2 c2 a2) := ⟨by
  refine ⟨by simp, ?_⟩
  have hq := HQ2.out
  cases hr : r2 with
  | error x =>
   obtain ⟨x, y⟩ := x
   rw [hr] at hq
   obtain ⟨hx, hi, rfl, rfl⟩ := hq
   exact .inl ⟨hx, hi, by rw [HR0.out, hr]; rfl⟩
  | ok x =>
   obtain ⟨s', q⟩ := x
   rw [hr] at hq
   obtain ⟨rfl, rfl, rfl, rfl⟩ := hq
   exact .inr ⟨T.length + 1 - q, q, rfl, rfl, rfl, by rw [HR0.out, hr]; rfl, Nat.le_refl _, by omega, by simp⟩⟩
 have HZ : Aside0 (gr < w1.heap.size) := HZ1
 clear hw3 HA2 HX2 HF2 HQ2 HR0 HR2 HZ2 HZ1
 go_loopg [5] (T.length + 1) (fun gk v5 wr => ∃ (acc : List Cd) (i c a : Int), Aside0 (At w0 W wr g T i e c a) ∧ Aside0 (wr.heap[gr]? = some (.cells #[.int .i64 0, .string ⟨#[]⟩, .string ⟨#[]⟩, .slice none 0 0] 39 (0, 0))) ∧ Aside0 (Kd.N k39 39 wr w0.heap.size (fun k => gr < k) v5 acc) ∧ Aside0 (KSit T e 6 wOr one R gk acc i c a))
 case atStart => exact ⟨[s2], i2, c2, a2, HA3, HX3, HN3, HK3⟩
 case round =>
  clear HA3 HX3 HN3 HK3
  obtain ⟨acc, i, c, a, HA, HX, HL, HK⟩ := hrel
  obtain ⟨hne, hk⟩ := HK.out
  rcases hk with ⟨hc, hi, hR⟩ | ⟨f, q, rfl, rfl, rfl, hR, hf, hgk, hal⟩
  ·have HFin : Aside0 (CdQ R (finC 6 acc) i c a) := ⟨by rw [hR]; exact ⟨hc, hi, rfl, rfl⟩⟩
   go_wp2_with fail
   refine (r_take_bad (T := T) (e := e) wOr hi hc HA.out.i HA.out.b).mono ?_
   rintro ed w4 ⟨rfl, hs⟩
   dsimp only
   have HA4 := Aside0.mk (HA.out.step hs)
   have hk4 := hs.2.2
   obtain ⟨i4, rfl⟩ : ∃ i4, i4 = i := ⟨_, rfl⟩
   obtain ⟨c4, rfl⟩ : ∃ c4, c4 = c := ⟨_, rfl⟩
   obtain ⟨a4, rfl⟩ : ∃ a4, a4 = a := ⟨_, rfl⟩
   clear hs hc hi hR hne HA HK
   exact sc_fin_or
  ·cases hif : isP T e [wOr] q with
   | false =>
    have HIF := Aside0.mk hif
    have HFin : Aside0 (CdQ R (finC 6 acc) (q : Int) 0 0) := ⟨by
     rw [hR, show kidsL T e one wOr f acc q = .ok (acc, q) from by
      cases f with
      | zero => rfl
      | succ f => rw [kidsL, hif]; rfl]
     exact finC_ok⟩
    clear hif
    go_wp2_with fail
    refine (r_take0 (T := T) (e := e) wOr q HT.out HA.out.i HA.out.b HIF.out).mono ?_
    rintro ed w4 ⟨rfl, hs⟩
    dsimp only
    obtain ⟨i4, hi4⟩ : ∃ i4, i4 = (q : Int) := ⟨_, rfl⟩
    obtain ⟨c4, hc4⟩ : ∃ c4, c4 = (0 : Int) := ⟨_, rfl⟩
    obtain ⟨a4, ha4⟩ : ∃ a4, a4 = (0 : Int) := ⟨_, rfl⟩
    have HA4 : Aside0 (At w0 W w4 g T i4 e c4 a4) := ⟨by rw [hi4, hc4, ha4]; exact HA.out.step hs⟩
    replace HFin : Aside0 (CdQ R (finC 6 acc) i4 c4 a4) := ⟨by rw [hi4, hc4, ha4]; exact HFin.out⟩
    have hk4 := hs.2.2
    clear hs hR hne HA HK hf hgk hal hi4 hc4 ha4 HIF
    exact sc_fin_or
   | true =>
    have HIF := Aside0.mk hif
    have HQT : Aside0 (q < T.length) := ⟨isP_lt hif⟩
    obtain ⟨f', rfl⟩ : ∃ f', f = f' + 1 := ⟨f - 1, by have := HQT.out; omega⟩
    have HRR : Aside0 (R = kidsR 6 (kidsK T e one wOr f' acc (one (q + 1)))) := ⟨by rw [hR, kidsL_succ, hif, if_pos rfl]⟩
    have HB : Aside0 (T.length ≤ f' + q ∧ T.length - q ≤ gk ∧ acc.length ≤ q + 1) := ⟨⟨by omega, hgk, hal⟩⟩
    clear hif hR hne HK hf hgk hal
    go_wp2_with fail
    refine (r_take1 (T := T) (e := e) wOr q HT.out HA.out.i HA.out.b HIF.out).mono ?_
    rintro ed w4 ⟨rfl, hs⟩
    dsimp only
    have HA4 := Aside0.mk (HA.out.step hs)
    have HX4 : Aside0 (w4.heap[gr]? = some (.cells #[.int .i64 0, .string ⟨#[]⟩, .string ⟨#[]⟩, .slice none 0 0] 39 (0, 0))) := ⟨blk_keep HX.out hs.2.2 HG.out.1⟩
    have HL4 : Aside0 (Kd.N k39 39 w4 w0.heap.size (fun k => gr < k) u5 acc) := ⟨Kd.N_keep HL.out hs.2.2 (fun k hk => by have := HG.out; omega)⟩
    have h6 := HO.out (q + 1) w4 HA4.out.i HA4.out.b
    obtain ⟨r6, hr6⟩ : ∃ r6, r6 = one (q + 1) := ⟨_, rfl⟩
    rw [← hr6] at h6 HRR
    have H6 := Aside0.mk h6
    have HR6 := Aside0.mk hr6
    clear hs h6 hr6 HA HX HL
    go_wp2_with fail
    refine H6.out.mono ?_
    rintro ed w6 ⟨s6, i6, c6, a6, v6, hq6, rfl, hv6, hs6⟩
    unfold cdcells
    dsimp only
    have HQ6 := Aside0.mk hq6
    have HA6 := Aside0.mk (HA4.out.step hs6)
    have HX6 : Aside0 (w6.heap[gr]? = some (.cells #[.int .i64 0, .string ⟨#[]⟩, .string ⟨#[]⟩, .slice none 0 0] 39 (0, 0))) := ⟨blk_keep HX4.out hs6.2.2 HG.out.1⟩
    have HL6 : Aside0 (Kd.N k39 39 w6 w0.heap.size (fun k => gr < k) u5 acc) := ⟨Kd.N_keep HL4.out hs6.2.2 (fun k hk => by have := HG.out; omega)⟩
    have HF6 : Aside0 (Kd.FK k39 w6 (fun k => w4.heap.size ≤ k) s6 [.int .i64 s6.f0, .string s6.f1.f0, .string s6.f1.f1, v6]) := ⟨cd_mkF (Kd.V_lower hv6 (Nat.zero_le _))⟩
    have HOK6 : Aside0 (∀ k, w4.heap.size ≤ k → gr < k ∧ some k ≠ (u5 : Value).ownBlock) := ⟨fun k hk => ⟨by have := blk_lt HX4.out; omega, fun he => by have := Kd.N_lt HL4.out _ he.symm; omega⟩⟩
    have HSW6 : Aside0 (∀ k, w6.heap.size ≤ k → gr < k) := ⟨fun k hk => by have := blk_lt HX6.out; omega⟩
    have hal : acc.length ≤ 1000001 := by have := HB.out.2.2; have := HT.out; have := HQT.out; omega
    clear hq6 hv6 hs6 HA4 HX4 H6
    go_wp2_with (at_builtin; refine Kd.N_append k39 (w0 := w0) w0.heap.size rfl (.tmp 12) (.tmp 16) 37 39 (.agg #[.int .i64 0, .string ⟨#[]⟩, .string ⟨#[]⟩, .slice none 0 0]) 64 rfl Tryd.underlying37 info_cd rfl (by decide) (by decide) u5 acc s6 [.int .i64 s6.f0, .string s6.f1.f0, .string s6.f1.f1, v6] (fun k => gr < k) (fun k => w4.heap.size ≤ k) rfl rfl HF6.out HOK6.out HSW6.out HL6.out HA6.out.b HA6.out.b.size (by omega) ?_)
    intro v7 w7 hN7 hB7 hG7 hat7
    have h0 : ∀ k, (u5 : Value).ownBlock = some k → gr < k := HL6.out.1
    have HA7 : Aside0 (At w0 W w7 g T i6 e c6 a6) := ⟨HA6.out.grown hG7 (fun he => by have := h0 g he.symm; have := HG.out; omega) hB7 (by
     cases hu : (u5 : Value).ownBlock with
     | none => exact .inl rfl
     | some b => exact .inr ⟨b, rfl, by have := h0 b hu; have := HG.out; omega⟩)⟩
    have HX7 : Aside0 (w7.heap[gr]? = some (.cells #[.int .i64 0, .string ⟨#[]⟩, .string ⟨#[]⟩, .slice none 0 0] 39 (0, 0))) := ⟨blk_grown HX6.out hG7 (fun he => by have := h0 gr he.symm; omega)⟩
    have HN7 := Aside0.mk hN7
    have HK7 : Aside0 (KSit T e 6 wOr one R (T.length - q - 1) (acc ++ [s6]) i6 c6 a6) := ⟨by
     refine ⟨by simp, ?_⟩
     have hq := HQ6.out
     cases hr : r6 with
     | error x =>
      obtain ⟨x, y⟩ := x
      rw [hr] at hq
      obtain ⟨hx, hi, rfl, rfl⟩ := hq
      exact .inl ⟨hx, hi, by rw [HRR.out, hr]; rfl⟩
     | ok x =>
      obtain ⟨s', q2⟩ := x
      rw [hr] at hq
      obtain ⟨rfl, rfl, rfl, rfl⟩ := hq
      have hq2 := HMO.out (q + 1) s6 q2 (HR6.out.symm.trans hr)
      have := HB.out
      exact .inr ⟨f', q2, rfl, rfl, rfl, by rw [HRR.out, hr]; rfl, by omega, by omega, by rw [List.length_append, List.length_singleton]; omega⟩⟩
    clear hN7 hB7 hG7 hat7 h0 HA6 HX6 HL6 HF6 hal
    go_wp2
    go_roundg (T.length - q - 1)
    case measure => have := HB.out; have := HQT.out; omega
    case rel => exact ⟨acc ++ [s6], i6, c6, a6, HA7, HX7, HN7, HK7⟩
end Go.Proofs.YtdlahgamdigkhaaDoor.Pu
namespace Go.Proofs.YtdlahgamdigkhaaDoor.Sn
open Go.RowKit Go.Maps Go.Proofs.YtdlahgamdigkhaaDoor.Pr Go.Proofs.YtdlahgamdigkhaaDoorW.PrintWords Go.Proofs.YtdlahgamdigkhaaDoorW.PrintLast Go.Proofs.YtdlahgamdigkhaaDoorW.PrintMore Go.Proofs.YtdlahgamdigkhaaDoor.Mp
open Go.Proofs.YtdlahgamdigkhaaDoor.Ps hiding Tk
open Go.Proofs.YtdlahgamdigkhaaDoor.Pu (sizeC sizeL sizeC_eq sizeL_len size_mem row_oneN)
theorem atFR {w : World} {X : Nat → Prop} {A : Option Addr} {n : Nat} {xs : List Rl} (h : Kd.F k41 w X A n xs) (i : Int) (h0 : 0 ≤ i) (h1 : i < n) : ∃ ad A4 c4, A = some ad ∧ w.cell? (ad.add (i.toNat * 5)) = some (.bool (rd_T41 xs i).f0) ∧ w.cell? ⟨(ad.add (i.toNat * 5)).block, (ad.add (i.toNat * 5)).off + 1, none⟩ = some (.int .i64 (rd_T41 xs i).f1.f0) ∧ w.cell? ⟨(ad.add (i.toNat * 5)).block, (ad.add (i.toNat * 5)).off + 2, none⟩ = some (.string (rd_T41 xs i).f1.f1.f0) ∧ w.cell? ⟨(ad.add (i.toNat * 5)).block, (ad.add (i.toNat * 5)).off + 3, none⟩ = some (.string (rd_T41 xs i).f1.f1.f1) ∧ w.cell? ⟨(ad.add (i.toNat * 5)).block, (ad.add (i.toNat * 5)).off + 4, none⟩ = some (.slice A4 (rd_T41 xs i).f1.f2.length c4) ∧ (rd_T41 xs i).f1.f2.length ≤ c4 ∧ Kd.F k39 w X A4 (rd_T41 xs i).f1.f2.length (rd_T41 xs i).f1.f2 := by
 obtain ⟨ad, c, e, _, hK, hc0, _⟩ := Kd.F_get h z41 i h0 h1
 have hc : ∀ j u, c[j]? = some u → w.cell? (ad.add (i.toNat * 5 + j)) = some u := hc0
 obtain ⟨A4, c4, rfl, l4, g4⟩ := k41_openF hK
 exact ⟨ad, A4, c4, e, hc 0 _ rfl, by rw [← add_field _ _ 1 (by omega)]; exact hc 1 _ rfl, by rw [← add_field _ _ 2 (by omega)]; exact hc 2 _ rfl, by rw [← add_field _ _ 3 (by omega)]; exact hc 3 _ rfl, by rw [← add_field _ _ 4 (by omega)]; exact hc 4 _ rfl, l4, g4⟩
def polV (A0 A1 A3 : Option Addr) (n0 c0 n1 c1 n3 c3 : Nat) (m : ByteArray) (al : Bool) : Value := .agg #[.slice A0 n0 c0, .slice A1 n1 c1, .string m, .slice A3 n3 c3, .bool al]
def condsR (l : List Rl) : List Cd := l.map (·.f1)
theorem conds_take {l : List Rl} {i : Nat} (h : i < l.length) : condsR (l.take (i + 1)) = condsR (l.take i) ++ [l[i].f1] := by
 rw [condsR, List.take_add_one, List.getElem?_eq_getElem h, Option.toList_some, List.map_append]; rfl
theorem conds_split {l : List Rl} {i : Nat} (h : i < l.length) : condsR l = condsR (l.take i) ++ l[i].f1 :: condsR (l.drop (i + 1)) := by
 conv => lhs; rw [← List.take_append_drop i l, List.drop_eq_getElem_cons h]
 rw [condsR, List.map_append, List.map_cons]; rfl
theorem ret_slice {fn : Func} {p : Tmp} (h : fn.results = #[.cell p 30]) (tmps : Array Value) (w : World) (g : Nat) (v : Value)
  (hp : tmps.getD p undef = .pointer (some ⟨g, 0, none⟩)) (hc : w.cell? ⟨g, 0, none⟩ = some v) : (results fn tmps).run Tryd.prog w = .ok v w := by
 have hp' : tmps[p]?.getD undef = .pointer (some ⟨g, 0, none⟩) := by simpa using hp
 have hag : (isAgg 30).run Tryd.prog w = .ok false w := by
  unfold isAgg
  rw [Sem.run_bind, run_underlying Tryd.underlying30 w]
  simp
 simp [results, h, hp', asAddr, loadVar, Sem.run_bind, hag, hc]
theorem atoms_one (c : Cd) : atomsL [c] = atomsC c := by rw [atomsL, atomsL, List.append_nil]
theorem size_rl : (Tryd.prog.info? 41).map (·.size) = some 5 := by kernel_rfl
set_option maxHeartbeats 16000000
set_option maxRecDepth 100000
theorem atoms_calls (A0 A1 A3 : Option Addr) (n0 c0 n1 c1 n3 c3 : Nat) (m : ByteArray) (al : Bool) (rules : List Rl) (w : World) (hF : Kd.F k41 w (fun _ => True) A3 rules.length rules) (hn : n3 = rules.length) (hz : sizeL (condsR rules) ≤ 900000) (hs : SzA (atomsL (condsR rules))) :
  Calls Tryd.prog 9 #[polV A0 A1 A3 n0 c0 n1 c1 n3 c3 m al] w fun e w' => ∃ v, e = .returned v ∧ k33.R 33 w' w.heap.size (fun _ => True) v (atomsP rules) ∧ Below w.heap.size w w' := by
 unfold polV
 have HF := Aside0.mk hF
 have HN := Aside0.mk hn
 have HZ := Aside0.mk hz
 have HSZ := Aside0.mk hs
 obtain ⟨B, hB⟩ : ∃ B, B = w.heap.size := ⟨_, rfl⟩
 obtain ⟨w3, hw3⟩ : ∃ w3, w3 = ((((w.alloc (.cells #[.slice A0 n0 c0, .slice A1 n1 c1, .string m, .slice A3 n3 c3, .bool al] 26)).alloc (.cells #[.slice none 0 0] 30)).alloc (.map #[] 0)).alloc (.cells #[.map (some (w.heap.size + 1 + 1))] 53)) := ⟨_, rfl⟩
 have hS3 : AtS B (fun k => k < B) w3 (B + 1 + 1 + 1) (B + 1) (B + 1 + 1) [] 0 ∧ Below B w w3 ∧ w3.heap[B]? = some (.cells #[.slice A0 n0 c0, .slice A1 n1 c1, .string m, .slice A3 n3 c3, .bool al] 26 (0, 0)) := by
  obtain ⟨u1, hu1⟩ : ∃ u1, u1 = w.alloc (.cells #[.slice A0 n0 c0, .slice A1 n1 c1, .string m, .slice A3 n3 c3, .bool al] 26) := ⟨_, rfl⟩
  have s1 : u1.heap.size = B + 1 := by rw [hu1, hB]; exact Array.size_push _
  have x1 : u1.heap[B]? = some (.cells #[.slice A0 n0 c0, .slice A1 n1 c1, .string m, .slice A3 n3 c3, .bool al] 26 (0, 0)) := by rw [hu1, hB]; exact blk_new _ _
  have b1 : Below B w u1 := by rw [hu1]; exact (Below.refl B w).alloc (by omega) _
  rw [← hu1] at hw3
  obtain ⟨u2, hu2⟩ : ∃ u2, u2 = u1.alloc (.cells #[.slice none 0 0] 30) := ⟨_, rfl⟩
  have s2 : u2.heap.size = B + 1 + 1 := by rw [hu2, ← s1]; exact Array.size_push _
  have b2 : Below u1.heap.size u1 u2 := by rw [hu2]; exact below_alloc (Below.refl _ _) _
  have x2 : u2.heap[B + 1]? = some (.cells #[.slice none 0 0] 30 (0, 0)) := by rw [hu2, ← s1]; exact blk_new _ _
  rw [← hu2] at hw3
  obtain ⟨u3, hu3⟩ : ∃ u3, u3 = u2.alloc (.map #[] 0) := ⟨_, rfl⟩
  have s3 : u3.heap.size = B + 1 + 1 + 1 := by rw [hu3, ← s2]; exact Array.size_push _
  have b3 : Below u2.heap.size u2 u3 := by rw [hu3]; exact below_alloc (Below.refl _ _) _
  have x3 : MapO 33 encA u3 (B + 1 + 1) 0 (fun _ => none) 0 := by rw [hu3, ← s2]; exact MapO.made _ _ _
  rw [← hu3, ← hB] at hw3
  have s4 : w3.heap.size = B + 1 + 1 + 1 + 1 := by rw [hw3, ← s3]; exact Array.size_push _
  have b4 : Below u3.heap.size u3 w3 := by rw [hw3]; exact below_alloc (Below.refl _ _) _
  have x4 : w3.heap[B + 1 + 1 + 1]? = some (.cells #[.map (some (B + 1 + 1))] 53 (0, 0)) := by rw [hw3]; rw [← s3]; exact blk_new _ _
  refine ⟨{ met := x4, out := ⟨_, blk_below (blk_below x2 b3) b4, Kd.R_nil _ _ _ _ _⟩, map := ⟨_, _, x3.below b4, fun a ha => (by cases ha), fun _ _ => rfl⟩, n1 := by omega, n2 := by omega, n3 := by omega, l1 := by omega, l2 := by omega, l3 := by omega, len := Nat.le_refl _, x1 := by omega, x2 := by omega, x3 := by omega, xl := fun k hk => by omega }, ?_, ?_⟩
  ·exact b1.trans ((b2.trans ((b3.trans (b4.mono (by omega))).mono (by omega))).mono (by omega))
  ·exact blk_below (blk_below (blk_below x1 b2) b3) b4
 have HS3 := Aside0.mk hS3.1
 have HB3 := Aside0.mk hS3.2.1
 have HX3 := Aside0.mk hS3.2.2
 have HBB := Aside0.mk hB
 have HW3 := Aside0.mk hw3
 have t3 : w3.cell? ⟨w.heap.size, 3, none⟩ = some (.slice A3 n3 c3) := by rw [← hB]; exact blk_cell hS3.2.2 3
 clear hS3 hw3 hB
 have hmm := @run_makeMap Tryd.prog
 have hmf := hmf
 clear hF hn hz hs
 go_enter Tryd.func9, Tryd.ntmps9
 go_upto_region 2 with (fail)
 rw [← HW3.out]
 clear hmm
 go_wp2
 rw [← HBB.out]
 clear t3
 go_loopg [10] rules.length (fun gk v10 wr => ∃ (i : Nat), v10 = .int .i64 i ∧ Aside0 (i ≤ rules.length) ∧ Aside0 (rules.length - i ≤ gk) ∧ Aside0 (AtS B (fun k => k < B) wr (B + 1 + 1 + 1) (B + 1) (B + 1 + 1) ((atomsL (condsR (rules.take i))).foldl addA []) (atomsL (condsR (rules.take i))).length) ∧ Aside0 (Below B w wr))
 case atStart => exact ⟨0, rfl, ⟨Nat.zero_le _⟩, ⟨Nat.sub_le _ _⟩, HS3, HB3⟩
 case round =>
  clear HS3 HB3 HX3 HW3
  obtain ⟨i, rfl, HI, HGK, HR, HB⟩ := hrel
  by_cases hi : i < n3
  ·have l1 : decide (i < n3) = true := decide_eq_true hi
   have l2 : decide ((i : Int) < (n3 : Int)) = true := decide_eq_true (by omega)
   have l3 : (i : Int) < (n3 : Int) := by omega
   have HIL : Aside0 (i < rules.length) := ⟨by rw [← HN.out]; exact hi⟩
   have hle : rules.length ≤ 1000000 := by
    have h1 := sizeL_len (condsR rules)
    rw [condsR, List.length_map] at h1
    have := HZ.out
    rw [condsR] at this
    omega
   have hib : (i : Int) ≤ 1000000 := by have := HIL.out; omega
   have hFr : Kd.F k41 wr (fun k => k < B) A3 rules.length rules := Kd.F_mono (Kd.F_below (Kd.F_bound HF.out) (by rw [← HBB.out]; exact HB.out)) (fun k hk => by have := hk.2; rw [HBB.out]; exact this)
   obtain ⟨ad, A4, c4, hA, q0, q1, q2, q3, q4, hl4, hF4⟩ := atFR hFr (i : Int) (by omega) (by have := HIL.out; omega)
   have hA2 : A3 = some ad := hA
   subst hA2
   obtain ⟨x, hx⟩ : ∃ x, x = rd_T41 rules (i : Int) := ⟨_, rfl⟩
   have HX : Aside0 (x = rules[i]'HIL.out) := ⟨by rw [hx]; have := HIL.out; simp [rd_T41, this]⟩
   rw [← hx] at q0 q1 q2 q3 q4 hl4 hF4
   simp only [Int.toNat_natCast] at q0 q1 q2 q3 q4
   have hbl := World.block_lt_of_cell? wr _ q0
   obtain ⟨m4, hm⟩ : ∃ m4, m4 = x.f1.f2.length := ⟨_, rfl⟩
   obtain ⟨c, hc⟩ : ∃ c, c = x.f1 := ⟨_, rfl⟩
   rw [← hm] at q4
   rw [← hc] at q1 q2 q3 hl4 hF4 hm
   obtain ⟨wb, hwb⟩ : ∃ wb, wb = (wr.alloc (.cells #[.bool false, .int .i64 0, .string ⟨#[]⟩, .string ⟨#[]⟩, .slice none 0 0] 41)).setRow wr.heap.size #[.bool x.f0, .int .i64 c.f0, .string c.f1.f0, .string c.f1.f1, .slice A4 m4 c4] := ⟨_, rfl⟩
   have HBB2 : Aside0 (Below wr.heap.size wr wb) := ⟨by rw [hwb]; exact below_setRow (below_alloc (Below.refl _ _) _) (Nat.le_refl _) _⟩
   have HXX : Aside0 (wb.heap[wr.heap.size]? = some (.cells #[.bool x.f0, .int .i64 c.f0, .string c.f1.f0, .string c.f1.f1, .slice A4 m4 c4] 41 (0, 0))) := ⟨by rw [hwb]; exact setRow_heap _ _ _ _ _ _ (blk_new wr (.cells #[.bool false, .int .i64 0, .string ⟨#[]⟩, .string ⟨#[]⟩, .slice none 0 0] 41))⟩
   obtain ⟨wc, hwc⟩ : ∃ wc, wc = wb.alloc (.cells #[.int .i64 c.f0, .string c.f1.f0, .string c.f1.f1, .slice A4 m4 c4] 39) := ⟨_, rfl⟩
   have HBC : Aside0 (Below wb.heap.size wb wc) := ⟨by rw [hwc]; exact below_alloc (Below.refl _ _) _⟩
   have HS1 : Aside0 (AtS B (fun k => k < B) wb (B + 1 + 1 + 1) (B + 1) (B + 1 + 1) ((atomsL (condsR (rules.take i))).foldl addA []) (atomsL (condsR (rules.take i))).length) := ⟨HR.out.below HBB2.out⟩
   have HS2 : Aside0 (AtS B (fun k => k < B ∨ k = wb.heap.size) wc (B + 1 + 1 + 1) (B + 1) (B + 1 + 1) ((atomsL (condsR (rules.take i))).foldl addA []) (atomsL (condsR (rules.take i))).length) := ⟨HS1.out.more HBC.out (by rw [hwc]; exact Nat.lt_of_lt_of_le (Nat.lt_succ_self _) (Nat.le_of_eq (Array.size_push _).symm))⟩
   have HF5 : Aside0 (Kd.F k39 wc (fun k => k < B ∨ k = wb.heap.size) (some ⟨wb.heap.size, 0, none⟩) 1 [c]) := ⟨by
    have hFK : Kd.FK k39 wb (fun k => k < B) c [.int .i64 c.f0, .string c.f1.f0, .string c.f1.f1, .slice A4 m4 c4] := by
     rw [hm]
     exact k39_mkF wb _ c hl4 (Kd.F_below hF4 HBB2.out)
    have h := row_oneN wb 0 c (.slice A4 m4 c4) (fun k => k < B ∨ k = wb.heap.size) (fun k => k < B) hFK (fun k hk => .inl hk) (.inr rfl) (Nat.zero_le _)
    rw [hwc]
    exact Kd.V_F (Kd.N_V h (base' := 0))⟩
   have HLO : Aside0 (B ≤ wr.heap.size) := ⟨HR.out.lo_le⟩
   have HB2 : Aside0 (Below B w wc) := ⟨HB.out.trans ((HBB2.out.trans (HBC.out.mono HBB2.out.size)).mono HLO.out)⟩
   have hsp := conds_split HIL.out
   rw [← HX.out, ← hc] at hsp
   have hsz : SzA (atomsL [c]) := fun a ha => HSZ.out a (by
    rw [hsp, atomsL_app, atomsL]
    rw [atoms_one] at ha
    exact List.mem_append_right _ (List.mem_append_left _ ha))
   have hnn : (atomsL (condsR (rules.take i))).length + sizeL [c] ≤ 1000000 := by
    have h1 := (atoms_size _).2 (condsR (rules.take i)) (Nat.le_refl _)
    have h2 := HZ.out
    rw [hsp, size_app, sizeL] at h2
    rw [sizeL, sizeL]
    omega
   have H7 := Aside0.mk (walk_calls _ [c] (Nat.le_refl _) hsz B _ wc (B + 1 + 1 + 1) (B + 1) (B + 1 + 1) _ _ (some ⟨wb.heap.size, 0, none⟩) 1 1 HS2.out rfl HF5.out hnn)
   unfold fnA at H7
   have HTA : Aside0 (condsR (rules.take (i + 1)) = condsR (rules.take i) ++ [c]) := ⟨by rw [conds_take HIL.out, hc, HX.out]⟩
   have HWC := Aside0.mk hwc
   have HWB := Aside0.mk hwb
   have t0 : wb.cell? ⟨wr.heap.size, 0, none⟩ = some (.bool x.f0) := blk_cell HXX.out 0
   have t1 : wb.cell? ⟨wr.heap.size, 1, none⟩ = some (.int .i64 c.f0) := blk_cell HXX.out 1
   have t2 : wb.cell? ⟨wr.heap.size, 2, none⟩ = some (.string c.f1.f0) := blk_cell HXX.out 2
   have t3 : wb.cell? ⟨wr.heap.size, 3, none⟩ = some (.string c.f1.f1) := blk_cell HXX.out 3
   have t4 : wb.cell? ⟨wr.heap.size, 4, none⟩ = some (.slice A4 m4 c4) := blk_cell HXX.out 4
   clear hwc hwb hsp hsz hnn hFr hA hx hc hm hl4 hF4 hi HXX HBB2 HBC HS1 HS2 HF5 HR HB
   obtain ⟨xa, hxa⟩ : ∃ xa, xa = x.f0 := ⟨_, rfl⟩
   obtain ⟨x0, hx0⟩ : ∃ x0, x0 = c.f0 := ⟨_, rfl⟩
   obtain ⟨x1, hx1⟩ : ∃ x1, x1 = c.f1.f0 := ⟨_, rfl⟩
   obtain ⟨x2, hx2⟩ : ∃ x2, x2 = c.f1.f1 := ⟨_, rfl⟩
   rw [← hxa] at q0 t0 HWB
   rw [← hx0] at q1 t1 HWB HWC
   rw [← hx1] at q2 t2 HWB HWC
   rw [← hx2] at q3 t3 HWB HWC
   clear hxa hx0 hx1 hx2
   go_upto_region 5 with (refine wpList_store_row rfl 41 _ _ rfl wr.heap.size #[.bool xa, .int .i64 x0, .string x1, .string x2, .slice A4 m4 c4] rfl rfl 41 #[.bool false, .int .i64 0, .string ⟨#[]⟩, .string ⟨#[]⟩, .slice none 0 0] (blk_new _ _) size_rl rfl (by simp [Value.oneCell']) ?_)
   rw [← HWB.out]
   clear HWB q0 q1 q2 q3 q4 hbl
   go_wp2_with fail
   rw [← HWC.out]
   refine H7.out.mono ?_
   rintro e w7 ⟨rfl, hs7, hb7, hk7⟩
   dsimp only
   have HB7 : Aside0 (Below B w w7) := ⟨HB2.out.trans hb7⟩
   have HS7 : Aside0 (AtS B (fun k => k < B) w7 (B + 1 + 1 + 1) (B + 1) (B + 1 + 1) ((atomsL (condsR (rules.take (i + 1)))).foldl addA []) (atomsL (condsR (rules.take (i + 1)))).length) := ⟨by
    rw [HTA.out, atomsL_app, List.foldl_append, List.length_append]
    exact hs7.less (fun k hk => .inl hk)⟩
   clear hs7 hb7 hk7 H7 HWC t0 t1 t2 t3 t4
   go_wp2
   go_roundg (rules.length - (i + 1))
   case measure => have := HGK.out; have := HIL.out; omega
   case rel => exact ⟨i + 1, by first | rfl | go_num, ⟨HIL.out⟩, ⟨Nat.le_refl _⟩, HS7, HB7⟩
  ·have l1 : decide (i < n3) = false := decide_eq_false hi
   have l2 : decide ((i : Int) < (n3 : Int)) = false := decide_eq_false (by omega)
   have l3 : ¬ (i : Int) < (n3 : Int) := by omega
   have hR := HR.out
   rw [List.take_of_length_le (by have := HN.out; omega)] at hR
   obtain ⟨v, hv, hR7⟩ := hR.out
   obtain ⟨A7, c7, e7⟩ := Kd.R_slice hR7
   obtain ⟨n7, hn7⟩ : ∃ n, n = ((atomsL (condsR rules)).foldl addA []).length := ⟨_, rfl⟩
   rw [← hn7] at e7
   subst e7
   have o7 : wr.cell? ⟨B + 1, 0, none⟩ = some (.slice A7 n7 c7) := blk_cell hv 0
   have f7 : wr.frozen? ⟨B + 1, 0, none⟩ = false := by simp [World.frozen?, hv]
   have HE : Aside0 (k33.R 33 (wr.setCell ⟨B + 1, 0, none⟩ (.slice A7 n7 c7)) w.heap.size (fun _ => True) (.slice A7 n7 c7) (atomsP rules) ∧ Below w.heap.size w (wr.setCell ⟨B + 1, 0, none⟩ (.slice A7 n7 c7))) := ⟨by
    rw [← HBB.out]
    exact ⟨Kd.R_mono (Kd.R_far hR7 (p := ⟨B + 1, 0, none⟩) (fun k hk => hk.2.1) _) (fun _ _ => trivial), HB.out.setCell (p := ⟨B + 1, 0, none⟩) (Nat.le_succ _) _⟩⟩
   have o8 : (wr.setCell ⟨B + 1, 0, none⟩ (.slice A7 n7 c7)).cell? ⟨B + 1, 0, none⟩ = some (.slice A7 n7 c7) := blk_cell (blk_set hv 0 (.slice A7 n7 c7)) 0
   clear hi HR hR hv hR7 hn7
   go_wp2
   exact bodyPost_ret (ret_slice rfl _ _ (B + 1) _ rfl o8) rfl ⟨_, rfl, HE.out.1, HE.out.2⟩
end Go.Proofs.YtdlahgamdigkhaaDoor.Sn
namespace Go.Proofs.YtdlahgamdigkhaaDoor.Sn
open Go.RowKit Go.Maps Go.Proofs.YtdlahgamdigkhaaDoor.Pr Go.Proofs.YtdlahgamdigkhaaDoorW.PrintWords Go.Proofs.YtdlahgamdigkhaaDoorW.PrintLast Go.Proofs.YtdlahgamdigkhaaDoorW.PrintMore Go.Proofs.YtdlahgamdigkhaaDoor.Mp
open Go.Proofs.YtdlahgamdigkhaaDoor.Ps hiding Tk
open Go.Proofs.YtdlahgamdigkhaaDoor.Pu (sizeC sizeL sizeC_eq sizeL_len size_mem)
mutual
/-- The atoms of a condition, as the reference tells them. -/
def refC : S39 → List (S33)
 | ⟨k, a, l⟩ => if k = 3 then [a] else refL l
def refL : List (S39) → List (S33)
 | [] => []
 | c :: l => refC c ++ refL l
end
theorem refC_eq (c : Cd) : refC c = if c.f0 = 3 then [c.f1] else refL c.f2 := by cases c; rw [refC]
theorem refL_app : ∀ a b : List Cd, refL (a ++ b) = refL a ++ refL b
 | [], b => by rw [List.nil_append, refL, List.nil_append]
 | c :: a, b => by rw [List.cons_append, refL, refL, refL_app a b, List.append_assoc]
theorem take_ref {l : List Cd} {i : Nat} (h : i < l.length) : refL (l.take (i + 1)) = refL (l.take i) ++ refC l[i] := by
 rw [List.take_add_one, List.getElem?_eq_getElem h, Option.toList_some, refL_app, refL, refL, List.append_nil]
theorem addA_len (L : List At) : ∀ l : List At, (l.foldl addA L).length ≤ L.length + l.length := by
 intro l
 induction l generalizing L with
 | nil => exact Nat.le_refl _
 | cons a l ih =>
  rw [List.foldl_cons, List.length_cons]
  have h1 := ih (addA L a)
  have h2 : (addA L a).length ≤ L.length + 1 := by
   unfold addA; split
   ·omega
   ·rw [List.length_append, List.length_singleton]; omega
  omega
theorem ref_size : ∀ (Z : Nat), (∀ c : Cd, sizeC c ≤ Z → (refC c).length ≤ sizeC c) ∧ ∀ l : List Cd, sizeL l ≤ Z → (refL l).length ≤ sizeL l
 | 0 => ⟨fun c h => by rw [sizeC_eq] at h; omega, fun l h => by cases l with | nil => rw [refL]; exact Nat.zero_le _ | cons c l => rw [sizeL, sizeC_eq] at h; omega⟩
 | Z + 1 => by
  have ih := ref_size Z
  have hc : ∀ c : Cd, sizeC c ≤ Z + 1 → (refC c).length ≤ sizeC c := fun c h => by
   rw [sizeC_eq] at h ⊢
   rw [refC_eq]
   have := ih.2 c.f2 (by omega)
   split <;> simp <;> omega
  refine ⟨hc, fun l h => ?_⟩
  induction l with
  | nil => rw [refL]; exact Nat.zero_le _
  | cons c l ihl =>
   rw [sizeL] at h ⊢
   rw [refL, List.length_append]
   have h1 := hc c (by omega)
   have h2 := ihl (by omega)
   omega
theorem ref_tree : ∀ (Z : Nat), (∀ c : Cd, sizeC c ≤ Z → treeB c = true → refC c = atomsC c) ∧ ∀ l : List Cd, sizeL l ≤ Z → everyB l = true → refL l = atomsL l
 | 0 => ⟨fun c h => by rw [sizeC_eq] at h; omega, fun l h _ => by cases l with | nil => rw [refL, atomsL] | cons c l => rw [sizeL, sizeC_eq] at h; omega⟩
 | Z + 1 => by
  have ih := ref_tree Z
  have hc : ∀ c : Cd, sizeC c ≤ Z + 1 → treeB c = true → refC c = atomsC c := fun c h ht => by
   rw [sizeC_eq] at h
   rw [treeB_eq, Bool.and_eq_true] at ht
   rw [refC_eq, atomsC_eq]
   by_cases h3 : c.f0 = 3
   ·have h4 := ht.2
    rw [if_neg (by omega), if_pos h3, Bool.and_eq_true, List.isEmpty_iff] at h4
    rw [if_pos h3, if_pos h3, h4.1, atomsL, List.append_nil]
   ·rw [if_neg h3, if_neg h3, List.nil_append]
    have h4 := ht.2
    by_cases h12 : c.f0 = 1 ∨ c.f0 = 2
    ·rw [if_pos h12, List.isEmpty_iff] at h4
     rw [h4, refL, atomsL]
    ·rw [if_neg h12, if_neg h3] at h4
     refine ih.2 c.f2 (by omega) ?_
     split at h4
     ·rw [Bool.and_eq_true] at h4; exact h4.2
     ·split at h4
      ·rw [Bool.and_eq_true] at h4; exact h4.2
      ·cases h4
  refine ⟨hc, fun l h ht => ?_⟩
  induction l with
  | nil => rw [refL, atomsL]
  | cons c l ihl =>
   rw [sizeL] at h
   rw [everyB, Bool.and_eq_true] at ht
   rw [refL, atomsL, hc c (by omega) ht.1, ihl (by omega) ht.2]
def AofC (c : Cd) : Prop := ∀ (lo : Nat) (X : Nat → Prop) (w : World) (A : Option Addr) (c3 : Nat) (v : Value) (L : List At), Kd.F k39 w X A c.f2.length c.f2 → c.f2.length ≤ c3 → k33.R 33 w lo (fun k => ¬ X k) v L → (∀ k, X k → k < w.heap.size) → lo ≤ w.heap.size → L.length + sizeC c ≤ 1000000 →
 Calls Tryd.prog 17 #[cdV c A c3, v] w fun e w' => ∃ v', e = .returned v' ∧ k33.R 33 w' lo (fun k => ¬ X k) v' ((refC c).foldl addA L) ∧ Below lo w w' ∧ Kept w w' (fun k => ¬ X k)
set_option maxHeartbeats 16000000
set_option maxRecDepth 100000
theorem aof_atom (a0 a1 : ByteArray) (lo : Nat) (X : Nat → Prop) (w : World) (A : Option Addr) (n c3 : Nat) (v : Value) (L : List At) (hR : k33.R 33 w lo (fun k => ¬ X k) v L) (hX : ∀ k, X k → k < w.heap.size) (hlo : lo ≤ w.heap.size) (hL : L.length ≤ 1000000) :
  Calls Tryd.prog 17 #[.agg #[.int .i64 3, .string a0, .string a1, .slice A n c3], v] w fun e w' => ∃ v', e = .returned v' ∧ k33.R 33 w' lo (fun k => ¬ X k) v' (addA L ⟨a0, a1⟩) ∧ Below lo w w' ∧ Kept w w' (fun k => ¬ X k) := by
 obtain ⟨A7, c7, e7⟩ := Kd.R_slice hR
 obtain ⟨n7, hn7⟩ : ∃ n, n = L.length := ⟨_, rfl⟩
 rw [← hn7] at e7
 subst e7
 obtain ⟨w1, hw1⟩ : ∃ w1, w1 = w.alloc (.cells #[.int .i64 3, .string a0, .string a1, .slice A n c3] 39) := ⟨_, rfl⟩
 have hb0 : Below w.heap.size w w1 := by rw [hw1]; exact below_alloc (Below.refl _ _) _
 have hs1 : w.heap.size < w1.heap.size := by rw [hw1]; exact Nat.lt_of_lt_of_le (Nat.lt_succ_self _) (Nat.le_of_eq (Array.size_push _).symm)
 have HX1 : Aside0 (w1.heap[w.heap.size]? = some (.cells #[.int .i64 3, .string a0, .string a1, .slice A n c3] 39 (0, 0))) := ⟨by rw [hw1]; exact blk_new _ _⟩
 have HR : Aside0 (k33.R 33 w1 lo (fun k => ¬ X k) (.slice A7 n7 c7) L) := ⟨Kd.R_below hR hb0⟩
 have HB : Aside0 (Below lo w w1) := ⟨hb0.mono hlo⟩
 have HK : Aside0 (Kept w w1 (fun k => ¬ X k)) := ⟨Kept.of_below hb0 _⟩
 have HXL := Aside0.mk hX
 have HN := Aside0.mk hn7
 have HW1 := Aside0.mk hw1
 have t0 : w1.cell? ⟨w.heap.size, 0, none⟩ = some (.int .i64 3) := blk_cell HX1.out 0
 clear hR hw1 hb0 hX hn7
 go_enter Tryd.func17, Tryd.ntmps17
 go_upto_region 1 with (fail)
 rw [← HW1.out]
 go_wp2
 go_loopg [5] L.length (fun gk v5 wr => ∃ (i : Nat), v5 = .int .i64 i ∧ Aside0 (i ≤ L.length) ∧ Aside0 (L.length - i ≤ gk) ∧ Aside0 (∀ a ∈ L.take i, a ≠ ⟨a0, a1⟩) ∧ Aside0 (Below w1.heap.size w1 wr))
 case atStart => exact ⟨0, rfl, ⟨Nat.zero_le _⟩, ⟨Nat.sub_le _ _⟩, ⟨fun a ha => by cases ha⟩, ⟨Below.refl _ _⟩⟩
 case round =>
  clear t0
  obtain ⟨i, rfl, HI, HGK, HNE, HBR⟩ := hrel
  have HRR : Aside0 (k33.R 33 wr lo (fun k => ¬ X k) (.slice A7 n7 c7) L) := ⟨Kd.R_below HR.out HBR.out⟩
  have HXR : Aside0 (wr.heap[w.heap.size]? = some (.cells #[.int .i64 3, .string a0, .string a1, .slice A n c3] 39 (0, 0))) := ⟨blk_below HX1.out HBR.out⟩
  have HB2 : Aside0 (Below lo w wr) := ⟨HB.out.trans (HBR.out.mono (by omega))⟩
  have HK2 : Aside0 (Kept w wr (fun k => ¬ X k)) := ⟨HK.out.then_ (Kept.of_below HBR.out _) (fun k hk => .inl hk)⟩
  by_cases hi : i < n7
  ·have l1 : decide (i < n7) = true := decide_eq_true hi
   have l2 : decide ((i : Int) < (n7 : Int)) = true := decide_eq_true (by omega)
   have l3 : (i : Int) < (n7 : Int) := by omega
   have HIL : Aside0 (i < L.length) := ⟨by rw [← HN.out]; exact hi⟩
   have hib : (i : Int) ≤ 1000000 := by have := HIL.out; omega
   have hC := (Kd.R_reads' HRR.out).2.2
   obtain ⟨ad, hA, q0, q1⟩ := at_T33 hC (i : Int) (by omega) (by have := HIL.out; omega)
   have hA2 : A7 = some ad := hA
   subst hA2
   obtain ⟨x, hx⟩ : ∃ x, x = rd_T33 L (i : Int) := ⟨_, rfl⟩
   have HX : Aside0 (x = L[i]'HIL.out) := ⟨by rw [hx]; have := HIL.out; simp [rd_T33, this]⟩
   rw [← hx] at q0 q1
   simp only [Int.toNat_natCast] at q0 q1
   have t1 : wr.cell? ⟨w.heap.size, 1, none⟩ = some (.string a0) := blk_cell HXR.out 1
   have t2 : wr.cell? ⟨w.heap.size, 2, none⟩ = some (.string a1) := blk_cell HXR.out 2
   obtain ⟨p0, hp0⟩ : ∃ p0, (x.f0.toList == a0.toList) = p0 := ⟨_, rfl⟩
   obtain ⟨p1, hp1⟩ : ∃ p1, (x.f1.toList == a1.toList) = p1 := ⟨_, rfl⟩
   have HEQ : Aside0 ((p0 && p1) = true → x = ⟨a0, a1⟩) := ⟨fun h => by
    rw [Bool.and_eq_true, ← hp0, ← hp1, beq_iff_eq, beq_iff_eq, bytes_toList, bytes_toList] at h
    cases x; simp only at h; rw [h.1, h.2]⟩
   have HNQ : Aside0 ((p0 && p1) = false → x ≠ ⟨a0, a1⟩) := ⟨fun h he => by
    rw [← hp0, ← hp1, he] at h
    simp at h⟩
   obtain ⟨y0, hy0⟩ : ∃ y0, y0 = x.f0 := ⟨_, rfl⟩
   obtain ⟨y1, hy1⟩ : ∃ y1, y1 = x.f1 := ⟨_, rfl⟩
   rw [← hy0] at q0 hp0
   rw [← hy1] at q1 hp1
   clear hx hA hC hi hy0 hy1
   have hip : (0 : Int) ≤ (i : Int) := by omega
   have HN2 : Aside0 ((p0 && p1) = false → ∀ a ∈ L.take (i + 1), a ≠ ⟨a0, a1⟩) := ⟨fun h a ha => by
    rw [List.take_add_one, List.getElem?_eq_getElem HIL.out, Option.toList_some, List.mem_append, List.mem_singleton] at ha
    rcases ha with ha | ha
    ·exact HNE.out a ha
    ·rw [ha, ← HX.out]; exact HNQ.out h⟩
   cases p0 <;> cases p1
   ·exact sAt7_0
   ·exact sAt7_0
   ·exact sAt7_0
   ·have HMEM : Aside0 (addA L ⟨a0, a1⟩ = L) := ⟨by
     have h := HEQ.out rfl
     rw [addA, if_pos]
     rw [← h, HX.out]
     exact List.getElem_mem _⟩
    go_wp2
    go_region
    clear q0 q1 t1 t2 l1 l2 l3 hip hp0 hp1 HEQ HXR
    go_wp2
    go_ret
    exact ⟨_, rfl, by rw [HMEM.out]; exact Kd.R_below HRR.out (below_drew (Below.refl _ _)), below_drew1 HB2.out, HK2.out.then_ (Kept.of_below (below_drew (Below.refl _ _)) _) (fun k hk => .inl hk)⟩
  ·have l1 : decide (i < n7) = false := decide_eq_false hi
   have l2 : decide ((i : Int) < (n7 : Int)) = false := decide_eq_false (by omega)
   have l3 : ¬ (i : Int) < (n7 : Int) := by omega
   have HMEM : Aside0 (addA L ⟨a0, a1⟩ = L ++ [⟨a0, a1⟩]) := ⟨by
    have h := HNE.out
    rw [List.take_of_length_le (by have := HN.out; omega)] at h
    rw [addA, if_neg (fun hm => h _ hm rfl)]⟩
   have t1 : wr.cell? ⟨w.heap.size, 1, none⟩ = some (.string a0) := blk_cell HXR.out 1
   have t2 : wr.cell? ⟨w.heap.size, 2, none⟩ = some (.string a1) := blk_cell HXR.out 2
   have HMK : Aside0 (k33.M wr lo (fun _ => False) ⟨a0, a1⟩ [.string a0, .string a1]) := ⟨k33_mkM _ _ _ ⟨a0, a1⟩⟩
   have HFR : Aside0 (∀ k, wr.heap.size ≤ k → ¬ X k) := ⟨fun k hk hx => by have := HXL.out k hx; have := HK2.out.1; omega⟩
   have HBS : Aside0 (lo ≤ wr.heap.size) := ⟨by have := HK2.out.1; omega⟩
   have HLL : Aside0 ((L.length + 1) * 32 ≤ 140737488355328) := ⟨by omega⟩
   clear hi
   go_wp2_with (at_builtin; refine Kd.R_append k33 (w0 := w) lo rfl (.tmp 24) (.tmp 27) 30 33 (.agg #[.string ⟨#[]⟩, .string ⟨#[]⟩]) 32 rfl Tryd.underlying30 info_at rfl (by decide) (by decide) (.slice A7 n7 c7) L ⟨a0, a1⟩ [.string a0, .string a1] (fun k => ¬ X k) (fun _ => False) rfl rfl HMK.out (fun _ hk => hk.elim) HFR.out HRR.out HB2.out HBS.out HLL.out ?_)
   intro v9 w9 hR9 hB9 hg9 hat9
   have HF : Aside0 (k33.R 33 w9 lo (fun k => ¬ X k) v9 (addA L ⟨a0, a1⟩) ∧ Below lo w w9 ∧ Kept w w9 (fun k => ¬ X k)) := ⟨by rw [HMEM.out]; exact hR9, hB9, Kept.of_grown hg9 HK2.out (fun k hk => .inl (HRR.out.1 k hk))⟩
   clear hR9 hB9 hg9 hat9
   go_wp2
   go_ret
   exact ⟨_, rfl, HF.out⟩
theorem aof_kids (k : Int) (hk : k ≠ 3) (a0 a1 : ByteArray) (l : List Cd) (hall : ∀ c ∈ l, AofC c) (lo : Nat) (X : Nat → Prop) (w : World) (A : Option Addr) (n c3 : Nat) (hn : n = l.length) (hF : Kd.F k39 w X A l.length l) (v : Value) (L : List At) (hR : k33.R 33 w lo (fun k => ¬ X k) v L) (hX : ∀ k, X k → k < w.heap.size) (hlo : lo ≤ w.heap.size) (hL : L.length + sizeL l ≤ 1000000) :
  Calls Tryd.prog 17 #[.agg #[.int .i64 k, .string a0, .string a1, .slice A n c3], v] w fun e w' => ∃ v', e = .returned v' ∧ k33.R 33 w' lo (fun k => ¬ X k) v' ((refL l).foldl addA L) ∧ Below lo w w' ∧ Kept w w' (fun k => ¬ X k) := by
 obtain ⟨w1, hw1⟩ : ∃ w1, w1 = w.alloc (.cells #[.int .i64 k, .string a0, .string a1, .slice A n c3] 39) := ⟨_, rfl⟩
 have hb0 : Below w.heap.size w w1 := by rw [hw1]; exact below_alloc (Below.refl _ _) _
 have hs1 : w.heap.size < w1.heap.size := by rw [hw1]; exact Nat.lt_of_lt_of_le (Nat.lt_succ_self _) (Nat.le_of_eq (Array.size_push _).symm)
 have HX1 : Aside0 (w1.heap[w.heap.size]? = some (.cells #[.int .i64 k, .string a0, .string a1, .slice A n c3] 39 (0, 0))) := ⟨by rw [hw1]; exact blk_new _ _⟩
 have HR : Aside0 (k33.R 33 w1 lo (fun k => ¬ (X k ∨ k = w.heap.size)) v L) := ⟨Kd.R_below (Kd.R_mono (Kd.R_bound hR) (fun k hk hx => hx.elim hk.1 (fun e => by have := hk.2.2.1; omega))) hb0⟩
 have HB : Aside0 (Below lo w w1) := ⟨hb0.mono hlo⟩
 have HK : Aside0 (Kept w1 w1 (fun k => ¬ (X k ∨ k = w.heap.size))) := ⟨Kept.refl _ _⟩
 have HXL : Aside0 (∀ k, (X k ∨ k = w.heap.size) → k < w1.heap.size) := ⟨fun k hk => hk.elim (fun h => Nat.lt_trans (hX k h) hs1) (fun h => by omega)⟩
 have HF1 : Aside0 (Kd.F k39 w1 (fun k => X k ∨ k = w.heap.size) A l.length l) := ⟨Kd.F_mono (Kd.F_below hF hb0) (fun k hk => .inl hk)⟩
 have HN := Aside0.mk hn
 have HW1 := Aside0.mk hw1
 have HAL := Aside0.mk hall
 have HLL := Aside0.mk hL
 have HL : Aside0 (l.length ≤ 1000000) := ⟨by have := sizeL_len l; omega⟩
 have HS1 := Aside0.mk hs1
 have HB01 := Aside0.mk hb0
 have e0 : (k == (3 : Int)) = false := by simp [hk]
 have t0 : w1.cell? ⟨w.heap.size, 0, none⟩ = some (.int .i64 k) := blk_cell HX1.out 0
 clear hR hw1 hb0 hX hn hF hall hL hk hs1
 go_enter Tryd.func17, Tryd.ntmps17
 go_upto_region 1 with (fail)
 rw [← HW1.out]
 go_wp2
 go_loopg [1, 6] l.length (fun gk v1 v6 wr => ∃ (i : Nat), v6 = .int .i64 i ∧ Aside0 (i ≤ l.length) ∧ Aside0 (l.length - i ≤ gk) ∧ Aside0 (k33.R 33 wr lo (fun k => ¬ (X k ∨ k = w.heap.size)) v1 ((refL (l.take i)).foldl addA L)) ∧ Aside0 (Below lo w wr) ∧ Aside0 (Kept w1 wr (fun k => ¬ (X k ∨ k = w.heap.size))))
 case atStart => exact ⟨0, rfl, ⟨Nat.zero_le _⟩, ⟨Nat.sub_le _ _⟩, HR, HB, HK⟩
 case round =>
  clear t0 HR HB HK
  obtain ⟨i, rfl, HI, HGK, HR, HB, HK⟩ := hrel
  have HXR : Aside0 (wr.heap[w.heap.size]? = some (.cells #[.int .i64 k, .string a0, .string a1, .slice A n c3] 39 (0, 0))) := ⟨(HK.out.2 _ HS1.out (fun h => h (.inr rfl))).trans HX1.out⟩
  have t3 : wr.cell? ⟨w.heap.size, 3, none⟩ = some (.slice A n c3) := blk_cell HXR.out 3
  by_cases hi : i < n
  ·have l1 : decide (i < n) = true := decide_eq_true hi
   have l2 : decide ((i : Int) < (n : Int)) = true := decide_eq_true (by omega)
   have l3 : (i : Int) < (n : Int) := by omega
   have HIL : Aside0 (i < l.length) := ⟨by rw [← HN.out]; exact hi⟩
   have hib : (i : Int) ≤ 1000000 := by have := HL.out; have := HIL.out; omega
   have hip : (0 : Int) ≤ (i : Int) := by omega
   obtain ⟨ad, A3, c4, hA, q0, q1, q2, q3, hl3, hF3⟩ := atF (Kd.F_kept HF1.out HK.out (fun k hx hn => hn hx)) (i : Int) (by omega) (by have := HIL.out; omega)
   have hA2 : A = some ad := hA
   subst hA2
   obtain ⟨x, hx⟩ : ∃ x, x = rd_T39 l (i : Int) := ⟨_, rfl⟩
   have HX : Aside0 (x = l[i]'HIL.out) := ⟨by rw [hx]; have := HIL.out; simp [rd_T39, this]⟩
   rw [← hx] at q0 q1 q2 q3 hl3 hF3
   simp only [Int.toNat_natCast] at q0 q1 q2 q3
   have hmem : x ∈ l := by rw [HX.out]; exact List.getElem_mem _
   have hsz : ((refL (l.take i)).foldl addA L).length + sizeC x ≤ 1000000 := by
    have h1 := addA_len L (refL (l.take i))
    have h2 := (ref_size _).2 (l.take i) (Nat.le_refl _)
    have h3 := take_size HIL.out
    rw [← HX.out] at h3
    have := HLL.out
    omega
   have h5 := HAL.out x hmem lo (fun k => X k ∨ k = w.heap.size) wr A3 c4 u1 _ hF3 hl3 HR.out (fun k hk => Nat.lt_of_lt_of_le (HXL.out k hk) HK.out.1) (Nat.le_trans (Nat.le_trans hlo (Nat.le_of_lt HS1.out)) HK.out.1) hsz
   unfold cdV at h5
   obtain ⟨m, hm⟩ : ∃ m, m = x.f2.length := ⟨_, rfl⟩
   rw [← hm] at h5 q3
   have H5 := Aside0.mk h5
   have HTA : Aside0 (refL (l.take (i + 1)) = refL (l.take i) ++ refC x) := ⟨by rw [take_ref HIL.out, HX.out]⟩
   clear h5 hx hA hF3 hl3 hmem hsz hi hm
   obtain ⟨x0, hx0⟩ : ∃ x0, x0 = x.f0 := ⟨_, rfl⟩
   obtain ⟨x1, hx1⟩ : ∃ x1, x1 = x.f1.f0 := ⟨_, rfl⟩
   obtain ⟨x2, hx2⟩ : ∃ x2, x2 = x.f1.f1 := ⟨_, rfl⟩
   rw [← hx0] at q0 H5
   rw [← hx1] at q1 H5
   rw [← hx2] at q2 H5
   clear hx0 hx1 hx2
   go_wp2_with fail
   refine H5.out.mono ?_
   rintro e w6 ⟨v6, rfl, hr6, hb6, hk6⟩
   dsimp only
   have HB6 : Aside0 (Below lo w w6) := ⟨HB.out.trans hb6⟩
   have HK6 : Aside0 (Kept w1 w6 (fun k => ¬ (X k ∨ k = w.heap.size))) := ⟨HK.out.then_ hk6 (fun k hk => .inl hk)⟩
   have HR6 : Aside0 (k33.R 33 w6 lo (fun k => ¬ (X k ∨ k = w.heap.size)) v6 ((refL (l.take (i + 1))).foldl addA L)) := ⟨by rw [HTA.out, List.foldl_append]; exact hr6⟩
   clear hr6 hb6 hk6 H5 q0 q1 q2 q3 t3 HR HB HK HXR
   go_wp2
   go_roundg (l.length - (i + 1))
   case measure => have := HGK.out; have := HIL.out; omega
   case rel => exact ⟨i + 1, by first | rfl | go_num, ⟨HIL.out⟩, ⟨Nat.le_refl _⟩, HR6, HB6, HK6⟩
  ·have l1 : decide (i < n) = false := decide_eq_false hi
   have l2 : decide ((i : Int) < (n : Int)) = false := decide_eq_false (by omega)
   have l3 : ¬ (i : Int) < (n : Int) := by omega
   have HE : Aside0 (k33.R 33 wr lo (fun k => ¬ X k) u1 ((refL l).foldl addA L) ∧ Below lo w wr ∧ Kept w wr (fun k => ¬ X k)) := ⟨by
    have h := HR.out
    rw [List.take_of_length_le (by have := HN.out; omega)] at h
    exact ⟨Kd.R_mono h (fun k hk hx => hk (.inl hx)), HB.out, (Kept.of_below HB01.out _).then_ HK.out (fun k hk => .inl (fun hx => hk (.inl hx)))⟩⟩
   clear hi HR HB HK HXR
   go_wp2
   go_ret
   exact ⟨_, rfl, HE.out⟩
theorem aof_calls : ∀ (Z : Nat) (c : Cd), sizeC c ≤ Z → AofC c
 | 0, c, h => by rw [sizeC_eq] at h; omega
 | Z + 1, c, h => by
  rw [sizeC_eq] at h
  intro lo X w A c3 v L hF hl hR hX hlo hL
  have hE := refC_eq c
  rw [sizeC_eq] at hL
  unfold cdV
  by_cases h3 : c.f0 = 3
  ·rw [hE, if_pos h3, h3, List.foldl_cons, List.foldl_nil]
   exact aof_atom c.f1.f0 c.f1.f1 lo X w A _ c3 v L hR hX hlo (by omega)
  ·rw [hE, if_neg h3]
   exact aof_kids c.f0 h3 c.f1.f0 c.f1.f1 c.f2 (fun d hd => aof_calls Z d (by have := size_mem hd; omega)) lo X w A _ c3 rfl hF v L hR hX hlo (by omega)
end Go.Proofs.YtdlahgamdigkhaaDoor.Sn
namespace Go.Proofs.YtdlahgamdigkhaaDoor.Sn
open Go.RowKit Go.Maps Go.Proofs.YtdlahgamdigkhaaDoor.Pr Go.Proofs.YtdlahgamdigkhaaDoorW.PrintWords Go.Proofs.YtdlahgamdigkhaaDoorW.PrintLast Go.Proofs.YtdlahgamdigkhaaDoorW.PrintMore Go.Proofs.YtdlahgamdigkhaaDoor.Mp
open Go.Proofs.YtdlahgamdigkhaaDoor.Ps hiding Tk
open Go.Proofs.YtdlahgamdigkhaaDoor.Pu (sizeC sizeL sizeC_eq sizeL_len size_mem)
set_option maxHeartbeats 16000000
set_option maxRecDepth 100000
theorem ratoms_calls (A0 A1 A3 : Option Addr) (n0 c0 n1 c1 n3 c3 : Nat) (m : ByteArray) (al : Bool) (rules : List Rl) (w : World) (hF : Kd.F k41 w (fun _ => True) A3 rules.length rules) (hn : n3 = rules.length) (hz : sizeL (condsR rules) ≤ 900000) :
  Calls Tryd.prog 11 #[polV A0 A1 A3 n0 c0 n1 c1 n3 c3 m al] w fun e w' => ∃ v, e = .returned v ∧ k33.R 33 w' w.heap.size (fun _ => True) v ((refL (condsR rules)).foldl addA []) ∧ Below w.heap.size w w' := by
 unfold polV
 have HF := Aside0.mk hF
 have HN := Aside0.mk hn
 have HZ := Aside0.mk hz
 obtain ⟨B, hB⟩ : ∃ B, B = w.heap.size := ⟨_, rfl⟩
 obtain ⟨w1, hw1⟩ : ∃ w1, w1 = w.alloc (.cells #[.slice A0 n0 c0, .slice A1 n1 c1, .string m, .slice A3 n3 c3, .bool al] 26) := ⟨_, rfl⟩
 have hb0 : Below w.heap.size w w1 := by rw [hw1]; exact below_alloc (Below.refl _ _) _
 have hs1 : w.heap.size < w1.heap.size := by rw [hw1]; exact Nat.lt_of_lt_of_le (Nat.lt_succ_self _) (Nat.le_of_eq (Array.size_push _).symm)
 have HX1 : Aside0 (w1.heap[w.heap.size]? = some (.cells #[.slice A0 n0 c0, .slice A1 n1 c1, .string m, .slice A3 n3 c3, .bool al] 26 (0, 0))) := ⟨by rw [hw1]; exact blk_new _ _⟩
 have HR : Aside0 (k33.R 33 w1 B (fun k => ¬ (k < B ∨ k = B)) (.slice none 0 0) []) := ⟨Kd.R_nil _ _ _ _ _⟩
 have HB : Aside0 (Below B w w1) := ⟨by rw [hB]; exact hb0⟩
 have HK : Aside0 (Kept w1 w1 (fun k => ¬ (k < B ∨ k = B))) := ⟨Kept.refl _ _⟩
 have HF1 : Aside0 (Kd.F k41 w1 (fun k => k < B ∨ k = B) A3 rules.length rules) := ⟨Kd.F_mono (Kd.F_below (Kd.F_bound hF) hb0) (fun k hk => .inl (by rw [hB]; exact hk.2))⟩
 have hle : rules.length ≤ 1000000 := by
  have h1 := sizeL_len (condsR rules)
  rw [condsR, List.length_map] at h1
  have := hz
  rw [condsR] at this
  omega
 have HW1 := Aside0.mk hw1
 have HS1 := Aside0.mk hs1
 have HBB := Aside0.mk hB
 clear hF hn hz hw1 hb0 hs1 hB
 go_enter Tryd.func11, Tryd.ntmps11
 go_upto_region 1 with (fail)
 rw [← HW1.out]
 go_wp2
 go_loopg [3, 4] rules.length (fun gk v3 v4 wr => ∃ (i : Nat), v4 = .int .i64 i ∧ Aside0 (i ≤ rules.length) ∧ Aside0 (rules.length - i ≤ gk) ∧ Aside0 (k33.R 33 wr B (fun k => ¬ (k < B ∨ k = B)) v3 ((refL (condsR (rules.take i))).foldl addA [])) ∧ Aside0 (Below B w wr) ∧ Aside0 (Kept w1 wr (fun k => ¬ (k < B ∨ k = B))))
 case atStart => exact ⟨0, rfl, ⟨Nat.zero_le _⟩, ⟨Nat.sub_le _ _⟩, HR, HB, HK⟩
 case round =>
  clear HR HB HK
  obtain ⟨i, rfl, HI, HGK, HR, HB, HK⟩ := hrel
  have HXR : Aside0 (wr.heap[w.heap.size]? = some (.cells #[.slice A0 n0 c0, .slice A1 n1 c1, .string m, .slice A3 n3 c3, .bool al] 26 (0, 0))) := ⟨(HK.out.2 _ HS1.out (fun h => h (.inr HBB.out.symm))).trans HX1.out⟩
  have t3 : wr.cell? ⟨w.heap.size, 3, none⟩ = some (.slice A3 n3 c3) := blk_cell HXR.out 3
  by_cases hi : i < n3
  ·have l1 : decide (i < n3) = true := decide_eq_true hi
   have l2 : decide ((i : Int) < (n3 : Int)) = true := decide_eq_true (by omega)
   have l3 : (i : Int) < (n3 : Int) := by omega
   have HIL : Aside0 (i < rules.length) := ⟨by rw [← HN.out]; exact hi⟩
   have hib : (i : Int) ≤ 1000000 := by have := HIL.out; omega
   have hip : (0 : Int) ≤ (i : Int) := by omega
   obtain ⟨ad, A4, c4, hA, q0, q1, q2, q3, q4, hl4, hF4⟩ := atFR (Kd.F_kept HF1.out HK.out (fun k hx hn => hn hx)) (i : Int) (by omega) (by have := HIL.out; omega)
   have hA2 : A3 = some ad := hA
   subst hA2
   obtain ⟨x, hx⟩ : ∃ x, x = rd_T41 rules (i : Int) := ⟨_, rfl⟩
   have HX : Aside0 (x = rules[i]'HIL.out) := ⟨by rw [hx]; have := HIL.out; simp [rd_T41, this]⟩
   rw [← hx] at q0 q1 q2 q3 q4 hl4 hF4
   simp only [Int.toNat_natCast] at q0 q1 q2 q3 q4
   obtain ⟨c, hc⟩ : ∃ c, c = x.f1 := ⟨_, rfl⟩
   rw [← hc] at q1 q2 q3 q4 hl4 hF4
   have hsp := conds_split HIL.out
   rw [← HX.out, ← hc] at hsp
   have hsz2 : sizeL (condsR (rules.take i)) + sizeC c ≤ 900000 := by
    have h2 := HZ.out
    rw [hsp, size_app, sizeL] at h2
    omega
   have hsz : ((refL (condsR (rules.take i))).foldl addA []).length + sizeC c ≤ 1000000 := by
    have h1 := addA_len [] (refL (condsR (rules.take i)))
    have h2 := (ref_size _).2 (condsR (rules.take i)) (Nat.le_refl _)
    rw [List.length_nil] at h1
    omega
   have h5 := aof_calls _ c (Nat.le_refl _) B (fun k => k < B ∨ k = B) wr A4 c4 u3 _ hF4 hl4 HR.out (fun k hk => by have := HS1.out; have := HK.out.1; have := HBB.out; omega) (by have := HS1.out; have := HK.out.1; have := HBB.out; omega) hsz
   unfold cdV at h5
   obtain ⟨m4, hm⟩ : ∃ m4, m4 = c.f2.length := ⟨_, rfl⟩
   rw [← hm] at h5 q4
   have H5 := Aside0.mk h5
   have HTA : Aside0 (refL (condsR (rules.take (i + 1))) = refL (condsR (rules.take i)) ++ refC c) := ⟨by rw [conds_take HIL.out, refL_app, refL, refL, List.append_nil, hc, HX.out]⟩
   clear h5 hx hA hF4 hl4 hsz hsz2 hi hm hsp hc
   obtain ⟨xa, hxa⟩ : ∃ xa, xa = x.f0 := ⟨_, rfl⟩
   obtain ⟨x0, hx0⟩ : ∃ x0, x0 = c.f0 := ⟨_, rfl⟩
   obtain ⟨x1, hx1⟩ : ∃ x1, x1 = c.f1.f0 := ⟨_, rfl⟩
   obtain ⟨x2, hx2⟩ : ∃ x2, x2 = c.f1.f1 := ⟨_, rfl⟩
   rw [← hxa] at q0
   rw [← hx0] at q1 H5
   rw [← hx1] at q2 H5
   rw [← hx2] at q3 H5
   clear hxa hx0 hx1 hx2
   go_wp2_with fail
   refine H5.out.mono ?_
   rintro e w6 ⟨v6, rfl, hr6, hb6, hk6⟩
   dsimp only
   have HB6 : Aside0 (Below B w w6) := ⟨HB.out.trans hb6⟩
   have HK6 : Aside0 (Kept w1 w6 (fun k => ¬ (k < B ∨ k = B))) := ⟨HK.out.then_ hk6 (fun k hk => .inl hk)⟩
   have HR6 : Aside0 (k33.R 33 w6 B (fun k => ¬ (k < B ∨ k = B)) v6 ((refL (condsR (rules.take (i + 1)))).foldl addA [])) := ⟨by rw [HTA.out, List.foldl_append]; exact hr6⟩
   clear hr6 hb6 hk6 H5 q0 q1 q2 q3 q4 t3 HR HB HK HXR
   go_wp2
   go_roundg (rules.length - (i + 1))
   case measure => have := HGK.out; have := HIL.out; omega
   case rel => exact ⟨i + 1, by first | rfl | go_num, ⟨HIL.out⟩, ⟨Nat.le_refl _⟩, HR6, HB6, HK6⟩
  ·have l1 : decide (i < n3) = false := decide_eq_false hi
   have l2 : decide ((i : Int) < (n3 : Int)) = false := decide_eq_false (by omega)
   have l3 : ¬ (i : Int) < (n3 : Int) := by omega
   have HE : Aside0 (k33.R 33 wr w.heap.size (fun _ => True) u3 ((refL (condsR rules)).foldl addA []) ∧ Below w.heap.size w wr) := ⟨by
    have h := HR.out
    rw [List.take_of_length_le (by have := HN.out; omega), HBB.out] at h
    exact ⟨Kd.R_mono h (fun k hk => trivial), by rw [← HBB.out]; exact HB.out⟩⟩
   clear hi HR HB HK HXR
   go_wp2
   go_ret
   exact ⟨_, rfl, HE.out⟩
end Go.Proofs.YtdlahgamdigkhaaDoor.Sn
namespace Go.Proofs.YtdlahgamdigkhaaDoor.Sn
open Go.RowKit Go.Maps Go.Proofs.YtdlahgamdigkhaaDoor.Pr Go.Proofs.YtdlahgamdigkhaaDoorW.PrintWords Go.Proofs.YtdlahgamdigkhaaDoorW.PrintLast Go.Proofs.YtdlahgamdigkhaaDoorW.PrintMore Go.Proofs.YtdlahgamdigkhaaDoor.Mp
open Go.Proofs.YtdlahgamdigkhaaDoor.Ps hiding Tk
set_option maxHeartbeats 16000000
set_option maxRecDepth 100000
def Enters (F : FuncId) : Prop := ∀ (args : Array Value) (w : World), (callFunc F args).run Tryd.prog w = .ok (.enter F args) w
theorem ent_forb : Enters 37 := fun args w => by go_simp
theorem ent_same : Enters 67 := fun args w => by go_simp
theorem ent_tok : Enters 38 := fun args w => by go_simp
theorem index_func (F : FuncId) (hent : Enters F) (cap : Array Value) (p : ByteArray → Bool) (l : List ByteArray) (A : Option Addr) (n c : Nat) (w : World) (hn : n = l.length) (hl : l.length ≤ 1000000) (hC : Kd.string.C w A l.length l)
  (hcall : ∀ x ∈ l, ∀ w', Below w.heap.size w w' → Calls Tryd.prog F (#[.string x] ++ cap) w' fun e w'' => e = .returned (.bool (p x)) ∧ Below w'.heap.size w' w'') :
  Calls Tryd.prog 51 #[.slice A n c, .func (Fn.func F) #[] cap] w fun e w' => ∃ r : Int, e = .returned (.int .i64 r) ∧ decide (0 ≤ r) = l.any p ∧ Below w.heap.size w w' := by
 have HC := Aside0.mk hC
 have HN := Aside0.mk hn
 have HL := Aside0.mk hl
 have HCALL := Aside0.mk hcall
 have HENT := Aside0.mk hent
 clear hC hn hl hcall hent
 go_enter Tryd.func51, Tryd.ntmps51
 go_wp2
 go_loopg [8] l.length (fun gk v8 wr => ∃ (i : Nat), v8 = .int .i64 i ∧ Aside0 (i ≤ l.length) ∧ Aside0 (l.length - i ≤ gk) ∧ Aside0 ((l.take i).any p = false) ∧ Aside0 (Below w.heap.size w wr))
 case atStart => exact ⟨0, rfl, ⟨Nat.zero_le _⟩, ⟨Nat.sub_le _ _⟩, ⟨rfl⟩, ⟨Below.refl _ _⟩⟩
 case round =>
  obtain ⟨i, rfl, HI, HGK, HA, HB⟩ := hrel
  by_cases hi : i < n
  ·have l1 : decide (i < n) = true := decide_eq_true hi
   have l2 : decide ((i : Int) < (n : Int)) = true := decide_eq_true (by omega)
   have l3 : (i : Int) < (n : Int) := by omega
   have HIL : Aside0 (i < l.length) := ⟨by rw [← HN.out]; exact hi⟩
   have hib : (i : Int) ≤ 1000000 := by have := HIL.out; have := HL.out; omega
   have hip : (0 : Int) ≤ (i : Int) := by omega
   obtain ⟨ad, hA, q0⟩ := Kd.at_string HC.out (i : Int) (by omega) (by have := HIL.out; omega)
   subst hA
   obtain ⟨x, hx⟩ : ∃ x, x = rdOf ByteArray.empty l (i : Int) := ⟨_, rfl⟩
   have HX : Aside0 (x = l[i]'HIL.out) := ⟨by rw [hx]; have := HIL.out; simp [rdOf, this]⟩
   rw [← hx] at q0
   simp only [Int.toNat_natCast] at q0
   replace q0 := (HB.out.cell (World.block_lt_of_cell? w _ q0)).trans q0
   obtain ⟨b, hb⟩ : ∃ b, b = p x := ⟨_, rfl⟩
   have H5 := Aside0.mk (HCALL.out x (by rw [HX.out]; exact List.getElem_mem _) wr HB.out)
   rw [← hb] at H5
   have HTA : Aside0 ((l.take (i + 1)).any p = b) := ⟨by rw [List.take_add_one, List.getElem?_eq_getElem HIL.out, Option.toList_some, List.any_append, HA.out, hb, HX.out]; simp⟩
   have HTB : Aside0 (b = true → l.any p = true) := ⟨fun h => List.any_eq_true.2 ⟨x, by rw [HX.out]; exact List.getElem_mem _, by rw [← hb, h]⟩⟩
   clear hx hi hb
   cases b
   ·go_wp2_with fail
    rw [HENT.out, Oper.upon_enter]
    refine H5.out.mono ?_
    rintro e w6 ⟨rfl, hb6⟩
    dsimp only
    have HB6 : Aside0 (Below w.heap.size w w6) := ⟨HB.out.trans (hb6.mono HB.out.size)⟩
    clear hb6 H5 HB q0 HA
    go_wp2
    go_roundg (l.length - (i + 1))
    case measure => have := HGK.out; have := HIL.out; omega
    case rel => exact ⟨i + 1, by first | rfl | go_num, ⟨HIL.out⟩, ⟨Nat.le_refl _⟩, HTA, HB6⟩
   ·have HT := Aside0.mk (HTB.out rfl)
    go_wp2_with fail
    rw [HENT.out, Oper.upon_enter]
    refine H5.out.mono ?_
    rintro e w6 ⟨rfl, hb6⟩
    dsimp only
    have HB6 : Aside0 (Below w.heap.size w w6) := ⟨HB.out.trans (hb6.mono HB.out.size)⟩
    clear hb6 H5 HB q0 HA
    go_wp2
    go_ret
    exact ⟨_, rfl, by rw [HT.out]; exact decide_eq_true (by omega), HB6.out⟩
  ·have l1 : decide (i < n) = false := decide_eq_false hi
   have l2 : decide ((i : Int) < (n : Int)) = false := decide_eq_false (by omega)
   have l3 : ¬ (i : Int) < (n : Int) := by omega
   have HF : Aside0 (l.any p = false) := ⟨by
    have h := HA.out
    rwa [List.take_of_length_le (by have := HN.out; omega)] at h⟩
   clear hi
   go_wp2
   go_ret
   exact ⟨_, rfl, by rw [HF.out]; rfl, HB.out⟩
end Go.Proofs.YtdlahgamdigkhaaDoor.Sn
namespace Go.Proofs.YtdlahgamdigkhaaDoor.Sn
open Go.RowKit Go.Maps Go.Proofs.YtdlahgamdigkhaaDoor.Pr Go.Proofs.YtdlahgamdigkhaaDoorW.PrintWords Go.Proofs.YtdlahgamdigkhaaDoorW.PrintLast Go.Proofs.YtdlahgamdigkhaaDoorW.PrintMore Go.Proofs.YtdlahgamdigkhaaDoor.Mp
open Go.Proofs.YtdlahgamdigkhaaDoor.Ps hiding Tk
open Go.Proofs.YtdlahgamdigkhaaDoor.Pu (w64)
def ascB (s : ByteArray) : Bool := (bytesOf s).all fun c => decide (c < 128)
def tokC (c : Int) : Bool := (decide (97 ≤ c) && decide (c ≤ 122)) || (decide (65 ≤ c) && decide (c ≤ 90)) || (decide (48 ≤ c) && decide (c ≤ 57)) || decide (0 ≤ Go.Lib.indexByte [33, 35, 36, 37, 38, 39, 42, 43, 45, 46, 94, 95, 124, 126, 96] c.toNat.toUInt8)
def tokB (s : ByteArray) : Bool := (bytesOf s).all tokC && !(bytesOf s).isEmpty
theorem dropB (s : ByteArray) (i : Nat) (h : i < s.size) : (bytesOf s).drop i = bt s (i : Int) :: (bytesOf s).drop (i + 1) := by
 rw [List.drop_eq_getElem_cons (by rw [bytesOf_length]; exact h)]
 congr 1
 simp [bytesOf, bt, h]
 rfl
theorem asc_loop (s : ByteArray) (hs : s.size ≤ 1000000) : ∀ (d i : Nat), i + d = s.size → Ev (fun k => csp_ASCII.l0 k s (s.size : Int) (i : Int)) (((bytesOf s).drop i).all fun c => decide (c < 128))
 | 0, i, hi => by
  refine Ev.step (f := fun _ => some true) (fun k => ?_) ((Ev.now _).eq ?_)
  ·simp only [csp_ASCII.l0]; rw [if_neg (by omega)]
  ·rw [List.drop_eq_nil_of_le (by rw [bytesOf_length]; omega)]; first | done | rfl
 | d + 1, i, hi => by
  rw [dropB s i (by omega), List.all_cons]
  by_cases hc : bt s (i : Int) < 128
  ·rw [decide_eq_true hc, Bool.true_and]
   refine Ev.step (f := fun k => csp_ASCII.l0 k s (s.size : Int) ((i + 1 : Nat) : Int)) (fun k => ?_) (asc_loop s hs d (i + 1) (by omega))
   simp only [csp_ASCII.l0]
   rw [if_pos (by omega), if_pos (by omega), if_pos (by omega), if_neg (by omega), w64 (by omega) (by omega)]
   rfl
  ·rw [decide_eq_false hc, Bool.false_and]
   refine Ev.step (f := fun _ => some false) (fun k => ?_) (Ev.now _)
   simp only [csp_ASCII.l0]
   rw [if_pos (by omega), if_pos (by omega), if_pos (by omega), if_pos (by omega)]
theorem asc_calls (s : ByteArray) (hs : s.size ≤ 1000000) (w : World) : Calls Tryd.prog 21 #[.string s] w fun e w' => e = .returned (.bool (ascB s)) ∧ Below w.heap.size w w' := by
 obtain ⟨k, hk⟩ := asc_loop s hs s.size 0 (by omega)
 refine (csp_ASCII.calls k s _ w (hk k (Nat.le_refl _))).mono fun e w' h => ⟨h.1, ?_⟩
 have := h.2
 first | exact this | exact this.below
theorem tok_loop (s : ByteArray) (hs : s.size ≤ 1000000) : ∀ (d i : Nat), i + d = s.size → Ev (fun k => ascii_Token.l0 k s (s.size : Int) (i : Int)) (((bytesOf s).drop i).all tokC && !(bytesOf s).isEmpty)
 | 0, i, hi => by
  refine Ev.step (f := fun _ => some (s.toList != [])) (fun k => ?_) ((Ev.now _).eq ?_)
  ·simp only [ascii_Token.l0]; rw [if_neg (by omega)]
  ·rw [List.drop_eq_nil_of_le (by rw [bytesOf_length]; omega)]
   have : (bytesOf s).isEmpty = s.toList.isEmpty := by
    rw [bytesOf, ByteArray.toList_eq]; cases s.data.toList <;> rfl
   rw [this]
   first | done | (cases s.toList <;> rfl)
 | d + 1, i, hi => by
  rw [dropB s i (by omega), List.all_cons]
  by_cases hc : tokC (bt s (i : Int)) = true
  ·rw [hc, Bool.true_and]
   refine Ev.step (f := fun k => ascii_Token.l0 k s (s.size : Int) ((i + 1 : Nat) : Int)) (fun k => ?_) (tok_loop s hs d (i + 1) (by omega))
   simp only [ascii_Token.l0, strings_IndexByte.f, Option.bind_some]
   rw [if_pos (by omega), if_pos (by omega), if_pos (by omega), w64 (by omega) (by omega)]
   rw [tokC] at hc
   simp only [Bool.or_eq_true, Bool.and_eq_true, decide_eq_true_eq] at hc
   repeat' split
   all_goals first | rfl | (exfalso; omega)
  ·rw [Bool.eq_false_iff.2 hc, Bool.false_and, Bool.false_and]
   refine Ev.step (f := fun _ => some false) (fun k => ?_) (Ev.now _)
   simp only [ascii_Token.l0, strings_IndexByte.f, Option.bind_some]
   rw [if_pos (by omega), if_pos (by omega), if_pos (by omega)]
   rw [tokC] at hc
   simp only [Bool.or_eq_true, Bool.and_eq_true, decide_eq_true_eq, not_or, not_and] at hc
   repeat' split
   all_goals first | rfl | (exfalso; omega)
theorem tok_calls (s : ByteArray) (hs : s.size ≤ 1000000) (w : World) : Calls Tryd.prog 39 #[.string s] w fun e w' => e = .returned (.bool (tokB s)) ∧ Below w.heap.size w w' := by
 obtain ⟨k, hk⟩ := tok_loop s hs s.size 0 (by omega)
 refine (ascii_Token.calls k s _ w (hk k (Nat.le_refl _))).mono fun e w' h => ⟨h.1, ?_⟩
 have := h.2
 first | exact this | exact this.below
end Go.Proofs.YtdlahgamdigkhaaDoor.Sn
namespace Go.Proofs.YtdlahgamdigkhaaDoor.Sn
open Go.RowKit Go.Maps Go.Proofs.YtdlahgamdigkhaaDoor.Pr Go.Proofs.YtdlahgamdigkhaaDoorW.PrintWords Go.Proofs.YtdlahgamdigkhaaDoorW.PrintLast Go.Proofs.YtdlahgamdigkhaaDoorW.PrintMore Go.Proofs.YtdlahgamdigkhaaDoor.Mp
open Go.Proofs.YtdlahgamdigkhaaDoor.Ps hiding Tk lowB
set_option maxHeartbeats 16000000
set_option maxRecDepth 100000
theorem contains_func (F : FuncId) (hent : Enters F) (cap : Array Value) (p : ByteArray → Bool) (l : List ByteArray) (A : Option Addr) (n c : Nat) (w : World) (hn : n = l.length) (hl : l.length ≤ 1000000) (hC : Kd.string.C w A l.length l)
  (hcall : ∀ x ∈ l, ∀ w', Below w.heap.size w w' → Calls Tryd.prog F (#[.string x] ++ cap) w' fun e w'' => e = .returned (.bool (p x)) ∧ Below w'.heap.size w' w'') :
  Calls Tryd.prog 36 #[.slice A n c, .func (Fn.func F) #[] cap] w fun e w' => e = .returned (.bool (l.any p)) ∧ Below w.heap.size w w' := by
 have H := Aside0.mk (index_func F hent cap p l A n c w hn hl hC hcall)
 obtain ⟨b, hb⟩ : ∃ b, b = l.any p := ⟨_, rfl⟩
 rw [← hb] at H ⊢
 clear hb hcall hC hn
 go_enter Tryd.func36, Tryd.ntmps36
 go_wp2_with fail
 refine H.out.mono ?_
 rintro e w1 ⟨r, rfl, hr, hb1⟩
 dsimp only
 have HB := Aside0.mk hb1
 have HR := Aside0.mk hr
 clear hb1 hr H
 go_wp2
 go_ret
 exact ⟨by rw [← HR.out]; first | done | rfl, HB.out⟩
def lowQ (s x : ByteArray) : Bool := decide (Lw.lowB x = Lw.lowB s)
theorem same1_calls (x s : ByteArray) (hx : x.size ≤ 1000000) (hs : s.size ≤ 1000000) (b : Nat) (w : World) (hb : w.cell? ⟨b, 0, none⟩ = some (.string s)) :
  Calls Tryd.prog 67 #[.string x, .pointer (some ⟨b, 0, none⟩)] w fun e w' => e = .returned (.bool (lowQ s x)) ∧ Below w.heap.size w w' := by
 have h1 : ascii_Same.f x s = some (lowQ s x) := by
  rw [ascii_Same.f, ascii_Lower.f, ascii_Lower.f, if_pos hx, if_pos hs, Option.bind_some, Option.bind_some, lowQ]
  congr 1
  by_cases h : Lw.lowB x = Lw.lowB s
  ·rw [h, decide_eq_true rfl]; exact beq_self_eq_true _
  ·rw [decide_eq_false h]
   exact beq_eq_false_iff_ne.2 (fun he => h (bytes_toList.1 he))
 have H := Aside0.mk (ascii_Same.calls x s _ w h1)
 obtain ⟨q, hq⟩ : ∃ q, q = lowQ s x := ⟨_, rfl⟩
 rw [← hq] at H ⊢
 clear h1 hq
 go_enter Tryd.func67, Tryd.ntmps67
 go_wp2_with fail
 refine H.out.mono ?_
 rintro e w1 ⟨rfl, hb1⟩
 dsimp only
 have HB : Aside0 (Below w.heap.size w w1) := ⟨by first | exact hb1 | exact hb1.below⟩
 clear hb1 H
 go_wp2
 go_ret
 exact ⟨rfl, HB.out⟩
theorem same_calls (s : ByteArray) (l : List ByteArray) (hs : s.size ≤ 1000000) (hl : ∀ x ∈ l, x.size ≤ 1000000) (A : Option Addr) (n c : Nat) (w : World) (hn : n = l.length) (hle : l.length ≤ 1000000) (hC : Kd.string.C w A l.length l) :
  Calls Tryd.prog 52 #[.string s, .slice A n c] w fun e w' => e = .returned (.bool (l.any (lowQ s))) ∧ Below w.heap.size w w' := by
 obtain ⟨w1, hw1⟩ : ∃ w1, w1 = w.alloc (.cells #[.string s] 9) := ⟨_, rfl⟩
 have hb0 : Below w.heap.size w w1 := by rw [hw1]; exact below_alloc (Below.refl _ _) _
 have hx : w1.heap[w.heap.size]? = some (.cells #[.string s] 9 (0, 0)) := by rw [hw1]; exact blk_new _ _
 have H := Aside0.mk (contains_func 67 ent_same #[.pointer (some ⟨w.heap.size, 0, none⟩)] (lowQ s) l A n c w1 hn hle (Kd.C_below hC hb0) (fun x hxl w' hb => same1_calls x s (hl x hxl) hs w.heap.size w' (blk_cell (blk_below hx hb) 0)))
 have HB := Aside0.mk hb0
 have HW1 := Aside0.mk hw1
 obtain ⟨q, hq⟩ : ∃ q, q = l.any (lowQ s) := ⟨_, rfl⟩
 rw [← hq] at H ⊢
 have hmf := hmf
 clear hb0 hx hw1 hC hq hl hn
 go_enter Tryd.func52, Tryd.ntmps52
 go_upto_region 1 with (fail)
 rw [← HW1.out]
 go_wp2_with fail
 refine H.out.mono ?_
 rintro e w2 ⟨rfl, hb1⟩
 dsimp only
 have HB2 : Aside0 (Below w.heap.size w w2) := ⟨HB.out.trans (hb1.mono HB.out.size)⟩
 clear hb1 H
 go_wp2
 go_ret
 exact ⟨rfl, HB2.out⟩
def wConnect : ByteArray := ⟨#[67, 79, 78, 78, 69, 67, 84]⟩
def wTrace : ByteArray := ⟨#[84, 82, 65, 67, 69]⟩
def wTrack : ByteArray := ⟨#[84, 82, 65, 67, 75]⟩
def forbL : List ByteArray := [wConnect, wTrace, wTrack]
def forbB (s : ByteArray) : Bool := forbL.any (lowQ s) || !tokB s
theorem forb_calls (s : ByteArray) (hs : s.size ≤ 1000000) (w : World) :
  Calls Tryd.prog 37 #[.string s] w fun e w' => e = .returned (.bool (forbB s)) ∧ Below w.heap.size w w' := by
 obtain ⟨w1, hw1⟩ : ∃ w1, w1 = w.alloc (.cells #[.string wConnect, .string wTrace, .string wTrack] 9) := ⟨_, rfl⟩
 have hb0 : Below w.heap.size w w1 := by rw [hw1]; exact below_alloc (Below.refl _ _) _
 have hC : Kd.string.C w1 (some ⟨w.heap.size, 0, none⟩) forbL.length forbL := by rw [hw1]; exact lit_strs w forbL (by decide)
 have H := Aside0.mk (same_calls s forbL hs (by decide) (some ⟨w.heap.size, 0, none⟩) 3 3 w1 rfl (by decide) hC)
 have HT : Aside0 (∀ w, _) := ⟨fun w => tok_calls s hs w⟩
 have HF : Aside0 (forbB s = (forbL.any (lowQ s) || !tokB s)) := ⟨rfl⟩
 obtain ⟨q, hq⟩ : ∃ q, q = forbL.any (lowQ s) := ⟨_, rfl⟩
 obtain ⟨t, ht⟩ : ∃ t, t = tokB s := ⟨_, rfl⟩
 obtain ⟨f, hf⟩ : ∃ f, f = forbB s := ⟨_, rfl⟩
 rw [← hq] at H
 rw [← ht] at HT
 rw [← hq, ← ht, ← hf] at HF
 rw [← hf]
 have HB := Aside0.mk hb0
 have HW1 := Aside0.mk hw1
 clear hb0 HW1 hC hq ht hf
 subst hw1
 cases q
 ·go_enter Tryd.func37, Tryd.ntmps37
  go_wp2_with fail
  refine H.out.mono ?_
  rintro e w2 ⟨rfl, hb1⟩
  dsimp only
  have HB2 : Aside0 (Below w.heap.size w w2) := ⟨HB.out.trans (hb1.mono HB.out.size)⟩
  clear hb1 H
  go_wp2_with fail
  refine (HT.out w2).mono ?_
  rintro e w3 ⟨rfl, hb3⟩
  dsimp only
  have HB3 : Aside0 (Below w.heap.size w w3) := ⟨HB2.out.trans (hb3.mono HB2.out.size)⟩
  clear hb3 HT
  go_wp2
  go_ret
  exact ⟨by rw [HF.out]; first | done | rfl, HB3.out⟩
 ·go_enter Tryd.func37, Tryd.ntmps37
  go_wp2_with fail
  refine H.out.mono ?_
  rintro e w2 ⟨rfl, hb1⟩
  dsimp only
  have HB2 : Aside0 (Below w.heap.size w w2) := ⟨HB.out.trans (hb1.mono HB.out.size)⟩
  clear hb1 H HT
  go_wp2
  go_ret
  exact ⟨by rw [HF.out]; first | done | rfl, HB2.out⟩
theorem notok_calls (s : ByteArray) (hs : s.size ≤ 1000000) (w : World) :
  Calls Tryd.prog 38 #[.string s] w fun e w' => e = .returned (.bool (!tokB s)) ∧ Below w.heap.size w w' := by
 have H := Aside0.mk (tok_calls s hs w)
 obtain ⟨t, ht⟩ : ∃ t, t = tokB s := ⟨_, rfl⟩
 rw [← ht] at H ⊢
 clear ht
 go_enter Tryd.func38, Tryd.ntmps38
 go_wp2_with fail
 refine H.out.mono ?_
 rintro e w1 ⟨rfl, hb1⟩
 dsimp only
 have HB := Aside0.mk hb1
 clear hb1 H
 go_wp2
 go_ret
 exact ⟨rfl, HB.out⟩
end Go.Proofs.YtdlahgamdigkhaaDoor.Sn
namespace Go.Proofs.YtdlahgamdigkhaaDoor.Sn
open Go.RowKit Go.Maps Go.Proofs.YtdlahgamdigkhaaDoor.Pr Go.Proofs.YtdlahgamdigkhaaDoorW.PrintWords Go.Proofs.YtdlahgamdigkhaaDoorW.PrintLast Go.Proofs.YtdlahgamdigkhaaDoorW.PrintMore Go.Proofs.YtdlahgamdigkhaaDoor.Mp
open Go.Proofs.YtdlahgamdigkhaaDoor.Ps hiding Tk lowB
def OrgB (s : ByteArray) (b : Bool) : Prop := ∃ k o0 o1 o2 e, origin_Parse.f k s = some (o0, o1, o2, e) ∧ b = (decide (e = 0) && !(o0.toList == ([] : List UInt8) && (o1.toList == ([] : List UInt8) && (o2 == 0))))
def wStar : ByteArray := ⟨#[42]⟩
def shareV (o : Bool) (s : Sh) : Bool := (if s.f0 = wStar then !s.f3 else o) && (!s.f1.any forbB && !s.f2.any (fun t => !tokB t))
theorem size_org : (Tryd.prog.info? 79).map (·.size) = some 3 := by kernel_rfl
set_option maxHeartbeats 16000000
set_option maxRecDepth 100000
def TailQ (w : World) (A1 A2 : Option Addr) (n1 c1 n2 c2 : Nat) (q1 q2 : Bool) : Prop :=
 (∀ w', Below w.heap.size w w' → Calls Tryd.prog 36 #[.slice A1 n1 c1, .func (Fn.func 37) #[] #[]] w' fun e w'' => e = .returned (.bool q1) ∧ Below w'.heap.size w' w'') ∧
 ∀ w', Below w.heap.size w w' → Calls Tryd.prog 36 #[.slice A2 n2 c2, .func (Fn.func 38) #[] #[]] w' fun e w'' => e = .returned (.bool q2) ∧ Below w'.heap.size w' w''
theorem tail_of (s : Sh) (A1 A2 : Option Addr) (n1 c1 n2 c2 : Nat) (w : World) (h1 : n1 = s.f1.length) (h2 : n2 = s.f2.length) (l1 : s.f1.length ≤ 1000000) (l2 : s.f2.length ≤ 1000000) (z1 : ∀ x ∈ s.f1, x.size ≤ 1000000) (z2 : ∀ x ∈ s.f2, x.size ≤ 1000000) (hC1 : Kd.string.C w A1 s.f1.length s.f1) (hC2 : Kd.string.C w A2 s.f2.length s.f2) :
    TailQ w A1 A2 n1 c1 n2 c2 (s.f1.any forbB) (s.f2.any fun t => !tokB t) :=
  ⟨fun w' hb => contains_func _ ent_forb #[] forbB s.f1 A1 n1 c1 w' h1 l1 (Kd.C_below hC1 hb) (fun x hx w2 _ => forb_calls x (z1 x hx) w2),
   fun w' hb => contains_func _ ent_tok #[] (fun t => !tokB t) s.f2 A2 n2 c2 w' h2 l2 (Kd.C_below hC2 hb) (fun x hx w2 _ => notok_calls x (z2 x hx) w2)⟩
theorem share_star (A1 A2 : Option Addr) (n1 c1 n2 c2 : Nat) (q1 q2 cr : Bool) (w : World) (hT : TailQ w A1 A2 n1 c1 n2 c2 q1 q2) :
  Calls Tryd.prog 22 #[.agg #[.string wStar, .slice A1 n1 c1, .slice A2 n2 c2, .bool cr]] w fun e w' => e = .returned (.bool (!cr && (!q1 && !q2))) ∧ Below w.heap.size w w' := by
 obtain ⟨w1, hw1⟩ : ∃ w1, w1 = w.alloc (.cells #[.string wStar, .slice A1 n1 c1, .slice A2 n2 c2, .bool cr] 47) := ⟨_, rfl⟩
 have hb0 : Below w.heap.size w w1 := by rw [hw1]; exact below_alloc (Below.refl _ _) _
 have HX : Aside0 (w1.heap[w.heap.size]? = some (.cells #[.string wStar, .slice A1 n1 c1, .slice A2 n2 c2, .bool cr] 47 (0, 0))) := ⟨by rw [hw1]; exact blk_new _ _⟩
 have HT := Aside0.mk hT
 have HB := Aside0.mk hb0
 have HW1 := Aside0.mk hw1
 have t0 : w1.cell? ⟨w.heap.size, 0, none⟩ = some (.string wStar) := blk_cell HX.out 0
 have t1 : w1.cell? ⟨w.heap.size, 1, none⟩ = some (.slice A1 n1 c1) := blk_cell HX.out 1
 have t3 : w1.cell? ⟨w.heap.size, 3, none⟩ = some (.bool cr) := blk_cell HX.out 3
 have e0 : (wStar.toList == ([42] : List UInt8)) = true := by decide +kernel
 clear hT hb0 hw1
 cases cr
 ·go_enter Tryd.func22, Tryd.ntmps22
  go_upto_region 1 with (fail)
  rw [← HW1.out]
  cases q1
  ·go_wp2_with fail
   refine (HT.out.1 w1 HB.out).mono ?_
   rintro e w2 ⟨rfl, hb1⟩
   dsimp only
   have HB2 : Aside0 (Below w.heap.size w w2) := ⟨HB.out.trans (hb1.mono HB.out.size)⟩
   have t2 : w2.cell? ⟨w.heap.size, 2, none⟩ = some (.slice A2 n2 c2) := blk_cell (blk_below HX.out hb1) 2
   clear hb1
   go_wp2_with fail
   refine (HT.out.2 w2 HB2.out).mono ?_
   rintro e w3 ⟨rfl, hb3⟩
   dsimp only
   have HB3 : Aside0 (Below w.heap.size w w3) := ⟨HB2.out.trans (hb3.mono HB2.out.size)⟩
   clear hb3 HT
   go_wp2
   go_ret
   exact ⟨by first | rfl | (cases q2 <;> rfl), HB3.out⟩
  ·go_wp2_with fail
   refine (HT.out.1 w1 HB.out).mono ?_
   rintro e w2 ⟨rfl, hb1⟩
   dsimp only
   have HB2 : Aside0 (Below w.heap.size w w2) := ⟨HB.out.trans (hb1.mono HB.out.size)⟩
   clear hb1 HT
   go_wp2
   go_ret
   exact ⟨by first | rfl | (cases q2 <;> rfl), HB2.out⟩
 ·go_enter Tryd.func22, Tryd.ntmps22
  go_upto_region 1 with (fail)
  rw [← HW1.out]
  go_wp2_with fail
  go_ret
  exact ⟨rfl, HB.out⟩
theorem share_org (s : ByteArray) (hs : s ≠ wStar) (o : Bool) (ho : OrgB s o) (A1 A2 : Option Addr) (n1 c1 n2 c2 : Nat) (q1 q2 cr : Bool) (w : World) (hL : Laid w) (hT : TailQ w A1 A2 n1 c1 n2 c2 q1 q2) :
    Calls Tryd.prog 22 #[.agg #[.string s, .slice A1 n1 c1, .slice A2 n2 c2, .bool cr]] w fun e w' => e = .returned (.bool (o && (!q1 && !q2))) ∧ Below w.heap.size w w' := by
  obtain ⟨w1, hw1⟩ : ∃ w1, w1 = w.alloc (.cells #[.string s, .slice A1 n1 c1, .slice A2 n2 c2, .bool cr] 47) := ⟨_, rfl⟩
  have hb0 : Below w.heap.size w w1 := by rw [hw1]; exact below_alloc (Below.refl _ _) _
  have HX : Aside0 (w1.heap[w.heap.size]? = some (.cells #[.string s, .slice A1 n1 c1, .slice A2 n2 c2, .bool cr] 47 (0, 0))) := ⟨by rw [hw1]; exact blk_new _ _⟩
  obtain ⟨k, o0, o1, o2, e, hf, hoe⟩ := ho
  have H5 := Aside0.mk (origin_Parse.calls k s o0 o1 o2 e w1 (hL.below hb0) hf)
  have HT := Aside0.mk hT
  have HB := Aside0.mk hb0
  have HW1 := Aside0.mk hw1
  have HOE := Aside0.mk hoe
  have t0 : w1.cell? ⟨w.heap.size, 0, none⟩ = some (.string s) := blk_cell HX.out 0
  have e0 : (s.toList == ([42] : List UInt8)) = false := beq_eq_false_iff_ne.2 (fun h => hs (bytes_toList.1 (h.trans (by decide +kernel))))
  obtain ⟨p0, r0⟩ : ∃ p, (o0.toList == ([] : List UInt8)) = p := ⟨_, rfl⟩
  obtain ⟨p1, r1⟩ : ∃ p, (o1.toList == ([] : List UInt8)) = p := ⟨_, rfl⟩
  obtain ⟨p2, r2⟩ : ∃ p, (o2 == (0 : Int)) = p := ⟨_, rfl⟩
  rw [r0, r1, r2] at HOE
  clear hT hb0 hw1 hs hf hoe hL
  by_cases he : e = 0
  · subst he
    rw [decide_eq_true rfl, Bool.true_and] at HOE
    by_cases hp : (p0 && (p1 && p2)) = true
    · simp only [Bool.and_eq_true] at hp
      obtain ⟨rfl, rfl, rfl⟩ := hp
      go_enter Tryd.func22, Tryd.ntmps22
      go_upto_region 1 with (fail)
      rw [← HW1.out]
      go_wp2_with fail
      refine H5.out.mono ?_
      rintro e w2 ⟨rfl, hb2⟩
      dsimp only
      obtain ⟨w3, hw3⟩ : ∃ w3, w3 = (w2.alloc (.cells #[.string ⟨#[]⟩, .string ⟨#[]⟩, .int .i64 0] 79)).setRow w2.heap.size #[.string o0, .string o1, .int .i64 o2] := ⟨_, rfl⟩
      have hb3 : Below w2.heap.size w2 w3 := by rw [hw3]; exact below_setRow (below_alloc (Below.refl _ _) _) (Nat.le_refl _) _
      have hx3 : w3.heap[w2.heap.size]? = some (.cells #[.string o0, .string o1, .int .i64 o2] 79 (0, 0)) := by rw [hw3]; exact setRow_heap _ _ _ _ _ _ (blk_new w2 (.cells #[.string ⟨#[]⟩, .string ⟨#[]⟩, .int .i64 0] 79))
      have HB2 : Aside0 (Below w.heap.size w w3) := ⟨HB.out.trans ((hb2.trans (hb3.mono hb2.size)).mono HB.out.size)⟩
      have HX3 : Aside0 (w3.heap[w.heap.size]? = some (.cells #[.string s, .slice A1 n1 c1, .slice A2 n2 c2, .bool cr] 47 (0, 0))) := ⟨blk_below (blk_below HX.out hb2) hb3⟩
      have t1 : w3.cell? ⟨w.heap.size, 1, none⟩ = some (.slice A1 n1 c1) := blk_cell HX3.out 1
      have y0 : w3.cell? ⟨w2.heap.size, 0, none⟩ = some (.string o0) := blk_cell hx3 0
      have y1 : w3.cell? ⟨w2.heap.size, 1, none⟩ = some (.string o1) := blk_cell hx3 1
      have y2 : w3.cell? ⟨w2.heap.size, 2, none⟩ = some (.int .i64 o2) := blk_cell hx3 2
      have HW3 := Aside0.mk hw3
      clear hb2 hb3 hx3 hw3 H5 t0
      go_upto_region 5 with (refine wpList_store_row rfl 79 _ _ rfl w2.heap.size #[.string o0, .string o1, .int .i64 o2] rfl rfl 79 #[.string ⟨#[]⟩, .string ⟨#[]⟩, .int .i64 0] (blk_new _ _) size_org rfl (by simp [Value.oneCell']) ?_)
      rw [← HW3.out]
      go_wp2
      go_ret
      exact ⟨by rw [HOE.out]; first | done | rfl, HB2.out⟩
    · cases p0 <;> cases p1 <;> cases p2 <;> first
      | exact absurd rfl hp
      | (clear hp
         go_enter Tryd.func22, Tryd.ntmps22
         go_upto_region 1 with (fail)
         rw [← HW1.out]
         go_wp2_with fail
         refine H5.out.mono ?_
         rintro e w2 ⟨rfl, hb2⟩
         dsimp only
         obtain ⟨w3, hw3⟩ : ∃ w3, w3 = (w2.alloc (.cells #[.string ⟨#[]⟩, .string ⟨#[]⟩, .int .i64 0] 79)).setRow w2.heap.size #[.string o0, .string o1, .int .i64 o2] := ⟨_, rfl⟩
         have hb3 : Below w2.heap.size w2 w3 := by rw [hw3]; exact below_setRow (below_alloc (Below.refl _ _) _) (Nat.le_refl _) _
         have hx3 : w3.heap[w2.heap.size]? = some (.cells #[.string o0, .string o1, .int .i64 o2] 79 (0, 0)) := by rw [hw3]; exact setRow_heap _ _ _ _ _ _ (blk_new w2 (.cells #[.string ⟨#[]⟩, .string ⟨#[]⟩, .int .i64 0] 79))
         have HB2 : Aside0 (Below w.heap.size w w3) := ⟨HB.out.trans ((hb2.trans (hb3.mono hb2.size)).mono HB.out.size)⟩
         have HX3 : Aside0 (w3.heap[w.heap.size]? = some (.cells #[.string s, .slice A1 n1 c1, .slice A2 n2 c2, .bool cr] 47 (0, 0))) := ⟨blk_below (blk_below HX.out hb2) hb3⟩
         have t1 : w3.cell? ⟨w.heap.size, 1, none⟩ = some (.slice A1 n1 c1) := blk_cell HX3.out 1
         have y0 : w3.cell? ⟨w2.heap.size, 0, none⟩ = some (.string o0) := blk_cell hx3 0
         have y1 : w3.cell? ⟨w2.heap.size, 1, none⟩ = some (.string o1) := blk_cell hx3 1
         have y2 : w3.cell? ⟨w2.heap.size, 2, none⟩ = some (.int .i64 o2) := blk_cell hx3 2
         have HW3 := Aside0.mk hw3
         clear hb2 hb3 hx3 hw3 H5 t0
         go_upto_region 5 with (refine wpList_store_row rfl 79 _ _ rfl w2.heap.size #[.string o0, .string o1, .int .i64 o2] rfl rfl 79 #[.string ⟨#[]⟩, .string ⟨#[]⟩, .int .i64 0] (blk_new _ _) size_org rfl (by simp [Value.oneCell']) ?_)
         rw [← HW3.out]
         cases q1
         · go_wp2_with fail
           refine (HT.out.1 w3 HB2.out).mono ?_
           rintro e w4 ⟨rfl, hb1⟩
           dsimp only
           have HB3 : Aside0 (Below w.heap.size w w4) := ⟨HB2.out.trans (hb1.mono HB2.out.size)⟩
           have t2 : w4.cell? ⟨w.heap.size, 2, none⟩ = some (.slice A2 n2 c2) := blk_cell (blk_below HX3.out hb1) 2
           clear hb1 y0 y1 y2
           go_wp2_with fail
           refine (HT.out.2 w4 HB3.out).mono ?_
           rintro e w5 ⟨rfl, hb3⟩
           dsimp only
           have HB4 : Aside0 (Below w.heap.size w w5) := ⟨HB3.out.trans (hb3.mono HB3.out.size)⟩
           clear hb3 HT
           go_wp2
           go_ret
           exact ⟨by rw [HOE.out]; first | rfl | (cases q2 <;> rfl), HB4.out⟩
         · go_wp2_with fail
           refine (HT.out.1 w3 HB2.out).mono ?_
           rintro e w4 ⟨rfl, hb1⟩
           dsimp only
           have HB3 : Aside0 (Below w.heap.size w w4) := ⟨HB2.out.trans (hb1.mono HB2.out.size)⟩
           clear hb1 HT y0 y1 y2
           go_wp2
           go_ret
           exact ⟨by rw [HOE.out]; first | rfl | (cases q2 <;> rfl), HB3.out⟩)
  · have HO : Aside0 (o = false) := ⟨by rw [HOE.out, decide_eq_false he, Bool.false_and]⟩
    have e1 : (e != (0 : Int)) = true := bne_iff_ne.2 he
    clear he
    go_enter Tryd.func22, Tryd.ntmps22
    go_upto_region 1 with (fail)
    rw [← HW1.out]
    go_wp2_with fail
    refine H5.out.mono ?_
    rintro e w2 ⟨rfl, hb2⟩
    dsimp only
    obtain ⟨w3, hw3⟩ : ∃ w3, w3 = (w2.alloc (.cells #[.string ⟨#[]⟩, .string ⟨#[]⟩, .int .i64 0] 79)).setRow w2.heap.size #[.string o0, .string o1, .int .i64 o2] := ⟨_, rfl⟩
    have hb3 : Below w2.heap.size w2 w3 := by rw [hw3]; exact below_setRow (below_alloc (Below.refl _ _) _) (Nat.le_refl _) _
    have hx3 : w3.heap[w2.heap.size]? = some (.cells #[.string o0, .string o1, .int .i64 o2] 79 (0, 0)) := by rw [hw3]; exact setRow_heap _ _ _ _ _ _ (blk_new w2 (.cells #[.string ⟨#[]⟩, .string ⟨#[]⟩, .int .i64 0] 79))
    have HB2 : Aside0 (Below w.heap.size w w3) := ⟨HB.out.trans ((hb2.trans (hb3.mono hb2.size)).mono HB.out.size)⟩
    have HX3 : Aside0 (w3.heap[w.heap.size]? = some (.cells #[.string s, .slice A1 n1 c1, .slice A2 n2 c2, .bool cr] 47 (0, 0))) := ⟨blk_below (blk_below HX.out hb2) hb3⟩
    have t1 : w3.cell? ⟨w.heap.size, 1, none⟩ = some (.slice A1 n1 c1) := blk_cell HX3.out 1
    have y0 : w3.cell? ⟨w2.heap.size, 0, none⟩ = some (.string o0) := blk_cell hx3 0
    have y1 : w3.cell? ⟨w2.heap.size, 1, none⟩ = some (.string o1) := blk_cell hx3 1
    have y2 : w3.cell? ⟨w2.heap.size, 2, none⟩ = some (.int .i64 o2) := blk_cell hx3 2
    have HW3 := Aside0.mk hw3
    clear hb2 hb3 hx3 hw3 H5 t0
    go_upto_region 5 with (refine wpList_store_row rfl 79 _ _ rfl w2.heap.size #[.string o0, .string o1, .int .i64 o2] rfl rfl 79 #[.string ⟨#[]⟩, .string ⟨#[]⟩, .int .i64 0] (blk_new _ _) size_org rfl (by simp [Value.oneCell']) ?_)
    rw [← HW3.out]
    go_wp2
    go_ret
    exact ⟨by rw [HO.out]; first | done | rfl, HB2.out⟩
theorem share_calls (s : Sh) (o : Bool) (ho : s.f0 ≠ wStar → OrgB s.f0 o) (A1 A2 : Option Addr) (c1 c2 : Nat) (w : World) (hL : Laid w) (l1 : s.f1.length ≤ 1000000) (l2 : s.f2.length ≤ 1000000) (z1 : ∀ x ∈ s.f1, x.size ≤ 1000000) (z2 : ∀ x ∈ s.f2, x.size ≤ 1000000) (hC1 : Kd.string.C w A1 s.f1.length s.f1) (hC2 : Kd.string.C w A2 s.f2.length s.f2) :
  Calls Tryd.prog 22 #[.agg #[.string s.f0, .slice A1 s.f1.length c1, .slice A2 s.f2.length c2, .bool s.f3]] w fun e w' => e = .returned (.bool (shareV o s)) ∧ Below w.heap.size w w' := by
 have hT := tail_of s A1 A2 s.f1.length c1 s.f2.length c2 w rfl rfl l1 l2 z1 z2 hC1 hC2
 unfold shareV
 by_cases h : s.f0 = wStar
 ·rw [if_pos h, h]
  exact share_star A1 A2 _ c1 _ c2 _ _ s.f3 w hT
 ·rw [if_neg h]
  exact share_org s.f0 h o (ho h) A1 A2 _ c1 _ c2 _ _ s.f3 w hL hT
end Go.Proofs.YtdlahgamdigkhaaDoor.Sn
namespace Go.Proofs.YtdlahgamdigkhaaDoor.Sn
open Go.RowKit Go.Maps Go.Proofs.YtdlahgamdigkhaaDoor.Pr Go.Proofs.YtdlahgamdigkhaaDoorW.PrintWords Go.Proofs.YtdlahgamdigkhaaDoorW.PrintLast Go.Proofs.YtdlahgamdigkhaaDoorW.PrintMore Go.Proofs.YtdlahgamdigkhaaDoor.Mp
open Go.Proofs.YtdlahgamdigkhaaDoor.Ps hiding Tk lowB
open Go.Proofs.YtdlahgamdigkhaaDoor.Pu (w64)
theorem idx_loop (l : List ByteArray) (s : ByteArray) (hl : l.length ≤ 1000000) : ∀ (d i : Nat), i + d = l.length → ∃ r : Int, Ev (fun k => slices_Index_string_string.l0 k l s (l.length : Int) (i : Int)) r ∧ decide (0 ≤ r) = memB s (l.drop i)
 | 0, i, hi => by
  refine ⟨-1, Ev.step (f := fun _ => some (-1)) (fun k => ?_) (Ev.now _), ?_⟩
  ·simp only [slices_Index_string_string.l0]; rw [if_neg (by omega)]
  ·rw [List.drop_eq_nil_of_le (by omega)]; rfl
 | d + 1, i, hi => by
  have hlt : i < l.length := by omega
  have e1 : rdOf ByteArray.empty l (i : Int) = l[i] := by simp [rdOf, hlt]
  rw [List.drop_eq_getElem_cons hlt, memB_cons]
  by_cases h : s = l[i]
  ·refine ⟨(i : Int), Ev.step (f := fun _ => some (i : Int)) (fun k => ?_) (Ev.now _), ?_⟩
   ·simp only [slices_Index_string_string.l0]
    rw [if_pos (by omega), if_pos (by omega), if_pos (by omega), e1, if_pos (by rw [h])]
   ·rw [decide_eq_true h, Bool.true_or]; exact decide_eq_true (by omega)
  ·obtain ⟨r, hr, hd⟩ := idx_loop l s hl d (i + 1) (by omega)
   refine ⟨r, Ev.step (f := fun k => slices_Index_string_string.l0 k l s (l.length : Int) ((i + 1 : Nat) : Int)) (fun k => ?_) hr, by rw [decide_eq_false h, Bool.false_or]; exact hd⟩
   simp only [slices_Index_string_string.l0]
   rw [if_pos (by omega), if_pos (by omega), if_pos (by omega), e1, if_neg (fun he => h (bytes_toList.1 he)), w64 (by omega) (by omega)]
   rfl
theorem any_calls (s : ByteArray) (l : List ByteArray) (hl : l.length ≤ 1000000) (A : Option Addr) (n c : Nat) (w : World) (hn : n = l.length) (hc : l.length ≤ c) (hC : Kd.string.C w A l.length l) :
  Calls Tryd.prog 20 #[.string s, .slice A n c] w fun e w' => e = .returned (.bool (memB s l)) ∧ Below w.heap.size w w' := by
 obtain ⟨r, ⟨k, hk⟩, hd⟩ := idx_loop l s hl l.length 0 (by omega)
 have h1 : ascii_Any.f k s l = some (memB s l) := by
  have h2 : slices_Index_string_string.l0 k l s (l.length : Int) 0 = some r := hk k (Nat.le_refl _)
  rw [ascii_Any.f, slices_Contains_string_string.f, slices_Index_string_string.f, h2, Option.bind_some, Option.bind_some]
  rw [List.drop_zero] at hd
  rw [← hd]
 subst hn
 refine (ascii_Any.calls k s A c l _ w hC hc h1).mono fun e w' h => ⟨h.1, ?_⟩
 have := h.2
 first | exact this | exact this.below
def cntL {α : Type} [DecidableEq α] (L : List α) (a : α) : Nat := L.count a
theorem cntL_le {α : Type} [DecidableEq α] (L : List α) (a : α) : cntL L a ≤ L.length := List.count_le_length
def MetC {α : Type} [DecidableEq α] (f : α → Option Int) (L : List α) : Prop := ∀ a, (f a).getD 0 = (cntL L a : Int)
theorem metC_nil {α : Type} [DecidableEq α] : MetC (fun _ : α => none) [] := fun _ => rfl
theorem MetC.add {α : Type} [DecidableEq α] {f : α → Option Int} {L : List α} (h : MetC f L) (a : α) : MetC (put f a ((cntL L a : Int) + 1)) (L ++ [a]) := fun b => by
 unfold cntL
 rw [List.count_append]
 by_cases e : b = a
 ·subst e
  rw [put, if_pos rfl, List.count_singleton_self]; rfl
 ·rw [put, if_neg e, h b, cntL, List.count_singleton, if_neg (by simpa using fun he => e he.symm)]; rfl
def twB {α : Type} [DecidableEq α] (L : List α) : Bool := !decide L.Nodup
theorem nodup_snoc {α : Type} [DecidableEq α] (L : List α) (a : α) : (L ++ [a]).Nodup ↔ (L.Nodup ∧ L.count a = 0) := by
 rw [List.nodup_append, List.count_eq_zero]
 constructor
 ·rintro ⟨h, _, h2⟩
  exact ⟨h, fun hm => h2 a hm a (List.mem_singleton_self a) rfl⟩
 ·rintro ⟨h, h2⟩
  refine ⟨h, by simp, fun x hx y hy he => h2 ?_⟩
  rw [List.mem_singleton] at hy
  rw [← hy, ← he]; exact hx
theorem twB_add {α : Type} [DecidableEq α] (L : List α) (a : α) : twB (L ++ [a]) = (twB L || decide ((1 : Int) < (cntL L a : Int) + 1)) := by
 rw [cntL]
 have h1 : decide (L ++ [a]).Nodup = (decide L.Nodup && decide (L.count a = 0)) := by rw [← Bool.decide_and]; exact decide_eq_decide.2 (nodup_snoc L a)
 rw [twB, h1, Bool.not_and, twB]
 congr 1
 by_cases h : L.count a = 0
 ·rw [decide_eq_true h, decide_eq_false (by omega)]; rfl
 ·rw [decide_eq_false h, decide_eq_true (by omega)]; rfl
def mixL : List ByteArray := [wBlock, wUpgrade, wAllow]
def badB (f : Sh → Bool) (csp : List ByteArray) (sh : List Sh) (m : ByteArray) (rules : List Rl) : Bool := ((!memB m mixL || rules.any fun r => !condB r.f1) || csp.any fun s => !ascB s) || sh.any fun s => !shareV (f s) s
def orgs (sh : List Sh) : List ByteArray := sh.map (·.f0)
def chkI (f : Sh → Bool) (csp : List ByteArray) (sh : List Sh) (m : ByteArray) (rules : List Rl) : Int :=
 if badB f csp sh m rules = true then 1 else if twB (orgs sh) = true then 10 else if 60 < csp.length + sh.length + rules.length ∨ 40 < (atomsP rules).length then 2 else 0
end Go.Proofs.YtdlahgamdigkhaaDoor.Sn
namespace Go.Proofs.YtdlahgamdigkhaaDoor.Sn
open Go.RowKit Go.Maps Go.Proofs.YtdlahgamdigkhaaDoor.Pr Go.Proofs.YtdlahgamdigkhaaDoorW.PrintWords Go.Proofs.YtdlahgamdigkhaaDoorW.PrintLast Go.Proofs.YtdlahgamdigkhaaDoorW.PrintMore Go.Proofs.YtdlahgamdigkhaaDoor.Mp
open Go.Proofs.YtdlahgamdigkhaaDoor.Ps hiding Tk lowB
open Go.Proofs.YtdlahgamdigkhaaDoor.Pu (sizeC sizeL sizeC_eq sizeL_len size_mem)
theorem conds_len {rules : List Rl} (hz : sizeL (condsR rules) ≤ 900000) : rules.length ≤ 900000 := by
 have h1 := sizeL_len (condsR rules)
 rw [condsR, List.length_map] at h1
 rw [condsR] at hz
 omega
theorem any_take {α : Type} {l : List α} {i : Nat} (h : i < l.length) (p : α → Bool) : (l.take (i + 1)).any p = ((l.take i).any p || p l[i]) := by
 rw [List.take_add_one, List.getElem?_eq_getElem h, Option.toList_some, List.any_append, List.any_cons, List.any_nil, Bool.or_false]
theorem encS_inj (x y : ByteArray) (h : Value.string x = Value.string y) : x = y := by injection h
set_option maxHeartbeats 32000000
set_option maxRecDepth 100000
theorem check_calls (f : Sh → Bool) (A0 A1 A3 : Option Addr) (n0 c0 n1 c1 n3 c3 : Nat) (m : ByteArray) (al : Bool) (csp : List ByteArray) (sh : List Sh) (rules : List Rl) (w : World) (hL : Laid w)
  (hC0 : Kd.string.C w A0 csp.length csp) (hC1 : k47.C w A1 sh.length sh) (hF : Kd.F k41 w (fun _ => True) A3 rules.length rules) (h0 : n0 = csp.length) (h1 : n1 = sh.length) (h3 : n3 = rules.length)
  (l0 : csp.length ≤ 900000) (l1 : sh.length ≤ 900000) (hz : sizeL (condsR rules) ≤ 900000) (hs : SzA (atomsL (condsR rules))) (hcs : ∀ s ∈ csp, s.size ≤ 1000000)
  (hsh : ∀ s ∈ sh, s.f0.size ≤ 1000000 ∧ s.f1.length ≤ 1000000 ∧ s.f2.length ≤ 1000000 ∧ (∀ x ∈ s.f1, x.size ≤ 1000000) ∧ ∀ x ∈ s.f2, x.size ≤ 1000000) (hf : ∀ s ∈ sh, s.f0 ≠ wStar → OrgB s.f0 (f s)) :
  Calls Tryd.prog 13 #[polV A0 A1 A3 n0 c0 n1 c1 n3 c3 m al] w fun e w' => e = .returned (.int .i64 (chkI f csp sh m rules)) ∧ Below w.heap.size w w' := by
 unfold polV
 obtain ⟨w1, hw1⟩ : ∃ w1, w1 = w.alloc (.cells #[.slice A0 n0 c0, .slice A1 n1 c1, .string m, .slice A3 n3 c3, .bool al] 26) := ⟨_, rfl⟩
 have hb0 : Below w.heap.size w w1 := by rw [hw1]; exact below_alloc (Below.refl _ _) _
 have HX1 : Aside0 (w1.heap[w.heap.size]? = some (.cells #[.slice A0 n0 c0, .slice A1 n1 c1, .string m, .slice A3 n3 c3, .bool al] 26 (0, 0))) := ⟨by rw [hw1]; exact blk_new _ _⟩
 have HC0 : Aside0 (Kd.string.C w1 A0 csp.length csp) := ⟨Kd.C_below hC0 hb0⟩
 have HC1 : Aside0 (k47.C w1 A1 sh.length sh) := ⟨Kd.C_below hC1 hb0⟩
 have HF : Aside0 (Kd.F k41 w1 (fun _ => True) A3 rules.length rules) := ⟨Kd.F_below hF hb0⟩
 have HLD : Aside0 (Laid w1) := ⟨hL.below hb0⟩
 have HL3 : Aside0 (rules.length ≤ 900000) := ⟨conds_len hz⟩
 have HB1 := Aside0.mk hb0
 have HN0 := Aside0.mk h0
 have HN1 := Aside0.mk h1
 have HN3 := Aside0.mk h3
 have HL0 := Aside0.mk l0
 have HL1 := Aside0.mk l1
 have HZ := Aside0.mk hz
 have HSZ := Aside0.mk hs
 have HCS := Aside0.mk hcs
 have HSH := Aside0.mk hsh
 have HOF := Aside0.mk hf
 have HW1 := Aside0.mk hw1
 have t2 : w1.cell? ⟨w.heap.size, 2, none⟩ = some (.string m) := blk_cell HX1.out 2
 obtain ⟨wa, hwa⟩ : ∃ wa, wa = w1.alloc (.cells #[.string wBlock, .string wUpgrade, .string wAllow] 9) := ⟨_, rfl⟩
 have HBA : Aside0 (Below w1.heap.size w1 wa) := ⟨by rw [hwa]; exact below_alloc (Below.refl _ _) _⟩
 have HAN := Aside0.mk (any_calls m mixL (by decide) (some ⟨w1.heap.size, 0, none⟩) 3 3 wa rfl (by decide) (by rw [hwa]; exact lit_strs w1 mixL (by decide)))
 have HWA := Aside0.mk hwa
 have HCK : Aside0 (chkI f csp sh m rules = chkI f csp sh m rules) := ⟨rfl⟩
 obtain ⟨ck, hck⟩ : ∃ ck, ck = chkI f csp sh m rules := ⟨_, rfl⟩
 rw [← hck]
 replace HCK := Aside0.mk hck
 obtain ⟨q, hq⟩ : ∃ q, q = memB m mixL := ⟨_, rfl⟩
 rw [← hq] at HAN
 have HQ := Aside0.mk hq
 clear hC0 hC1 hF hL h0 h1 h3 l0 l1 hz hs hcs hsh hf hw1 hb0 hwa hck hq
 go_enter Tryd.func13, Tryd.ntmps13
 go_upto_region 1 with (fail)
 rw [← HW1.out]
 go_wp2_with fail
 have HAN2 := HAN.out
 rw [HWA.out] at HAN2
 refine HAN2.mono ?_
 rintro e w2 ⟨rfl, hb2⟩
 dsimp only
 rw [← HWA.out] at hb2
 have HB2 : Aside0 (Below w1.heap.size w1 w2) := ⟨HBA.out.trans (hb2.mono HBA.out.size)⟩
 have t3 : w2.cell? ⟨w.heap.size, 3, none⟩ = some (.slice A3 n3 c3) := blk_cell (blk_below HX1.out HB2.out) 3
 clear HAN2 hb2 HAN HWA HBA t2
 go_wp2
 go_loopg [3, 20] rules.length (fun gk v3 v20 wr => ∃ (i : Nat) (b : Bool), v3 = .bool b ∧ v20 = .int .i64 i ∧ Aside0 (i ≤ rules.length) ∧ Aside0 (rules.length - i ≤ gk) ∧ Aside0 (b = (!q || (rules.take i).any fun r => !condB r.f1)) ∧ Aside0 (Below w1.heap.size w1 wr))
 case atStart => exact ⟨0, !q, rfl, rfl, ⟨Nat.zero_le _⟩, ⟨Nat.sub_le _ _⟩, ⟨by rw [List.take_zero, List.any_nil, Bool.or_false]⟩, HB2⟩
 case round =>
  clear t3 HB2
  obtain ⟨i, b, rfl, rfl, HI, HGK, HBV, HB⟩ := hrel
  by_cases hi : i < n3
  ·have l1 : decide (i < n3) = true := decide_eq_true hi
   have l2 : decide ((i : Int) < (n3 : Int)) = true := decide_eq_true (by omega)
   have l3 : (i : Int) < (n3 : Int) := by omega
   have HIL : Aside0 (i < rules.length) := ⟨by rw [← HN3.out]; exact hi⟩
   have hib : (i : Int) ≤ 1000000 := by have := HL3.out; have := HIL.out; omega
   obtain ⟨ad, A4, c4, hA, q0, q1, q2, q3, q4, hl4, hC4⟩ := at_T41 (Kd.F_now HF.out) (i : Int) (by omega) (by have := HIL.out; omega)
   have hA2 : A3 = some ad := hA
   subst hA2
   obtain ⟨x, hx⟩ : ∃ x, x = rd_T41 rules (i : Int) := ⟨_, rfl⟩
   have HX : Aside0 (x = rules[i]'HIL.out) := ⟨by rw [hx]; have := HIL.out; simp [rd_T41, this]⟩
   rw [← hx] at q0 q1 q2 q3 q4 hl4 hC4
   simp only [Int.toNat_natCast] at q0 q1 q2 q3 q4
   replace q0 := (HB.out.cell (World.block_lt_of_cell? w1 _ q0)).trans q0
   replace q1 := (HB.out.cell (World.block_lt_of_cell? w1 _ q1)).trans q1
   replace q2 := (HB.out.cell (World.block_lt_of_cell? w1 _ q2)).trans q2
   replace q3 := (HB.out.cell (World.block_lt_of_cell? w1 _ q3)).trans q3
   replace q4 := (HB.out.cell (World.block_lt_of_cell? w1 _ q4)).trans q4
   have hbl := World.block_lt_of_cell? wr _ q0
   obtain ⟨c, hc⟩ : ∃ c, c = x.f1 := ⟨_, rfl⟩
   rw [← hc] at q1 q2 q3 q4 hl4 hC4
   obtain ⟨m4, hm⟩ : ∃ m4, m4 = c.f2.length := ⟨_, rfl⟩
   rw [← hm] at q4
   obtain ⟨wb, hwb⟩ : ∃ wb, wb = (wr.alloc (.cells #[.bool false, .int .i64 0, .string ⟨#[]⟩, .string ⟨#[]⟩, .slice none 0 0] 41)).setRow wr.heap.size #[.bool x.f0, .int .i64 c.f0, .string c.f1.f0, .string c.f1.f1, .slice A4 m4 c4] := ⟨_, rfl⟩
   have hbb : Below wr.heap.size wr wb := by rw [hwb]; exact below_setRow (below_alloc (Below.refl _ _) _) (Nat.le_refl _) _
   have HXX : Aside0 (wb.heap[wr.heap.size]? = some (.cells #[.bool x.f0, .int .i64 c.f0, .string c.f1.f0, .string c.f1.f1, .slice A4 m4 c4] 41 (0, 0))) := ⟨by rw [hwb]; exact setRow_heap _ _ _ _ _ _ (blk_new wr (.cells #[.bool false, .int .i64 0, .string ⟨#[]⟩, .string ⟨#[]⟩, .slice none 0 0] 41))⟩
   have HB5 : Aside0 (Below w1.heap.size w1 wb) := ⟨HB.out.trans (hbb.mono HB.out.size)⟩
   have hsp := conds_split HIL.out
   rw [← HX.out, ← hc] at hsp
   have h5 := cond_calls c (by have h2 := HZ.out; rw [hsp, size_app, sizeL] at h2; omega) A4 c4 wb (Kd.C_below hC4 HB5.out) hl4
   unfold cdV at h5
   rw [← hm] at h5
   have H5 := Aside0.mk h5
   have HTA : Aside0 ((rules.take (i + 1)).any (fun r => !condB r.f1) = ((rules.take i).any (fun r => !condB r.f1) || !condB c)) := ⟨by rw [any_take HIL.out, hc, HX.out]⟩
   have HWB := Aside0.mk hwb
   have t1 : wb.cell? ⟨wr.heap.size, 1, none⟩ = some (.int .i64 c.f0) := blk_cell HXX.out 1
   have t2 : wb.cell? ⟨wr.heap.size, 2, none⟩ = some (.string c.f1.f0) := blk_cell HXX.out 2
   have t3 : wb.cell? ⟨wr.heap.size, 3, none⟩ = some (.string c.f1.f1) := blk_cell HXX.out 3
   have t4 : wb.cell? ⟨wr.heap.size, 4, none⟩ = some (.slice A4 m4 c4) := blk_cell HXX.out 4
   obtain ⟨t, ht⟩ : ∃ t, t = condB c := ⟨_, rfl⟩
   rw [← ht] at H5 HTA
   clear hwb h5 hA hx hc hm hl4 hC4 hi hbb hsp HXX ht
   obtain ⟨xa, hxa⟩ : ∃ xa, xa = x.f0 := ⟨_, rfl⟩
   obtain ⟨x0, hx0⟩ : ∃ x0, x0 = c.f0 := ⟨_, rfl⟩
   obtain ⟨x1, hx1⟩ : ∃ x1, x1 = c.f1.f0 := ⟨_, rfl⟩
   obtain ⟨x2, hx2⟩ : ∃ x2, x2 = c.f1.f1 := ⟨_, rfl⟩
   rw [← hxa] at q0 HWB
   rw [← hx0] at q1 t1 HWB H5
   rw [← hx1] at q2 t2 HWB H5
   rw [← hx2] at q3 t3 HWB H5
   clear hxa hx0 hx1 hx2
   go_upto_region 5 with (refine wpList_store_row rfl 41 _ _ rfl wr.heap.size #[.bool xa, .int .i64 x0, .string x1, .string x2, .slice A4 m4 c4] rfl rfl 41 #[.bool false, .int .i64 0, .string ⟨#[]⟩, .string ⟨#[]⟩, .slice none 0 0] (blk_new _ _) size_rl rfl (by simp [Value.oneCell']) ?_)
   rw [← HWB.out]
   clear HWB q0 q1 q2 q3 q4 hbl HB
   cases b
   ·have HV : Aside0 ((!t) = (!q || (rules.take (i + 1)).any fun r => !condB r.f1)) := ⟨by rw [HTA.out, ← Bool.or_assoc, ← HBV.out, Bool.false_or]⟩
    go_wp2_with fail
    refine H5.out.mono ?_
    rintro e w6 ⟨rfl, hb6⟩
    dsimp only
    have HB6 : Aside0 (Below w1.heap.size w1 w6) := ⟨HB5.out.trans (hb6.mono HB5.out.size)⟩
    clear hb6 H5 t1 t2 t3 t4
    go_wp2
    go_roundg (rules.length - (i + 1))
    case measure => have := HGK.out; have := HIL.out; omega
    case rel => exact ⟨i + 1, !t, rfl, by first | rfl | go_num, ⟨HIL.out⟩, ⟨Nat.le_refl _⟩, HV, HB6⟩
   ·have HV : Aside0 (true = (!q || (rules.take (i + 1)).any fun r => !condB r.f1)) := ⟨by rw [HTA.out, ← Bool.or_assoc, ← HBV.out, Bool.true_or]⟩
    clear H5 t1 t2 t3 t4
    go_wp2
    go_roundg (rules.length - (i + 1))
    case measure => have := HGK.out; have := HIL.out; omega
    case rel => exact ⟨i + 1, true, rfl, by first | rfl | go_num, ⟨HIL.out⟩, ⟨Nat.le_refl _⟩, HV, HB5⟩
  ·have l1 : decide (i < n3) = false := decide_eq_false hi
   have l2 : decide ((i : Int) < (n3 : Int)) = false := decide_eq_false (by omega)
   have l3 : ¬ (i : Int) < (n3 : Int) := by omega
   have HBV2 : Aside0 (b = (!q || rules.any fun r => !condB r.f1)) := ⟨by
    have h := HBV.out
    rwa [List.take_of_length_le (by have := HN3.out; omega)] at h⟩
   have HB2 := HB
   have t0 : wr.cell? ⟨w.heap.size, 0, none⟩ = some (.slice A0 n0 c0) := blk_cell (blk_below HX1.out HB2.out) 0
   clear hi HBV HB HI HGK
   go_wp2
   clear l1 l2 l3
   go_loopg [3, 35] csp.length (fun gk v3 v35 wr => ∃ (i : Nat) (b : Bool), v3 = .bool b ∧ v35 = .int .i64 i ∧ Aside0 (i ≤ csp.length) ∧ Aside0 (csp.length - i ≤ gk) ∧ Aside0 (b = ((!q || rules.any fun r => !condB r.f1) || (csp.take i).any fun s => !ascB s)) ∧ Aside0 (Below w1.heap.size w1 wr))
   case atStart => exact ⟨0, b, rfl, rfl, ⟨Nat.zero_le _⟩, ⟨Nat.sub_le _ _⟩, ⟨by rw [List.take_zero, List.any_nil, Bool.or_false]; exact HBV2.out⟩, HB2⟩
   case round =>
    clear t0 HB2 HBV2
    obtain ⟨j, d, rfl, rfl, HI, HGK, HBV, HB⟩ := hrel
    by_cases hi : j < n0
    ·have l1 : decide (j < n0) = true := decide_eq_true hi
     have l2 : decide ((j : Int) < (n0 : Int)) = true := decide_eq_true (by omega)
     have l3 : (j : Int) < (n0 : Int) := by omega
     have HIL : Aside0 (j < csp.length) := ⟨by rw [← HN0.out]; exact hi⟩
     have hib : (j : Int) ≤ 1000000 := by have := HL0.out; have := HIL.out; omega
     obtain ⟨ad, hA, q0⟩ := Kd.at_string HC0.out (j : Int) (by omega) (by have := HIL.out; omega)
     subst hA
     obtain ⟨x, hx⟩ : ∃ x, x = rdOf ByteArray.empty csp (j : Int) := ⟨_, rfl⟩
     have HX : Aside0 (x = csp[j]'HIL.out) := ⟨by rw [hx]; have := HIL.out; simp [rdOf, this]⟩
     rw [← hx] at q0
     simp only [Int.toNat_natCast] at q0
     replace q0 := (HB.out.cell (World.block_lt_of_cell? w1 _ q0)).trans q0
     have H5 := Aside0.mk (asc_calls x (HCS.out x (by rw [HX.out]; exact List.getElem_mem _)) wr)
     have HTA : Aside0 ((csp.take (j + 1)).any (fun s => !ascB s) = ((csp.take j).any (fun s => !ascB s) || !ascB x)) := ⟨by rw [any_take HIL.out, HX.out]⟩
     obtain ⟨t, ht⟩ : ∃ t, t = ascB x := ⟨_, rfl⟩
     rw [← ht] at H5 HTA
     clear hx hi ht
     cases d
     ·have HV : Aside0 ((!t) = ((!q || rules.any fun r => !condB r.f1) || (csp.take (j + 1)).any fun s => !ascB s)) := ⟨by rw [HTA.out, ← Bool.or_assoc, ← HBV.out, Bool.false_or]⟩
      go_wp2_with fail
      refine H5.out.mono ?_
      rintro e w6 ⟨rfl, hb6⟩
      dsimp only
      have HB6 : Aside0 (Below w1.heap.size w1 w6) := ⟨HB.out.trans (hb6.mono HB.out.size)⟩
      clear hb6 H5 q0 HB
      go_wp2
      go_roundg (csp.length - (j + 1))
      case measure => have := HGK.out; have := HIL.out; omega
      case rel => exact ⟨j + 1, !t, rfl, by first | rfl | go_num, ⟨HIL.out⟩, ⟨Nat.le_refl _⟩, HV, HB6⟩
     ·have HV : Aside0 (true = ((!q || rules.any fun r => !condB r.f1) || (csp.take (j + 1)).any fun s => !ascB s)) := ⟨by rw [HTA.out, ← Bool.or_assoc, ← HBV.out, Bool.true_or]⟩
      clear H5
      go_wp2
      go_roundg (csp.length - (j + 1))
      case measure => have := HGK.out; have := HIL.out; omega
      case rel => exact ⟨j + 1, true, rfl, by first | rfl | go_num, ⟨HIL.out⟩, ⟨Nat.le_refl _⟩, HV, HB⟩
    ·have l1 : decide (j < n0) = false := decide_eq_false hi
     have l2 : decide ((j : Int) < (n0 : Int)) = false := decide_eq_false (by omega)
     have l3 : ¬ (j : Int) < (n0 : Int) := by omega
     have HBV2 : Aside0 (d = ((!q || rules.any fun r => !condB r.f1) || csp.any fun s => !ascB s)) := ⟨by
      have h := HBV.out
      rwa [List.take_of_length_le (by have := HN0.out; omega)] at h⟩
     have HB2 := HB
     have hmm := @run_makeMap Tryd.prog
     have hbm : Below w1.heap.size w1 (wr.alloc (.map #[] 0)) := (HB2.out).alloc HB2.out.size _
     have t1 : (wr.alloc (.map #[] 0)).cell? ⟨w.heap.size, 1, none⟩ = some (.slice A1 n1 c1) := blk_cell (blk_below HX1.out hbm) 1
     obtain ⟨gm, hgm⟩ : ∃ gm, gm = wr.heap.size := ⟨_, rfl⟩
     obtain ⟨w4, hw4⟩ : ∃ w4, w4 = wr.alloc (.map #[] 0) := ⟨_, rfl⟩
     have HM4 : Aside0 (MapO 9 Value.string w4 gm 0 (fun _ => none) 0) := ⟨by rw [hw4, hgm]; exact MapO.made _ _ _⟩
     have HB4 : Aside0 (Below w1.heap.size w1 w4) := ⟨by rw [hw4]; exact hbm⟩
     have HGM : Aside0 (w1.heap.size ≤ gm) := ⟨by rw [hgm]; exact HB2.out.size⟩
     rw [← hw4] at t1
     have HW4 := Aside0.mk hw4
     have HGG := Aside0.mk hgm
     clear hi HBV HB HI HGK hbm hw4 hgm
     go_upto_region 14 with (fail)
     rw [← HW4.out, ← HGG.out]
     clear hmm
     go_wp2
     clear l1 l2 l3 HW4 HGG
     go_loopg [3, 9, 50] sh.length (fun gk v3 v9 v50 wr => ∃ (i : Nat) (b t : Bool), v3 = .bool b ∧ v9 = .bool t ∧ v50 = .int .i64 i ∧ Aside0 (i ≤ sh.length) ∧ Aside0 (sh.length - i ≤ gk) ∧ Aside0 (b = (((!q || rules.any fun r => !condB r.f1) || csp.any fun s => !ascB s) || (sh.take i).any fun s => !shareV (f s) s)) ∧ Aside0 (t = twB (orgs (sh.take i))) ∧ Aside0 (Below w1.heap.size w1 wr) ∧ Aside0 (∃ g s, MapO 9 Value.string wr gm i g s ∧ MetC g (orgs (sh.take i))))
     case atStart => exact ⟨0, d, false, rfl, rfl, rfl, ⟨Nat.zero_le _⟩, ⟨Nat.sub_le _ _⟩, ⟨by rw [List.take_zero, List.any_nil, Bool.or_false]; exact HBV2.out⟩, ⟨rfl⟩, HB4, ⟨_, _, HM4.out, metC_nil⟩⟩
     case round =>
      clear t1 HB2 HBV2 HB4 HM4
      obtain ⟨i3, b3, tw, rfl, rfl, rfl, HI, HGK, HBV, HTW, HB, HM⟩ := hrel
      by_cases hi : i3 < n1
      ·have l1 : decide (i3 < n1) = true := decide_eq_true hi
       have l2 : decide ((i3 : Int) < (n1 : Int)) = true := decide_eq_true (by omega)
       have l3 : (i3 : Int) < (n1 : Int) := by omega
       have HIL : Aside0 (i3 < sh.length) := ⟨by rw [← HN1.out]; exact hi⟩
       have hib : (i3 : Int) ≤ 1000000 := by have := HL1.out; have := HIL.out; omega
       obtain ⟨ad, A5, c5, A6, c6, hA, q0, q1, q2, q3, hl5, hC5, hl6, hC6⟩ := at_T47 HC1.out (i3 : Int) (by omega) (by have := HIL.out; omega)
       have hA2 : A1 = some ad := hA
       subst hA2
       obtain ⟨x, hx⟩ : ∃ x, x = rd_T47 sh (i3 : Int) := ⟨_, rfl⟩
       have HX : Aside0 (x = sh[i3]'HIL.out) := ⟨by rw [hx]; have := HIL.out; simp [rd_T47, this]⟩
       rw [← hx] at q0 q1 q2 q3 hl5 hC5 hl6 hC6
       simp only [Int.toNat_natCast] at q0 q1 q2 q3
       replace q0 := (HB.out.cell (World.block_lt_of_cell? w1 _ q0)).trans q0
       replace q1 := (HB.out.cell (World.block_lt_of_cell? w1 _ q1)).trans q1
       replace q2 := (HB.out.cell (World.block_lt_of_cell? w1 _ q2)).trans q2
       replace q3 := (HB.out.cell (World.block_lt_of_cell? w1 _ q3)).trans q3
       have hbl := World.block_lt_of_cell? wr _ q0
       have hmem : x ∈ sh := by rw [HX.out]; exact List.getElem_mem _
       obtain ⟨hz0, hz1, hz2, hz3, hz4⟩ := HSH.out x hmem
       obtain ⟨m5, hm5⟩ : ∃ m5, m5 = x.f1.length := ⟨_, rfl⟩
       obtain ⟨m6, hm6⟩ : ∃ m6, m6 = x.f2.length := ⟨_, rfl⟩
       obtain ⟨wb, hwb⟩ : ∃ wb, wb = (wr.alloc (.cells #[.string ⟨#[]⟩, .slice none 0 0, .slice none 0 0, .bool false] 47)).setRow wr.heap.size #[.string x.f0, .slice A5 m5 c5, .slice A6 m6 c6, .bool x.f3] := ⟨_, rfl⟩
       have hbb : Below wr.heap.size wr wb := by rw [hwb]; exact below_setRow (below_alloc (Below.refl _ _) _) (Nat.le_refl _) _
       have HXX : Aside0 (wb.heap[wr.heap.size]? = some (.cells #[.string x.f0, .slice A5 m5 c5, .slice A6 m6 c6, .bool x.f3] 47 (0, 0))) := ⟨by rw [hwb]; exact setRow_heap _ _ _ _ _ _ (blk_new wr (.cells #[.string ⟨#[]⟩, .slice none 0 0, .slice none 0 0, .bool false] 47))⟩
       have HB5 : Aside0 (Below w1.heap.size w1 wb) := ⟨HB.out.trans (hbb.mono HB.out.size)⟩
       have h5 := share_calls x (f x) (HOF.out x hmem) A5 A6 c5 c6 wb (HLD.out.below HB5.out) hz1 hz2 hz3 hz4 (Kd.C_below hC5 HB5.out) (Kd.C_below hC6 HB5.out)
       rw [← hm5, ← hm6] at h5
       rw [← hm5] at q1
       rw [← hm6] at q2
       have H5 := Aside0.mk h5
       have HTA : Aside0 ((sh.take (i3 + 1)).any (fun s => !shareV (f s) s) = ((sh.take i3).any (fun s => !shareV (f s) s) || !shareV (f x) x)) := ⟨by rw [any_take HIL.out, HX.out]⟩
       have hor : orgs (sh.take (i3 + 1)) = orgs (sh.take i3) ++ [x.f0] := by rw [orgs, List.take_add_one, List.getElem?_eq_getElem HIL.out, Option.toList_some, List.map_append, List.map_singleton, ← HX.out]; rfl
       have HTT : Aside0 (twB (orgs (sh.take (i3 + 1))) = (twB (orgs (sh.take i3)) || decide ((1 : Int) < (cntL (orgs (sh.take i3)) x.f0 : Int) + 1))) := ⟨by rw [hor, twB_add]⟩
       obtain ⟨g, s, hM, hg⟩ := HM.out
       have HG := Aside0.mk hg
       have HGL : Aside0 (gm < wr.heap.size) := ⟨hM.lt⟩
       have hkey := Go.WideMaps.keyOf_string_mk Tryd.underlying9 (s := x.f0) (by unfold maxLen; omega)
       have HKEY := Aside0.mk hkey
       have HMB : Aside0 (MapO 9 Value.string wb gm i3 g s) := ⟨hM.below hbb⟩
       obtain ⟨cn, hcn⟩ : ∃ cn : Nat, cn = cntL (orgs (sh.take i3)) x.f0 := ⟨_, rfl⟩
       have HCN : Aside0 ((g x.f0).getD 0 = (cn : Int)) := ⟨by rw [hcn]; exact hg x.f0⟩
       have hcl : cn ≤ 1000000 := by
        have h1 := cntL_le (orgs (sh.take i3)) x.f0
        rw [← hcn, orgs, List.length_map, List.length_take] at h1
        have := HIL.out; have := HL1.out; omega
       have HWF : Aside0 ((Lit.int .i64 ((cn : Int) + 1)).wf = true) := ⟨WalkArith.wf_i64 (by omega)⟩
       have HMC : Aside0 (MetC (put g x.f0 ((cn : Int) + 1)) (orgs (sh.take (i3 + 1)))) := ⟨by rw [hor, hcn]; exact hg.add x.f0⟩
       rw [← hcn] at HTT
       have HWB := Aside0.mk hwb
       have HBW := Aside0.mk hbb
       have t0 : wb.cell? ⟨wr.heap.size, 0, none⟩ = some (.string x.f0) := blk_cell HXX.out 0
       have t1 : wb.cell? ⟨wr.heap.size, 1, none⟩ = some (.slice A5 m5 c5) := blk_cell HXX.out 1
       have t2 : wb.cell? ⟨wr.heap.size, 2, none⟩ = some (.slice A6 m6 c6) := blk_cell HXX.out 2
       have t3 : wb.cell? ⟨wr.heap.size, 3, none⟩ = some (.bool x.f3) := blk_cell HXX.out 3
       have HWS : wr.heap.size < wb.heap.size := blk_lt HXX.out
       obtain ⟨t, ht⟩ : ∃ t, t = shareV (f x) x := ⟨_, rfl⟩
       rw [← ht] at H5 HTA
       clear hwb h5 hA hx hm5 hm6 hl5 hC5 hl6 hC6 hi hbb ht hmem hz0 hz1 hz2 hz3 hz4 hor hM hg hkey HM HG hcn
       obtain ⟨x0, hx0⟩ : ∃ x0, x0 = x.f0 := ⟨_, rfl⟩
       obtain ⟨x3, hx3⟩ : ∃ x3, x3 = x.f3 := ⟨_, rfl⟩
       rw [← hx0] at q0 t0 HWB H5 HXX HKEY HCN HMC
       rw [← hx3] at q3 t3 HWB H5 HXX
       clear hx0 hx3
       go_upto_region 17 with (refine wpList_store_row rfl 47 _ _ rfl wr.heap.size #[.string x0, .slice A5 m5 c5, .slice A6 m6 c6, .bool x3] rfl rfl 47 #[.string ⟨#[]⟩, .slice none 0 0, .slice none 0 0, .bool false] (blk_new _ _) size_sh rfl (by simp [Value.oneCell']) ?_)
       rw [← HWB.out]
       clear HWB q0 q1 q2 q3 hbl HB
       cases b3
       ·have HV : Aside0 ((!t) = (((!q || rules.any fun r => !condB r.f1) || csp.any fun s => !ascB s) || (sh.take (i3 + 1)).any fun s => !shareV (f s) s)) := ⟨by rw [HTA.out, ← Bool.or_assoc, ← HBV.out, Bool.false_or]⟩
        go_wp2_with fail
        refine H5.out.mono ?_
        rintro e w6 ⟨rfl, hb6⟩
        dsimp only
        have HB6 : Aside0 (Below w1.heap.size w1 w6) := ⟨HB5.out.trans (hb6.mono HB5.out.size)⟩
        have HX6 : Aside0 (w6.heap[wr.heap.size]? = some (.cells #[.string x0, .slice A5 m5 c5, .slice A6 m6 c6, .bool x3] 47 (0, 0))) := ⟨blk_below HXX.out hb6⟩
        have HM6 : Aside0 (MapO 9 Value.string w6 gm i3 g s) := ⟨HMB.out.below hb6⟩
        have u0 : w6.cell? ⟨wr.heap.size, 0, none⟩ = some (.string x0) := blk_cell HX6.out 0
        clear hb6 H5 t0 t1 t2 t3 HXX HB5 HMB HWS
        have HNM : Aside0 (i3 < maxLen) := ⟨by unfold maxLen; have := HIL.out; have := HL1.out; omega⟩
        go_upto_region 19 with (first | (refine HM6.out.look (Go.Maps.string_keyed Tryd.underlying9) Tryd.underlying59 x0 HKEY.out rfl rfl rfl rfl ?_; rw [HCN.out]) | (refine HM6.out.upd (Go.Maps.string_keyed Tryd.underlying9) encS_inj Tryd.underlying59 HNM.out x0 HKEY.out HWF.out rfl rfl rfl rfl rfl ?_; intro w7 hM7 hG7))
        have HM7 := Aside0.mk hM7
        have HB7 : Aside0 (Below w1.heap.size w1 w7) := ⟨HB6.out.grown hG7 HB6.out.size (fun j hj => by cases hj; exact HGM.out)⟩
        have hne : wr.heap.size ≠ gm := by have := HGL.out; omega
        have HX7 : Aside0 (w7.heap[wr.heap.size]? = some (.cells #[.string x0, .slice A5 m5 c5, .slice A6 m6 c6, .bool x3] 47 (0, 0))) := ⟨(hG7.block _ (blk_lt HX6.out) (by simp; exact hne)).trans HX6.out⟩
        have HP7 : Aside0 (put g x0 ((cn : Int) + 1) x0 = some ((cn : Int) + 1)) := ⟨by rw [put, if_pos rfl]⟩
        have v0 : w7.cell? ⟨wr.heap.size, 0, none⟩ = some (.string x0) := blk_cell HX7.out 0
        have hlk7 := HM7.out.lookRun (Go.Maps.string_keyed Tryd.underlying9) Tryd.underlying59 x0 HKEY.out
        rw [HP7.out, Option.getD_some] at hlk7
        clear hM7 hG7 hne
        cases tw
        ·have HT2 : Aside0 (decide ((1 : Int) < (cn : Int) + 1) = twB (orgs (sh.take (i3 + 1)))) := ⟨by rw [HTT.out, ← HTW.out, Bool.false_or]⟩
         go_wp2_with fail
         go_roundg (sh.length - (i3 + 1))
         case measure => have := HGK.out; have := HIL.out; omega
         case rel => exact ⟨i3 + 1, !t, _, rfl, rfl, by first | rfl | go_num, ⟨HIL.out⟩, ⟨Nat.le_refl _⟩, HV, HT2, HB7, ⟨_, _, HM7.out, HMC.out⟩⟩
        ·have HT2 : Aside0 (true = twB (orgs (sh.take (i3 + 1)))) := ⟨by rw [HTT.out, ← HTW.out, Bool.true_or]⟩
         clear hlk7
         go_wp2
         go_roundg (sh.length - (i3 + 1))
         case measure => have := HGK.out; have := HIL.out; omega
         case rel => exact ⟨i3 + 1, !t, true, rfl, rfl, by first | rfl | go_num, ⟨HIL.out⟩, ⟨Nat.le_refl _⟩, HV, HT2, HB7, ⟨_, _, HM7.out, HMC.out⟩⟩
       ·have HV : Aside0 (true = (((!q || rules.any fun r => !condB r.f1) || csp.any fun s => !ascB s) || (sh.take (i3 + 1)).any fun s => !shareV (f s) s)) := ⟨by rw [HTA.out, ← Bool.or_assoc, ← HBV.out, Bool.true_or]⟩
        clear H5 t1 t2 t3 HWS
        have HNM : Aside0 (i3 < maxLen) := ⟨by unfold maxLen; have := HIL.out; have := HL1.out; omega⟩
        go_upto_region 19 with (first | (refine HMB.out.look (Go.Maps.string_keyed Tryd.underlying9) Tryd.underlying59 x0 HKEY.out rfl rfl rfl rfl ?_; rw [HCN.out]) | (refine HMB.out.upd (Go.Maps.string_keyed Tryd.underlying9) encS_inj Tryd.underlying59 HNM.out x0 HKEY.out HWF.out rfl rfl rfl rfl rfl ?_; intro w7 hM7 hG7))
        have HM7 := Aside0.mk hM7
        have HB7 : Aside0 (Below w1.heap.size w1 w7) := ⟨HB5.out.grown hG7 HB5.out.size (fun j hj => by cases hj; exact HGM.out)⟩
        have hne : wr.heap.size ≠ gm := by have := HGL.out; omega
        have HX7 : Aside0 (w7.heap[wr.heap.size]? = some (.cells #[.string x0, .slice A5 m5 c5, .slice A6 m6 c6, .bool x3] 47 (0, 0))) := ⟨(hG7.block _ (blk_lt HXX.out) (by simp; exact hne)).trans HXX.out⟩
        have HP7 : Aside0 (put g x0 ((cn : Int) + 1) x0 = some ((cn : Int) + 1)) := ⟨by rw [put, if_pos rfl]⟩
        have v0 : w7.cell? ⟨wr.heap.size, 0, none⟩ = some (.string x0) := blk_cell HX7.out 0
        have hlk7 := HM7.out.lookRun (Go.Maps.string_keyed Tryd.underlying9) Tryd.underlying59 x0 HKEY.out
        rw [HP7.out, Option.getD_some] at hlk7
        clear hM7 hG7 hne
        cases tw
        ·have HT2 : Aside0 (decide ((1 : Int) < (cn : Int) + 1) = twB (orgs (sh.take (i3 + 1)))) := ⟨by rw [HTT.out, ← HTW.out, Bool.false_or]⟩
         go_wp2_with fail
         go_roundg (sh.length - (i3 + 1))
         case measure => have := HGK.out; have := HIL.out; omega
         case rel => exact ⟨i3 + 1, true, _, rfl, rfl, by first | rfl | go_num, ⟨HIL.out⟩, ⟨Nat.le_refl _⟩, HV, HT2, HB7, ⟨_, _, HM7.out, HMC.out⟩⟩
        ·have HT2 : Aside0 (true = twB (orgs (sh.take (i3 + 1)))) := ⟨by rw [HTT.out, ← HTW.out, Bool.true_or]⟩
         clear hlk7
         go_wp2
         go_roundg (sh.length - (i3 + 1))
         case measure => have := HGK.out; have := HIL.out; omega
         case rel => exact ⟨i3 + 1, true, true, rfl, rfl, by first | rfl | go_num, ⟨HIL.out⟩, ⟨Nat.le_refl _⟩, HV, HT2, HB7, ⟨_, _, HM7.out, HMC.out⟩⟩
      ·have l1 : decide (i3 < n1) = false := decide_eq_false hi
       have l2 : decide ((i3 : Int) < (n1 : Int)) = false := decide_eq_false (by omega)
       have l3 : ¬ (i3 : Int) < (n1 : Int) := by omega
       have HXR : Aside0 (wr.heap[w.heap.size]? = some (.cells #[.slice A0 n0 c0, .slice A1 n1 c1, .string m, .slice A3 n3 c3, .bool al] 26 (0, 0))) := ⟨blk_below HX1.out HB.out⟩
       have HBF : Aside0 (b3 = badB f csp sh m rules) := ⟨by
        have h := HBV.out
        rw [List.take_of_length_le (by have := HN1.out; omega), HQ.out] at h
        exact h⟩
       have HTF : Aside0 (tw = twB (orgs sh)) := ⟨by
        have h := HTW.out
        rwa [List.take_of_length_le (by have := HN1.out; omega)] at h⟩
       have HBE : Aside0 (Below w.heap.size w wr) := ⟨HB1.out.trans (HB.out.mono HB1.out.size)⟩
       clear hi HBV HTW HM HI HGK
       cases b3
       ·cases tw
        ·by_cases hbig : 60 < csp.length + sh.length + rules.length
         ·have HC : Aside0 (ck = 2) := ⟨by rw [HCK.out, chkI, ← HBF.out, ← HTF.out, if_neg (by decide), if_neg (by decide), if_pos (.inl hbig)]⟩
          have e1 : decide ((60 : Int) < (n0 : Int) + (n1 : Int) + (n3 : Int)) = true := decide_eq_true (by have := HN0.out; have := HN1.out; have := HN3.out; omega)
          have e2 : (60 : Int) < (n0 : Int) + (n1 : Int) + (n3 : Int) := of_decide_eq_true e1
          have y0 : wr.cell? ⟨w.heap.size, 0, none⟩ = some (.slice A0 n0 c0) := blk_cell HXR.out 0
          have y1 : wr.cell? ⟨w.heap.size, 1, none⟩ = some (.slice A1 n1 c1) := blk_cell HXR.out 1
          have y3 : wr.cell? ⟨w.heap.size, 3, none⟩ = some (.slice A3 n3 c3) := blk_cell HXR.out 3
          have z0 : (n0 : Int) ≤ 900000 := by have := HN0.out; have := HL0.out; omega
          have z1 : (n1 : Int) ≤ 900000 := by have := HN1.out; have := HL1.out; omega
          have z3 : (n3 : Int) ≤ 900000 := by have := HN3.out; have := HL3.out; omega
          clear hbig
          go_wp2
          go_ret
          exact ⟨by rw [HC.out]; first | done | rfl, HBE.out⟩
         ·have e1 : decide ((60 : Int) < (n0 : Int) + (n1 : Int) + (n3 : Int)) = false := decide_eq_false (by have := HN0.out; have := HN1.out; have := HN3.out; omega)
          have e2 : ¬ (60 : Int) < (n0 : Int) + (n1 : Int) + (n3 : Int) := of_decide_eq_false e1
          have y0 : wr.cell? ⟨w.heap.size, 0, none⟩ = some (.slice A0 n0 c0) := blk_cell HXR.out 0
          have y1 : wr.cell? ⟨w.heap.size, 1, none⟩ = some (.slice A1 n1 c1) := blk_cell HXR.out 1
          have y2 : wr.cell? ⟨w.heap.size, 2, none⟩ = some (.string m) := blk_cell HXR.out 2
          have y3 : wr.cell? ⟨w.heap.size, 3, none⟩ = some (.slice A3 n3 c3) := blk_cell HXR.out 3
          have y4 : wr.cell? ⟨w.heap.size, 4, none⟩ = some (.bool al) := blk_cell HXR.out 4
          have z0 : (n0 : Int) ≤ 900000 := by have := HN0.out; have := HL0.out; omega
          have z1 : (n1 : Int) ≤ 900000 := by have := HN1.out; have := HL1.out; omega
          have z3 : (n3 : Int) ≤ 900000 := by have := HN3.out; have := HL3.out; omega
          have h9 := atoms_calls A0 A1 A3 n0 c0 n1 c1 n3 c3 m al rules wr (Kd.F_below HF.out HB.out) HN3.out HZ.out HSZ.out
          unfold polV at h9
          have H9 := Aside0.mk h9
          have HC : Aside0 (ck = if 40 < (atomsP rules).length then 2 else 0) := ⟨by
           rw [HCK.out, chkI, ← HBF.out, ← HTF.out, if_neg (by decide), if_neg (by decide)]
           by_cases h : 40 < (atomsP rules).length
           ·rw [if_pos (.inr h), if_pos h]
           ·rw [if_neg (fun h2 => h2.elim hbig h), if_neg h]⟩
          clear hbig h9
          go_wp2_with fail
          refine H9.out.mono ?_
          rintro e w9 ⟨v9, rfl, hR9, hb9⟩
          dsimp only
          obtain ⟨A9, c9, e9⟩ := Kd.R_slice hR9
          obtain ⟨n9, hn9⟩ : ∃ n9, n9 = (atomsP rules).length := ⟨_, rfl⟩
          rw [← hn9] at e9 HC
          subst e9
          have HB9 : Aside0 (Below w.heap.size w w9) := ⟨HBE.out.trans (hb9.mono HBE.out.size)⟩
          clear hR9 hb9 hn9 H9 y0 y1 y2 y3 y4
          by_cases h40 : 40 < n9
          ·rw [if_pos h40] at HC
           have e3 : decide ((40 : Int) < (n9 : Int)) = true := decide_eq_true (by omega)
           have e4 : (40 : Int) < (n9 : Int) := by omega
           clear h40
           go_wp2
           go_ret
           exact ⟨by rw [HC.out]; first | done | rfl, HB9.out⟩
          ·rw [if_neg h40] at HC
           have e3 : decide ((40 : Int) < (n9 : Int)) = false := decide_eq_false (by omega)
           have e4 : ¬ (40 : Int) < (n9 : Int) := by omega
           clear h40
           go_wp2
           go_ret
           exact ⟨by rw [HC.out]; first | done | rfl, HB9.out⟩
        ·have HC : Aside0 (ck = 10) := ⟨by rw [HCK.out, chkI, ← HBF.out, ← HTF.out, if_neg (by decide), if_pos rfl]⟩
         go_wp2
         go_ret
         exact ⟨by rw [HC.out]; first | done | rfl, HBE.out⟩
       ·have HC : Aside0 (ck = 1) := ⟨by rw [HCK.out, chkI, ← HBF.out, if_pos rfl]⟩
        go_wp2
        go_ret
        exact ⟨by rw [HC.out]; first | done | rfl, HBE.out⟩
end Go.Proofs.YtdlahgamdigkhaaDoor.Sn
namespace Go.Proofs.YtdlahgamdigkhaaDoor.Pu
open Go.RowKit Go.Proofs.YtdlahgamdigkhaaDoor.Pr Go.Proofs.YtdlahgamdigkhaaDoorW.PrintWords Go.Proofs.YtdlahgamdigkhaaDoor.Lx
open Go.Proofs.YtdlahgamdigkhaaDoor.Ps hiding Tk
def WordT (w : ByteArray) : Prop := (∃ c l, bytesOf w = c :: l ∧ pBlank c = false ∧ c ≠ 35 ∧ pLetter c = true ∧ ∀ x ∈ l, pWord x = true) ∧ w.size ≤ 3000
def StrT (s : ByteArray) : Prop := (∀ x ∈ bytesOf s, x ≠ 10) ∧ V (bytesOf s) ∧ s.size ≤ 3000
inductive Shape : Cd → Prop
 | true_ : Shape (cond0 1 [])
 | false_ : Shape (cond0 2 [])
 | bare (w : ByteArray) (hw : w ∈ [wSame, wTrusted, wCreds, wCors]) : Shape ⟨3, ⟨w, ⟨#[]⟩⟩, []⟩
 | wordA (w t : ByteArray) (hw : w ∈ [wMethod, wDest, wScheme, wHeader]) (ht : WordT t) (hlow : w ≠ wMethod → lowB t = t) : Shape ⟨3, ⟨w, t⟩, []⟩
 | strA (w t : ByteArray) (hw : w ∈ [wHost, wPath]) (ht : StrT t) : Shape ⟨3, ⟨w, t⟩, []⟩
 | not_ (c : Cd) (h : Shape c) : Shape (cond0 4 [c])
 | many (k : Int) (hk : k = 5 ∨ k = 6) (l : List Cd) (hl : 2 ≤ l.length) (h : ∀ c ∈ l, Shape c) : Shape (cond0 k l)
structure ShareOk (s : Sh) : Prop where
 o : StrT s.f0
 m : ∀ t ∈ s.f1, WordT t
 h : ∀ t ∈ s.f2, WordT t
end Go.Proofs.YtdlahgamdigkhaaDoor.Pu
namespace Go.Proofs.YtdlahgamdigkhaaDoor.Pu
open Go.RowKit Go.Proofs.YtdlahgamdigkhaaDoor.Pr Go.Proofs.YtdlahgamdigkhaaDoorW.PrintWords Go.Proofs.YtdlahgamdigkhaaDoor.Lx
open Go.Proofs.YtdlahgamdigkhaaDoor.Ps hiding Tk
structure AllP (A : ByteArray → Prop) (S : Sh → Prop) (C : Cd → Prop) (st : Pst) : Prop where
 c : ∀ t ∈ st.csp, A t
 s : ∀ h ∈ st.shares, S h
 r : ∀ x ∈ st.rules, C x.f1
 m : st.mixed = wBlock ∨ st.mixed = wUpgrade ∨ st.mixed = wAllow
 n : st.csp.length + st.shares.length + st.rules.length ≤ st.items
 i : st.items ≤ 60
section
variable {T : List Tk} {e : Int} {A : ByteArray → Prop} {S : Sh → Prop} {C : Cd → Prop}
theorem wordP_mem {ws : List ByteArray} {p : Nat} {t : ByteArray} {q : Nat} (h : wordP T e ws p = .ok (t, q)) : memB t ws = true := by
 rw [wordP] at h
 split at h
 ·rename_i hi
  rw [isP, Bool.and_eq_true] at hi
  rw [takeP] at h
  split at h
  ·cases h; exact hi.2
  ·cases h
 ·cases h
theorem itemK_all (hA : ∀ p t q, takeP T e 2 p = .ok (t, q) → A t) (hS : ∀ p h q, shareP T e p = .ok (h, q) → S h) (hC : ∀ p c q, condP T e p = .ok (c, q) → C c) {s st' : Pst} {w : ByteArray} {p q : Nat} (hc : ∀ t ∈ s.csp, A t) (hs : ∀ h ∈ s.shares, S h) (hr : ∀ x ∈ s.rules, C x.f1)
  (hm : s.mixed = wBlock ∨ s.mixed = wUpgrade ∨ s.mixed = wAllow) (hn : s.csp.length + s.shares.length + s.rules.length + 1 ≤ s.items) (hi : s.items ≤ 60) (h : itemK T e s w p = .ok (st', q)) : AllP A S C st' := by
 by_cases h0 : w = wCsp
 ·rw [itemK_csp h0] at h
  cases ht : takeP T e 2 p with
  | error x => rw [ht] at h; cases h
  | ok x =>
   obtain ⟨t, q2⟩ := x
   rw [ht] at h; cases h
   exact ⟨fun t' ht' => by
    rcases List.mem_append.1 ht' with h1 | h1
    ·exact hc t' h1
    ·rw [List.mem_singleton.1 h1]; exact hA _ _ _ ht, hs, hr, hm, by show (s.csp ++ [t]).length + s.shares.length + s.rules.length ≤ s.items; rw [List.length_append, List.length_singleton]; omega, hi⟩
 by_cases h1 : w = wShare
 ·rw [itemK_share h0 h1] at h
  cases ht : shareP T e p with
  | error x => rw [ht] at h; cases h
  | ok x =>
   obtain ⟨t, q2⟩ := x
   rw [ht] at h; cases h
   exact ⟨hc, fun t' ht' => by
    rcases List.mem_append.1 ht' with h1 | h1
    ·exact hs t' h1
    ·rw [List.mem_singleton.1 h1]; exact hS _ _ _ ht, hr, hm, by show s.csp.length + (s.shares ++ [t]).length + s.rules.length ≤ s.items; rw [List.length_append, List.length_singleton]; omega, hi⟩
 by_cases h2 : w = wMixed
 ·rw [itemK_mixed h0 h1 h2] at h
  cases ht : wordP T e [wBlock, wUpgrade, wAllow] p with
  | error x => rw [ht] at h; cases h
  | ok x =>
   obtain ⟨t, q2⟩ := x
   rw [ht] at h; cases h
   refine ⟨hc, hs, hr, ?_, by show s.csp.length + s.shares.length + s.rules.length ≤ s.items; omega, hi⟩
   have := wordP_mem ht
   simp only [memB, List.any_cons, List.any_nil, Bool.or_eq_true, decide_eq_true_eq, Bool.or_false] at this
   exact this
 by_cases h3 : w = wDefault
 ·rw [itemK_default h0 h1 h2 h3] at h
  cases ht : wordP T e [wAllow, wDeny] p with
  | error x => rw [ht] at h; cases h
  | ok x =>
   obtain ⟨t, q2⟩ := x
   rw [ht] at h; cases h
   exact ⟨hc, hs, hr, hm, by show s.csp.length + s.shares.length + s.rules.length ≤ s.items; omega, hi⟩
 ·rw [itemK_rule h0 h1 h2 h3] at h
  cases ht : wordP T e [wIf] p with
  | error x => rw [ht] at h; cases h
  | ok x =>
   obtain ⟨t, q2⟩ := x
   rw [ht] at h
   simp only [ifK] at h
   cases ht2 : condP T e q2 with
   | error x => rw [ht2] at h; cases h
   | ok x =>
    obtain ⟨c, q3⟩ := x
    rw [ht2] at h; cases h
    exact ⟨hc, hs, fun x hx => by
     rcases List.mem_append.1 hx with h1 | h1
     ·exact hr x h1
     ·rw [List.mem_singleton.1 h1]; exact hC _ _ _ ht2, hm, by show s.csp.length + s.shares.length + (s.rules ++ [_]).length ≤ s.items; rw [List.length_append, List.length_singleton]; omega, hi⟩
theorem onceP_same {st s1 : Pst} {p : Nat} (h : onceP T e st p = .ok s1) : s1.csp = st.csp ∧ s1.shares = st.shares ∧ s1.rules = st.rules ∧ s1.mixed = st.mixed ∧ s1.items = st.items ∧ s1.allow = st.allow := by
 rw [onceP] at h
 repeat' split at h
 all_goals first | (cases h; exact ⟨rfl, rfl, rfl, rfl, rfl, rfl⟩) | cases h
theorem itemP_all (hA : ∀ p t q, takeP T e 2 p = .ok (t, q) → A t) (hS : ∀ p h q, shareP T e p = .ok (h, q) → S h) (hC : ∀ p c q, condP T e p = .ok (c, q) → C c) {st st' : Pst} {p q : Nat} (h : AllP A S C st) (hi : itemP T e st p = .ok (st', q)) : AllP A S C st' := by
 rw [itemP] at hi
 split at hi
 ·split at hi
  ·cases hi
  ·rename_i s1 h1
   obtain ⟨e1, e2, e3, e4, e5, _⟩ := onceP_same h1
   split at hi
   ·cases hi
   ·rename_i hb
    split at hi
    ·cases hi
    ·rename_i w q2 hw
     refine itemK_all hA hS hC (s := { s1 with items := s1.items + 1 }) ?_ ?_ ?_ ?_ ?_ ?_ hi
     ·show ∀ t ∈ s1.csp, A t; rw [e1]; exact h.c
     ·show ∀ t ∈ s1.shares, S t; rw [e2]; exact h.s
     ·show ∀ t ∈ s1.rules, C t.f1; rw [e3]; exact h.r
     ·show s1.mixed = _ ∨ s1.mixed = _ ∨ s1.mixed = _; rw [e4]; exact h.m
     ·show s1.csp.length + s1.shares.length + s1.rules.length + 1 ≤ s1.items + 1; rw [e1, e2, e3, e5]; have := h.n; omega
     ·show s1.items + 1 ≤ 60; omega
 ·cases hi
theorem itemsP_all (hA : ∀ p t q, takeP T e 2 p = .ok (t, q) → A t) (hS : ∀ p h q, shareP T e p = .ok (h, q) → S h) (hC : ∀ p c q, condP T e p = .ok (c, q) → C c) : ∀ (f : Nat) (st : Pst) (p : Nat) (st' : Pst), AllP A S C st → itemsP T e f st p = .ok st' → AllP A S C st'
 | 0, st, p, st', h, hi => by rw [itemsP] at hi; cases hi; exact h
 | f + 1, st, p, st', h, hi => by
  by_cases hp : p < T.length
  ·rw [itemsP_succ hp] at hi
   cases h1 : itemP T e st p with
   | error x => rw [h1] at hi; cases hi
   | ok x =>
    obtain ⟨s1, q⟩ := x
    rw [h1] at hi
    cases h2 : takeP T e 5 q with
    | error x => rw [itemsK, h2] at hi; cases hi
    | ok x =>
     obtain ⟨t, q2⟩ := x
     rw [itemsK, h2] at hi
     exact itemsP_all hA hS hC f s1 q2 st' (itemP_all hA hS hC h h1) hi
  ·rw [itemsP, if_neg hp] at hi; cases hi; exact h
theorem all0 : AllP A S C pst0 := ⟨(fun _ h => by cases h), (fun _ h => by cases h), (fun _ h => by cases h), .inl rfl, (by decide), (by decide)⟩
theorem polP_all (hA : ∀ p t q, takeP T e 2 p = .ok (t, q) → A t) (hS : ∀ p h q, shareP T e p = .ok (h, q) → S h) (hC : ∀ p c q, condP T e p = .ok (c, q) → C c) {st : Pst} (h : polP T e = .ok st) : AllP A S C st := itemsP_all hA hS hC _ _ _ _ all0 h
theorem takeP_le {k : Int} {p : Nat} {t : ByteArray} {q : Nat} (hk : k ≠ 0) (h : takeP T e k p = .ok (t, q)) : q ≤ T.length := by
 rw [takeP] at h
 split at h
 ·rename_i hi
  cases h
  apply Classical.byContradiction
  intro hn
  rw [nxt, dif_neg (by omega)] at hi
  exact hk hi.symm
 ·cases h
theorem shareL_len : ∀ (f : Nat) (s : Sh) (p : Nat) (s' : Sh) (q : Nat), s.f1.length ≤ p → s.f2.length ≤ p → p ≤ T.length → shareL T e f s p = .ok (s', q) → s'.f1.length ≤ q ∧ s'.f2.length ≤ q ∧ q ≤ T.length
 | 0, s, p, s', q, h1, h2, h3, h => by
  rw [shareL] at h; cases h; exact ⟨h1, h2, h3⟩
 | f + 1, s, p, s', q, h1, h2, h3, h => by
  by_cases hi : isP T e [wMethod, wHeader, wCreds] p = true
  ·rw [shareL_succ _ _ _ _ _ hi.symm] at h
   cases ht : takeP T e 1 p with
   | error x => rw [ht] at h; cases h
   | ok x =>
    obtain ⟨w, q1⟩ := x
    have hq1 := takeP_mono ht
    have hl1 := takeP_le (by decide) ht
    rw [ht] at h
    simp only [shareK] at h
    split at h
    ·cases ht2 : takeP T e 1 q1 with
     | error x => rw [ht2] at h; cases h
     | ok x =>
      obtain ⟨t, q2⟩ := x
      have hq2 := takeP_mono ht2
      have hl2 := takeP_le (by decide) ht2
      rw [ht2] at h
      exact shareL_len f _ _ _ _ (by show (s.f1 ++ [t]).length ≤ q2; rw [List.length_append, List.length_singleton]; omega) (by show s.f2.length ≤ q2; omega) hl2 h
    ·split at h
     ·cases ht2 : takeP T e 1 q1 with
      | error x => rw [ht2] at h; cases h
      | ok x =>
       obtain ⟨t, q2⟩ := x
       have hq2 := takeP_mono ht2
       have hl2 := takeP_le (by decide) ht2
       rw [ht2] at h
       exact shareL_len f _ _ _ _ (by show s.f1.length ≤ q2; omega) (by show (s.f2 ++ [t]).length ≤ q2; rw [List.length_append, List.length_singleton]; omega) hl2 h
     ·exact shareL_len f _ _ _ _ (by show s.f1.length ≤ q1; omega) (by show s.f2.length ≤ q1; omega) hl1 h
  ·rw [shareL, if_neg hi] at h; cases h; exact ⟨h1, h2, h3⟩
theorem shareP_len {p : Nat} {h : Sh} {q : Nat} (hs : shareP T e p = .ok (h, q)) : h.f1.length ≤ T.length ∧ h.f2.length ≤ T.length := by
 rw [shareP] at hs
 cases ht : takeP T e 2 p with
 | error x => rw [ht] at hs; cases hs
 | ok x =>
  obtain ⟨t, q1⟩ := x
  rw [ht] at hs
  have := shareL_len _ _ _ _ _ (Nat.zero_le _) (Nat.zero_le _) (takeP_le (by decide) ht) hs
  omega
theorem closeK_le {c : Cd} {q : Nat} {x : Cd × Nat} (h : closeK c (takeP T e 4 q) = .ok x) : x.2 ≤ T.length := by
 cases ht : takeP T e 4 q with
 | error y => rw [ht] at h; cases h
 | ok y => obtain ⟨t, q2⟩ := y; rw [ht] at h; cases h; exact takeP_le (by decide) ht
variable (T e) in
def Ends (f : Nat → Res Cd) : Prop := ∀ p c q, f p = .ok (c, q) → q ≤ T.length
theorem kidsL_end {one : Nat → Res Cd} (h : Ends T one) {w : ByteArray} : ∀ (f : Nat) (acc : List Cd) (p : Nat) (l : List Cd) (q : Nat), p ≤ T.length → kidsL T e one w f acc p = .ok (l, q) → q ≤ T.length
 | 0, acc, p, l, q, hp, hk => by rw [kidsL] at hk; cases hk; exact hp
 | f + 1, acc, p, l, q, hp, hk => by
  rw [kidsL] at hk
  split at hk
  ·cases ho : one (p + 1) with
   | error x => rw [ho] at hk; cases hk
   | ok x =>
    obtain ⟨c, q1⟩ := x
    rw [ho] at hk
    exact kidsL_end h f _ _ _ _ (h _ _ _ ho) hk
  ·cases hk; exact hp
theorem kidsP_end {one : Nat → Res Cd} (h : Ends T one) {w : ByteArray} {kind : Int} : Ends T (kidsP T e kind w one) := by
 intro p c q hk
 rw [kidsP] at hk
 cases ho : one p with
 | error x => rw [ho] at hk; cases hk
 | ok x =>
  obtain ⟨c1, q1⟩ := x
  rw [ho] at hk
  dsimp only at hk
  cases hl : kidsL T e one w (T.length + 1 - q1) [c1] q1 with
  | error x => rw [hl] at hk; cases hk
  | ok x =>
   obtain ⟨l, r⟩ := x
   rw [hl] at hk
   have := kidsL_end h _ _ _ _ _ (h _ _ _ ho) hl
   dsimp only at hk
   split at hk <;> (cases hk; exact this)
theorem wordP_le {ws : List ByteArray} {p : Nat} {t : ByteArray} {q : Nat} (h : wordP T e ws p = .ok (t, q)) : q ≤ T.length := by
 rw [wordP] at h
 split at h
 ·exact takeP_le (by decide) h
 ·cases h
theorem atomP_end : Ends T (atomP T e) := by
 intro p c q h
 rw [atomP] at h
 split at h
 ·cases h
 ·rename_i w q1 h1
  have e1 := wordP_le h1
  unfold atomK at h
  have key : ∀ {f : ByteArray → ByteArray} {k : Int}, k ≠ 0 → atomT w f (takeP T e k q1) = .ok (c, q) → q ≤ T.length := fun hk h => by
   obtain ⟨t, ht⟩ := atomT_mono h
   exact takeP_le hk ht
  repeat' split at h
  all_goals first | exact key (by decide) h | (cases h; exact e1)
theorem notN_end : ∀ n, Ends T (notN T e n)
 | 0 => by
  intro p c q h
  rw [notN] at h
  split at h
  ·cases h
  ·split at h
   ·cases h
   ·exact atomP_end _ _ _ h
 | n + 1 => by
  intro p c q h
  rw [notN] at h
  split at h
  ·obtain ⟨c1, q1, h1, h2⟩ := wrapNot_ok h
   cases h2
   exact notN_end n _ _ _ h1
  ·split at h
   ·obtain ⟨c1, q1, h1, h2⟩ := closeP_ok h
    exact closeK_le h2
   ·exact atomP_end _ _ _ h
theorem condP_end : Ends T (condP T e) := kidsP_end (kidsP_end (notN_end 30))
theorem polT_eq {n : Int} {x : List Tk × Int × Int} : polT n x = if x.2.1 = 0 then polP x.1 n else .error (x.2.1, x.2.2) := by
 obtain ⟨T, c, a⟩ := x; rfl
end
end Go.Proofs.YtdlahgamdigkhaaDoor.Pu
namespace Go.Proofs.YtdlahgamdigkhaaDoor.Pu
open Go.RowKit Go.Proofs.YtdlahgamdigkhaaDoor.Pr Go.Proofs.YtdlahgamdigkhaaDoorW.PrintWords Go.Proofs.YtdlahgamdigkhaaDoor.Lx
open Go.Proofs.YtdlahgamdigkhaaDoor.Ps hiding Tk
theorem V_unesc : ∀ (l A : List Int), V (A ++ escL l) → V (A ++ l) := by
 intro l
 induction l with
 | nil => intro A h; exact h
 | cons c l ih =>
  intro A h
  rw [escL_cons] at h
  by_cases q : c = 34 ∨ c = 92
  ·rw [if_pos q] at h
   have h1 := (V_split A 92 (c :: escL l) (by omega) (by omega)).1 h
   have h2 := (V_split [] c (escL l) (by omega) (by omega)).1 h1.2
   exact (V_split A c l (by omega) (by omega)).2 ⟨h1.1, ih [] h2.2⟩
  ·rw [if_neg q] at h
   have := ih (A ++ [c]) (by simpa using h)
   simpa using this
structure TokOk (T : List Tk) : Prop where
 w : ∀ t ∈ T, t.f0 = 1 → WordT t.f2
 s : ∀ t ∈ T, t.f0 = 2 → StrT t.f2
theorem tok_ok {x : ByteArray} (hx : x.size ≤ 3000) (hv : V (bytesOf x)) {ts : List Tk} (h : sm 0 .sk [] (bytesOf x) = .good ts) : TokOk ts := by
 have hp := placed x ts h
 have hz : ∀ t ∈ ts, t.f2.size ≤ 3000 := fun t ht => by have := toks_text h t ht; omega
 refine ⟨fun t ht h1 => ?_, fun t ht h2 => ?_⟩
 ·obtain ⟨ho, _⟩ := hp.all t ht
  rcases ho with ⟨_, hw⟩ | ⟨h3, _⟩ | ⟨c, hc, h3, _⟩
  ·exact ⟨hw, hz t ht⟩
  ·omega
  ·exfalso
   rw [h1] at h3
   rcases hc with rfl | rfl | rfl <;> exact absurd h3 (by decide +kernel)
 ·obtain ⟨ho, a, rest, hd⟩ := hp.all t ht
  have hvw := V_wof hv ho hd
  rcases ho with ⟨h3, _⟩ | ⟨_, hs⟩ | ⟨c, hc, h3, _⟩
  ·omega
  ·refine ⟨hs, ?_, hz t ht⟩
   rw [wof, if_pos h2] at hvw
   have h4 := ((V_split [] 34 _ (by omega) (by omega)).1 hvw).2
   exact V_unesc _ [] ((V_split _ 34 [] (by omega) (by omega)).1 h4).1
  ·exfalso
   rw [h2] at h3
   exact opIdx_ne c h3.symm
section
variable {T : List Tk} {e : Int}
theorem take_mem {k : Int} (hk : k ≠ 0) {p : Nat} {t : ByteArray} {q : Nat} (h : takeP T e k p = .ok (t, q)) : ∃ x ∈ T, x.f0 = k ∧ x.f2 = t := by
 rw [takeP] at h
 split at h
 ·rename_i hi
  by_cases hp : p < T.length
  ·rw [nxt, dif_pos hp] at hi h
   cases h
   exact ⟨_, List.getElem_mem hp, hi, rfl⟩
  ·rw [nxt, dif_neg hp] at hi
   exact absurd hi.symm hk
 ·cases h
theorem TokOk.tw (hT : TokOk T) {p : Nat} {t : ByteArray} {q : Nat} (h : takeP T e 1 p = .ok (t, q)) : WordT t := by
 obtain ⟨x, hx, h1, rfl⟩ := take_mem (by decide) h
 exact hT.w x hx h1
theorem TokOk.ts (hT : TokOk T) {p : Nat} {t : ByteArray} {q : Nat} (h : takeP T e 2 p = .ok (t, q)) : StrT t := by
 obtain ⟨x, hx, h1, rfl⟩ := take_mem (by decide) h
 exact hT.s x hx h1
theorem low_fin : ∀ c : Fin 256, (pWord (c.val : Int) = true → pWord (low (c.val : Int)) = true) ∧ (pLetter (c.val : Int) = true → pLetter (low (c.val : Int)) = true ∧ pBlank (low (c.val : Int)) = false ∧ low (c.val : Int) ≠ 35) ∧ low (low (c.val : Int)) = low (c.val : Int) ∧ 0 ≤ low (c.val : Int) ∧ low (c.val : Int) ≤ 255 := by decide +kernel
theorem low_all {x : Int} (h : 0 ≤ x ∧ x ≤ 255) : (pWord x = true → pWord (low x) = true) ∧ (pLetter x = true → pLetter (low x) = true ∧ pBlank (low x) = false ∧ low x ≠ 35) ∧ low (low x) = low x ∧ 0 ≤ low x ∧ low x ≤ 255 := by
 obtain ⟨c, rfl⟩ : ∃ c : Fin 256, (c.val : Int) = x := ⟨⟨x.toNat, by omega⟩, by simp; omega⟩
 exact low_fin c
theorem low_rng (s : ByteArray) : ∀ x ∈ (bytesOf s).map low, 0 ≤ x ∧ x ≤ 255 := by
 intro x hx
 obtain ⟨y, hy, rfl⟩ := List.mem_map.1 hx
 exact (low_all (bytesOf_range s y hy)).2.2.2
theorem bytes_low (s : ByteArray) : bytesOf (lowB s) = (bytesOf s).map low := by
 rw [← low_str, bytesOf_str _ (low_rng s)]
theorem low_low (s : ByteArray) : lowB (lowB s) = lowB s := by
 apply bytesOf_inj
 rw [bytes_low, bytes_low, List.map_map]
 exact List.map_congr_left (fun x hx => (low_all (bytesOf_range s x hx)).2.2.1)
theorem WordT.low {w : ByteArray} (h : WordT w) : WordT (lowB w) := by
 have hz : (lowB w).size ≤ 3000 := by
  rw [← bytesOf_length, bytes_low, List.length_map, bytesOf_length]; exact h.2
 obtain ⟨⟨c, l, hb, h1, h2, h3, h4⟩, _⟩ := h
 have hrg := bytesOf_range w
 rw [hb] at hrg
 have hc := (low_all (hrg c (List.mem_cons_self ..))).2.1 h3
 refine ⟨⟨Ps.low c, l.map Ps.low, by rw [bytes_low, hb]; rfl, hc.2.1, hc.2.2, hc.1, fun x hx => ?_⟩, hz⟩
 obtain ⟨y, hy, rfl⟩ := List.mem_map.1 hx
 exact (low_all (hrg y (List.mem_cons_of_mem _ hy))).1 (h4 y hy)
def Shp (f : Nat → Res Cd) : Prop := ∀ p c q, f p = .ok (c, q) → Shape c
theorem kidsL_shape {one : Nat → Res Cd} (h : Shp one) {w : ByteArray} : ∀ (f : Nat) (acc : List Cd) (p : Nat) (l : List Cd) (q : Nat), (∀ c ∈ acc, Shape c) → kidsL T e one w f acc p = .ok (l, q) → ∀ c ∈ l, Shape c
 | 0, acc, p, l, q, ha, hr => by cases hr; exact ha
 | f + 1, acc, p, l, q, ha, hr => by
  rw [kidsL] at hr
  split at hr
  ·cases h1 : one (p + 1) with
   | error x => rw [h1] at hr; cases hr
   | ok x =>
    obtain ⟨c, q1⟩ := x
    rw [h1] at hr
    refine kidsL_shape h f _ _ _ _ (fun d hd => ?_) hr
    rcases List.mem_append.1 hd with hd | hd
    ·exact ha d hd
    ·rw [List.mem_singleton.1 hd]; exact h _ _ _ h1
  ·cases hr; exact ha
theorem kidsP_shape {one : Nat → Res Cd} (h : Shp one) {w : ByteArray} {kind : Int} (hk : kind = 5 ∨ kind = 6) : Shp (kidsP T e kind w one) := by
 intro p c q hr
 rw [kidsP] at hr
 cases h1 : one p with
 | error x => rw [h1] at hr; cases hr
 | ok x =>
  obtain ⟨c1, q1⟩ := x
  rw [h1] at hr
  simp only at hr
  cases hl : kidsL T e one w (T.length + 1 - q1) [c1] q1 with
  | error x => rw [hl] at hr; cases hr
  | ok y =>
   obtain ⟨l, q2⟩ := y
   rw [hl] at hr
   have hs := kidsL_shape h _ _ _ _ _ (fun d hd => by rw [List.mem_singleton.1 hd]; exact h _ _ _ h1) hl
   have hge : 1 ≤ l.length := by simpa using kidsL_more hl
   simp only at hr
   split at hr
   ·rename_i h1l
    have h3 := Except.ok.inj hr; simp only [Prod.mk.injEq] at h3
    obtain ⟨x, rfl⟩ : ∃ x, l = [x] := List.length_eq_one_iff.1 h1l
    rw [← h3.1]
    exact hs x (List.mem_cons_self ..)
   ·have h3 := Except.ok.inj hr; simp only [Prod.mk.injEq] at h3
    rw [← h3.1]
    exact .many kind hk l (by omega) hs
theorem atomP_shape (hT : TokOk T) : Shp (atomP T e) := by
 intro p c q h
 rw [atomP] at h
 cases h1 : wordP T e atomWords p with
 | error x => rw [h1] at h; cases h
 | ok x =>
  obtain ⟨w, q1⟩ := x
  rw [h1] at h
  simp only at h
  have hw := mem_of_B.1 (wordP_mem h1)
  unfold atomK at h
  have hA : ∀ {f : ByteArray → ByteArray} {k : Int}, atomT w f (takeP T e k q1) = .ok (c, q) → ∃ t, takeP T e k q1 = .ok (t, q) ∧ c = ⟨3, ⟨w, f t⟩, []⟩ := by
   intro f k hr
   cases ht : takeP T e k q1 with
   | error x => rw [ht] at hr; cases hr
   | ok x => obtain ⟨t, q3⟩ := x; rw [ht] at hr; simp only [atomT] at hr; have h3 := Except.ok.inj hr; simp only [Prod.mk.injEq] at h3; exact ⟨t, by rw [← h3.2], h3.1.symm⟩
  split at h
  ·have h3 := Except.ok.inj h; simp only [Prod.mk.injEq] at h3; rw [← h3.1]; exact .true_
  rename_i hw1
  split at h
  ·have h3 := Except.ok.inj h; simp only [Prod.mk.injEq] at h3; rw [← h3.1]; exact .false_
  rename_i hw2
  split at h
  ·rename_i hm
   obtain ⟨t, ht, rfl⟩ := hA h
   exact .wordA w t (by simp [hm]) (hT.tw ht) (fun hn => absurd hm hn)
  rename_i hw3
  split at h
  ·rename_i hm
   obtain ⟨t, ht, rfl⟩ := hA h
   exact .wordA w _ (by rcases hm with hm | hm | hm <;> simp [hm]) (hT.tw ht).low (fun _ => low_low t)
  rename_i hw4
  split at h
  ·rename_i hm
   obtain ⟨t, ht, rfl⟩ := hA h
   exact .strA w _ (by rcases hm with hm | hm <;> simp [hm]) (hT.ts ht)
  rename_i hw5
  have h3 := Except.ok.inj h; simp only [Prod.mk.injEq] at h3; rw [← h3.1]
  refine .bare w ?_
  simp only [not_or] at hw4 hw5
  simp only [atomWords, List.mem_cons, List.not_mem_nil, or_false] at hw ⊢
  rcases hw with h | h | h | h | h | h | h | h | h | h | h | h
  ·exact absurd h hw1
  ·exact absurd h hw2
  ·exact .inl h
  ·exact .inr (.inl h)
  ·exact .inr (.inr (.inl h))
  ·exact .inr (.inr (.inr h))
  ·exact absurd h hw3
  ·exact absurd h hw4.1
  ·exact absurd h hw4.2.1
  ·exact absurd h hw4.2.2
  ·exact absurd h hw5.1
  ·exact absurd h hw5.2
theorem closeK_same {c d : Cd} {r : Res ByteArray} {q : Nat} (h : closeK c r = .ok (d, q)) : d = c := by
 cases r with
 | error x => cases h
 | ok x => obtain ⟨t, q2⟩ := x; simp only [closeK] at h; have h3 := Except.ok.inj h; simp only [Prod.mk.injEq] at h3; exact h3.1.symm
theorem notN_shape (hT : TokOk T) : ∀ n, Shp (notN T e n)
 | 0 => by
  intro p c q h
  rw [notN] at h
  split at h
  ·cases h
  ·split at h
   ·cases h
   ·exact atomP_shape hT _ _ _ h
 | n + 1 => by
  intro p c q h
  rw [notN] at h
  split at h
  ·obtain ⟨c1, q1, h1, h2⟩ := wrapNot_ok h
   cases h2
   exact .not_ c1 (notN_shape hT n _ _ _ h1)
  ·split at h
   ·obtain ⟨c1, q1, h1, h2⟩ := closeP_ok h
    rw [closeK_same h2]
    exact kidsP_shape (kidsP_shape (notN_shape hT n) (.inl rfl)) (.inr rfl) _ _ _ h1
   ·exact atomP_shape hT _ _ _ h
theorem condP_shape (hT : TokOk T) : Shp (condP T e) := kidsP_shape (kidsP_shape (notN_shape hT 30) (.inl rfl)) (.inr rfl)
theorem shareL_ok (hT : TokOk T) : ∀ (f : Nat) (s : Sh) (p : Nat) (s' : Sh) (q : Nat), ShareOk s → shareL T e f s p = .ok (s', q) → ShareOk s'
 | 0, s, p, s', q, hs, h => by rw [shareL] at h; cases h; exact hs
 | f + 1, s, p, s', q, hs, h => by
  by_cases hi : isP T e [wMethod, wHeader, wCreds] p = true
  ·rw [shareL_succ _ _ _ _ _ hi.symm] at h
   cases ht : takeP T e 1 p with
   | error x => rw [ht] at h; cases h
   | ok x =>
    obtain ⟨w, q1⟩ := x
    rw [ht] at h
    simp only [shareK] at h
    split at h
    ·cases ht2 : takeP T e 1 q1 with
     | error x => rw [ht2] at h; cases h
     | ok x =>
      obtain ⟨t, q2⟩ := x
      rw [ht2] at h
      refine shareL_ok hT f ⟨s.f0, s.f1 ++ [t], s.f2, s.f3⟩ _ _ _ ⟨hs.o, fun y hy => ?_, hs.h⟩ h
      rcases List.mem_append.1 hy with hy | hy
      ·exact hs.m y hy
      ·rw [List.mem_singleton.1 hy]; exact hT.tw ht2
    ·split at h
     ·cases ht2 : takeP T e 1 q1 with
      | error x => rw [ht2] at h; cases h
      | ok x =>
       obtain ⟨t, q2⟩ := x
       rw [ht2] at h
       refine shareL_ok hT f ⟨s.f0, s.f1, s.f2 ++ [t], s.f3⟩ _ _ _ ⟨hs.o, hs.m, fun y hy => ?_⟩ h
       rcases List.mem_append.1 hy with hy | hy
       ·exact hs.h y hy
       ·rw [List.mem_singleton.1 hy]; exact hT.tw ht2
     ·exact shareL_ok hT f ⟨s.f0, s.f1, s.f2, true⟩ _ _ _ ⟨hs.o, hs.m, hs.h⟩ h
  ·rw [shareL, if_neg hi] at h; cases h; exact hs
theorem shareP_made (hT : TokOk T) {p : Nat} {h : Sh} {q : Nat} (hs : shareP T e p = .ok (h, q)) : ShareOk h := by
 rw [shareP] at hs
 cases ht : takeP T e 2 p with
 | error x => rw [ht] at hs; cases hs
 | ok x =>
  obtain ⟨t, q1⟩ := x
  rw [ht] at hs
  exact shareL_ok hT _ _ _ _ _ ⟨hT.ts ht, (fun _ h => by cases h), (fun _ h => by cases h)⟩ hs
end
structure ReadP (st : Pst) : Prop where
 a : AllP StrT (fun s => ShareOk s ∧ s.f1.length ≤ 3000 ∧ s.f2.length ≤ 3000) (fun c => Shape c ∧ sizeC c ≤ 3000) st
theorem read_ok {x : ByteArray} {st : Pst} (h : polA x = .ok st) : ReadP st := by
 rw [polA, polT_eq] at h
 rcases tokM_cases x with ⟨ts, h1, hs, hv, hl⟩ | ⟨j, h1, hj⟩ | ⟨h1, hl⟩
 ·rw [h1, if_pos rfl] at h
  have hT := tok_ok hl hv hs
  have hln : ts.length ≤ 3000 := by have := toks_len hs; omega
  refine ⟨polP_all (fun p t q ht => hT.ts ht) (fun p s q hs => ⟨shareP_made hT hs, ?_, ?_⟩) (fun p c q hc => ⟨condP_shape hT _ _ _ hc, ?_⟩) h⟩
  ·have := shareP_len hs; omega
  ·have := shareP_len hs; omega
  ·have h1 := condP_size _ _ _ hc
   have h2 := condP_end _ _ _ hc
   omega
 ·rw [h1] at h; rw [if_neg (by exact (by decide : ¬ (8 : Int) = 0))] at h; cases h
 ·rw [h1] at h; rw [if_neg (by exact (by decide : ¬ (2 : Int) = 0))] at h; cases h
end Go.Proofs.YtdlahgamdigkhaaDoor.Pu
namespace Go.Proofs.YtdlahgamdigkhaaDoor.Pu
open Go.RowKit Go.Proofs.YtdlahgamdigkhaaDoor.Pr Go.Proofs.YtdlahgamdigkhaaDoorW.PrintWords Go.Proofs.YtdlahgamdigkhaaDoorW.PrintLast Go.Proofs.YtdlahgamdigkhaaDoorW.PrintMore Go.Proofs.YtdlahgamdigkhaaDoor.Lx
open Go.Proofs.YtdlahgamdigkhaaDoor.Ps hiding Tk
def NZ {α : Type} (r : Except (Int × Int) α) : Prop := ∀ x, r = .error x → x.1 ≠ 0
theorem NZ.ok {α : Type} {a : α} : NZ (.ok a : Except (Int × Int) α) := fun _ h => by cases h
theorem NZ.err {α : Type} {c a : Int} (h : c ≠ 0) : NZ (.error (c, a) : Except (Int × Int) α) := fun _ he => by cases he; exact h
theorem NZ.bind {α β : Type} {r : Except (Int × Int) α} {s : Except (Int × Int) β} (h : NZ r) (he : ∀ x, r = .error x → s = .error x) (hk : ∀ a, r = .ok a → NZ s) : NZ s := by
 cases hr : r with
 | error x => rw [he x hr]; intro y hy; cases hy; exact h x hr
 | ok a => exact hk a hr
section
variable {T : List Tk} {e : Int}
theorem take_nz {k : Int} {p : Nat} : NZ (takeP T e k p) := by
 rw [takeP]; split
 ·exact .ok
 ·exact .err (by decide)
theorem word_nz {ws : List ByteArray} {p : Nat} : NZ (wordP T e ws p) := by
 rw [wordP]; split
 ·exact take_nz
 ·exact .err (by decide)
theorem kidsL_nz {one : Nat → Res Cd} (h : ∀ p, NZ (one p)) {w : ByteArray} : ∀ f acc p, NZ (kidsL T e one w f acc p)
 | 0, acc, p => .ok
 | f + 1, acc, p => by
  rw [kidsL]
  split
  ·refine (h (p + 1)).bind (fun x hx => by rw [hx]) (fun a ha => ?_)
   rw [ha]
   exact kidsL_nz h f _ _
  ·exact .ok
theorem kidsP_nz {one : Nat → Res Cd} (h : ∀ p, NZ (one p)) {w : ByteArray} {kind : Int} (p : Nat) : NZ (kidsP T e kind w one p) := by
 rw [kidsP]
 refine (h p).bind (fun x hx => by rw [hx]) (fun a ha => ?_)
 rw [ha]
 obtain ⟨c, q⟩ := a
 refine (kidsL_nz (T := T) (e := e) h (w := w) (T.length + 1 - q) [c] q).bind (fun x hx => by simp only [hx]) (fun b hb => ?_)
 simp only [hb]
 split <;> exact .ok
theorem atomT_nz {w : ByteArray} {f : ByteArray → ByteArray} {r : Res ByteArray} (h : NZ r) : NZ (atomT w f r) := h.bind (fun x hx => by rw [hx]; rfl) (fun a ha => by rw [ha]; exact .ok)
theorem atomP_nz {p : Nat} : NZ (atomP T e p) := by
 rw [atomP]
 refine word_nz.bind (fun x hx => by rw [hx]) (fun a ha => ?_)
 rw [ha]
 unfold atomK
 dsimp only
 repeat' split
 all_goals first | exact .ok | exact atomT_nz take_nz
theorem closeP_nz {r : Res Cd} (h : NZ r) : NZ (closeP T e r) := h.bind (fun x hx => by rw [hx]; rfl) (fun a ha => by
 rw [ha]
 exact (take_nz (T := T) (e := e) (k := 4) (p := a.2)).bind (fun x hx => by rw [closeP, hx]; rfl) (fun b hb => by rw [closeP, hb]; exact .ok))
theorem wrapNot_nz {r : Res Cd} (h : NZ r) : NZ (wrapNot r) := h.bind (fun x hx => by rw [hx]; rfl) (fun a ha => by rw [ha]; exact .ok)
theorem notN_nz : ∀ n p, NZ (notN T e n p)
 | 0, p => by
  rw [notN]
  split
  ·exact .err (by decide)
  ·split
   ·exact .err (by decide)
   ·exact atomP_nz
 | n + 1, p => by
  rw [notN]
  split
  ·exact wrapNot_nz (notN_nz n _)
  ·split
   ·exact closeP_nz (kidsP_nz (kidsP_nz (notN_nz n)) _)
   ·exact atomP_nz
theorem condP_nz {p : Nat} : NZ (condP T e p) := kidsP_nz (kidsP_nz (notN_nz 30)) p
theorem shareL_nz : ∀ f s p, NZ (shareL T e f s p)
 | 0, s, p => .ok
 | f + 1, s, p => by
  by_cases hi : isP T e [wMethod, wHeader, wCreds] p = true
  ·rw [shareL_succ _ _ _ _ _ hi.symm]
   refine take_nz.bind (fun x hx => by rw [hx]; rfl) (fun a ha => ?_)
   rw [ha]
   obtain ⟨w, q⟩ := a
   rw [shareK]
   split
   ·exact take_nz.bind (fun x hx => by rw [hx]; rfl) (fun b hb => by rw [hb]; exact shareL_nz f _ _)
   ·split
    ·exact take_nz.bind (fun x hx => by rw [hx]; rfl) (fun b hb => by rw [hb]; exact shareL_nz f _ _)
    ·exact shareL_nz f _ _
  ·rw [shareL, if_neg hi]; exact .ok
theorem shareP_nz {p : Nat} : NZ (shareP T e p) := by
 rw [shareP]
 refine take_nz.bind (fun x hx => by rw [hx]) (fun a ha => ?_)
 rw [ha]
 exact shareL_nz _ _ _
theorem itemK_nz {s : Pst} {w : ByteArray} {q : Nat} : NZ (itemK T e s w q) := by
 by_cases h0 : w = wCsp
 ·rw [itemK_csp h0]; exact take_nz.bind (fun x hx => by rw [hx]; rfl) (fun b hb => by rw [hb]; exact .ok)
 by_cases h1 : w = wShare
 ·rw [itemK_share h0 h1]; exact shareP_nz.bind (fun x hx => by rw [hx]; rfl) (fun b hb => by rw [hb]; exact .ok)
 by_cases h2 : w = wMixed
 ·rw [itemK_mixed h0 h1 h2]; exact word_nz.bind (fun x hx => by rw [hx]; rfl) (fun b hb => by rw [hb]; exact .ok)
 by_cases h3 : w = wDefault
 ·rw [itemK_default h0 h1 h2 h3]; exact word_nz.bind (fun x hx => by rw [hx]; rfl) (fun b hb => by rw [hb]; exact .ok)
 rw [itemK_rule h0 h1 h2 h3]
 refine word_nz.bind (fun x hx => by rw [hx]; rfl) (fun b hb => ?_)
 rw [hb]
 exact condP_nz.bind (fun x hx => by rw [ifK, hx]; rfl) (fun c hc => by rw [ifK, hc]; exact .ok)
theorem itemP_nz {s : Pst} {p : Nat} : NZ (itemP T e s p) := by
 rw [itemP]
 split
 ·have h1 : NZ (onceP T e s p) := by
   rw [onceP]
   repeat' split
   all_goals first | exact .ok | exact .err (by decide)
  refine h1.bind (fun x hx => by rw [hx]) (fun a ha => ?_)
  rw [ha]
  dsimp only
  split
  ·exact .err (by decide)
  ·refine take_nz.bind (fun x hx => by rw [hx]) (fun b hb => ?_)
   rw [hb]
   exact itemK_nz
 ·exact .err (by decide)
theorem itemsP_nz : ∀ f s p, NZ (itemsP T e f s p)
 | 0, s, p => .ok
 | f + 1, s, p => by
  rw [itemsP]
  split
  ·refine itemP_nz.bind (fun x hx => by rw [hx]) (fun a ha => ?_)
   rw [ha]
   obtain ⟨s1, q⟩ := a
   refine (take_nz (T := T) (e := e) (k := 5) (p := q)).bind (fun x hx => by simp only [hx]) (fun b hb => ?_)
   simp only [hb]
   exact itemsP_nz f _ _
  ·exact .ok
end
theorem polA_nz (x : ByteArray) : NZ (polA x) := by
 rw [polA, polT_eq]
 split
 ·exact itemsP_nz _ _ _
 ·rename_i h; exact .err h
end Go.Proofs.YtdlahgamdigkhaaDoor.Pu
namespace Go.Proofs.YtdlahgamdigkhaaDoor.Pu
open Go.RowKit Go.Proofs.YtdlahgamdigkhaaDoor.Pr Go.Proofs.YtdlahgamdigkhaaDoorW.PrintWords Go.Proofs.YtdlahgamdigkhaaDoor.Lx
open Go.Proofs.YtdlahgamdigkhaaDoor.Ps hiding Tk
theorem bt_rng (s : ByteArray) (j : Nat) : 0 ≤ bt s (j : Int) ∧ bt s (j : Int) ≤ 255 := by
 rw [bt_getD]
 have := (s.data.toList.getD j 0).toNat_lt
 omega
theorem letter_f {c : Int} (h : 0 ≤ c ∧ c ≤ 255) : parapetref1_Letter.f c = some (pLetter c) := by
 have h2 : ∀ q : Fin 256, parapetref1_Letter.f (q.val : Int) = some (pLetter (q.val : Int)) := by decide +kernel
 have := h2 ⟨c.toNat, by omega⟩
 rwa [show ((c.toNat : Nat) : Int) = c by omega] at this
theorem digit_f {c : Int} (h : 0 ≤ c ∧ c ≤ 255) : parapetref1_Digit.f c = some (decide (48 ≤ c) && decide (c ≤ 57)) := by
 have h2 : ∀ q : Fin 256, parapetref1_Digit.f (q.val : Int) = some (decide (48 ≤ (q.val : Int)) && decide ((q.val : Int) ≤ 57)) := by decide +kernel
 have := h2 ⟨c.toNat, by omega⟩
 rwa [show ((c.toNat : Nat) : Int) = c by omega] at this
theorem word_is {c : Int} (h : 0 ≤ c ∧ c ≤ 255) : pWord c = (pLetter c || (decide (48 ≤ c) && decide (c ≤ 57)) || decide (c = 45) || decide (c = 95)) := by
 have h2 : ∀ q : Fin 256, pWord (q.val : Int) = (pLetter (q.val : Int) || (decide (48 ≤ (q.val : Int)) && decide ((q.val : Int) ≤ 57)) || decide ((q.val : Int) = 45) || decide ((q.val : Int) = 95)) := by decide +kernel
 have := h2 ⟨c.toNat, by omega⟩
 rwa [show ((c.toNat : Nat) : Int) = c by omega] at this
theorem blank_is {c : Int} (h : 0 ≤ c ∧ c ≤ 255) : pBlank c = (decide (c = 9) || decide (c = 10) || decide (c = 13) || decide (c = 32)) := by
 have h2 : ∀ q : Fin 256, pBlank (q.val : Int) = (decide ((q.val : Int) = 9) || decide ((q.val : Int) = 10) || decide ((q.val : Int) = 13) || decide ((q.val : Int) = 32)) := by decide +kernel
 have := h2 ⟨c.toNat, by omega⟩
 rwa [show ((c.toNat : Nat) : Int) = c by omega] at this
def wl (l : List Int) : Nat := (l.takeWhile pWord).length
theorem wl_le (l : List Int) : wl l ≤ l.length := (List.takeWhile_sublist _).length_le
theorem word_loop (x : ByteArray) (hx : x.size ≤ 3000) : ∀ (d j : Nat), j ≤ x.size → x.size - j ≤ d → Ev (fun k => parapetref19_word.l0 k x (j : Int)) ((j + wl ((bytesOf x).drop j) : Nat) : Int)
 | d, j, hj, hd => by
  by_cases hlt : j < x.size
  ·obtain ⟨d, rfl⟩ : ∃ d', d = d' + 1 := ⟨d - 1, by omega⟩
   have hr := bt_rng x j
   have hw : wrap64 ((j : Int) + 1) = ((j + 1 : Nat) : Int) := by unfold wrap64; omega
   rw [bt_drop x j hlt, wl, List.takeWhile_cons]
   cases hp : pWord (bt x (j : Int)) with
   | true =>
    rw [if_pos rfl, List.length_cons]
    have ih := word_loop x hx d (j + 1) (by omega) (by omega)
    rw [wl] at ih
    rw [show j + ((((bytesOf x).drop (j + 1)).takeWhile pWord).length + 1) = j + 1 + (((bytesOf x).drop (j + 1)).takeWhile pWord).length by omega]
    refine Ev.step (fun k => ?_) ih
    rw [parapetref19_word.l0, if_pos (by omega), if_pos (by omega), letter_f hr, Option.bind_some, hw]
    rw [word_is hr] at hp
    cases h1 : pLetter (bt x (j : Int)) with
    | true => rw [if_pos rfl]
    | false =>
     rw [if_neg Bool.false_ne_true, digit_f hr, Option.bind_some]
     cases h2 : (decide (48 ≤ bt x (j : Int)) && decide (bt x (j : Int) ≤ 57)) with
     | true => rw [if_pos rfl]
     | false =>
      rw [if_neg Bool.false_ne_true]
      rw [h1, h2, Bool.false_or, Bool.false_or, Bool.or_eq_true, decide_eq_true_eq, decide_eq_true_eq] at hp
      by_cases h3 : bt x (j : Int) = 45
      ·rw [if_pos h3]
      ·rw [if_neg h3, if_pos (hp.resolve_left h3)]
   | false =>
    rw [if_neg Bool.false_ne_true]
    rw [word_is hr, Bool.or_eq_false_iff, Bool.or_eq_false_iff, Bool.or_eq_false_iff] at hp
    obtain ⟨⟨⟨h1, h2⟩, h3⟩, h4⟩ := hp
    refine Ev.step (f := fun _ => some (j : Int)) (fun k => ?_) (Ev.const fun _ => rfl)
    rw [parapetref19_word.l0, if_pos (by omega), if_pos (by omega), letter_f hr, Option.bind_some, h1, if_neg Bool.false_ne_true, digit_f hr, Option.bind_some, h2, if_neg Bool.false_ne_true, if_neg (of_decide_eq_false h3), if_neg (of_decide_eq_false h4)]
  ·rw [List.drop_eq_nil_of_le (by rw [bytesOf_length]; omega)]
   refine Ev.step (f := fun _ => some (j : Int)) (fun k => ?_) (Ev.const fun _ => rfl)
   rw [parapetref19_word.l0, if_neg (by omega)]
theorem word_ev (x : ByteArray) (hx : x.size ≤ 3000) (h0 : 0 < x.size) : Ev (fun k => parapetref19_word.f k x) (if pLetter (bt x 0) = true then ((1 + wl ((bytesOf x).drop 1) : Nat) : Int) else 0) := by
 have hr := bt_rng x 0
 have hne : ¬ x.toList = ([] : List UInt8) := by
  intro h
  have : x = ⟨#[]⟩ := bytes_toList.1 (h.trans (show ([] : List UInt8) = (⟨#[]⟩ : ByteArray).toList by decide +kernel))
  rw [this] at h0
  exact absurd h0 (by decide)
 have hs : ∀ k, parapetref19_word.f k x = parapetref19_word.j0 k x (!pLetter (bt x 0)) := by
  intro k
  rw [parapetref19_word.f, if_neg hne, if_pos (by omega)]
  have := letter_f hr
  rw [show ((0 : Nat) : Int) = 0 from rfl] at this
  rw [this]; rfl
 refine ev_eqq hs ?_
 cases hl : pLetter (bt x 0) with
 | true =>
  rw [if_pos rfl]
  refine Ev.step (fun k => ?_) (word_loop x hx x.size 1 (by omega) (by omega))
  rw [parapetref19_word.j0, if_neg (by decide)]; rfl
 | false =>
  rw [if_neg Bool.false_ne_true]
  refine Ev.step (f := fun _ => some 0) (fun k => ?_) (Ev.const fun _ => rfl)
  rw [parapetref19_word.j0, if_pos (by decide)]
def seg (s : ByteArray) (E i : Nat) : List Int := ((bytesOf s).drop i).take (E - i)
theorem seg_cons {s : ByteArray} {E i : Nat} (hE : E ≤ s.size) (h : i < E) : seg s E i = bt s (i : Int) :: seg s E (i + 1) := by
 rw [seg, bt_drop s i (by omega), show E - i = (E - (i + 1)) + 1 by omega, List.take_succ_cons]; rfl
theorem seg_end {s : ByteArray} {E i : Nat} (h : E ≤ i) : seg s E i = [] := by
 rw [seg, show E - i = 0 by omega, List.take_zero]
theorem seg_bytes (s : ByteArray) (E i : Nat) : bytesOf (s.extract i E) = seg s E i := by
 unfold seg bytesOf
 rw [← List.map_drop, ← List.map_take]
 congr 1
 rw [ByteArray.data_extract]
 simp
def refT (s : ByteArray) (E : Nat) : One → List Tk × Int
 | .bad j => ([], (j : Int))
 | .go .sk ts => (ts, -1)
 | .go .nt ts => (ts, -1)
 | .go (.wd a acc) ts => (ts ++ [⟨1, (a : Int), strOfNums acc⟩], -1)
 | .go (.qt _ _) _ => ([], (E : Int))
 | .go (.es _ p _) _ => if E < s.size ∧ ¬ (bt s (E : Int) = 34 ∨ bt s (E : Int) = 92) then ([], (p : Int)) else ([], (E : Int))
theorem rs_cons (i : Nat) (st : St) (ts : List Tk) (c : Int) (l : List Int) : rs i st ts (c :: l) = match step i c st ts with | .bad j => .bad j | .go st' ts' => rs (i + 1) st' ts' l := rfl
theorem quoted_ev {s : ByteArray} {E : Nat} (hE : E ≤ s.size) (hs : s.size ≤ 3000) (a : Nat) (ts : List Tk) : ∀ (d i : Nat) (acc : List Int), i ≤ E → E - i ≤ d → acc.length ≤ i → ∃ t j ok, Ev (fun k => parapetref19_quoted.l0 k s (i : Int) (E : Int) acc) (t, j, ok) ∧
  ((ok = true ∧ ∃ q : Nat, j = (q : Int) ∧ i < q ∧ q ≤ E ∧ rs i (.qt a acc) ts (seg s E i) = rs q .sk (ts ++ [⟨2, (a : Int), t⟩]) (seg s E q)) ∨ (ok = false ∧ 0 ≤ j ∧ refT s E (rs i (.qt a acc) ts (seg s E i)) = ([], j))) := by
 intro d
 induction d with
 | zero =>
  intro i acc hi hd ha
  refine ⟨_, _, _, Ev.step (f := fun _ => some ((⟨#[]⟩ : ByteArray), (E : Int), false)) (fun k => ?_) (Ev.const fun _ => rfl), .inr ⟨rfl, by omega, ?_⟩⟩
  ·rw [parapetref19_quoted.l0, if_pos (by omega)]
  ·rw [seg_end (by omega)]; rfl
 | succ d ih =>
  intro i acc hi hd ha
  by_cases hlt : i < E
  ·have hw : wrap64 ((i : Int) + 1) = ((i + 1 : Nat) : Int) := by unfold wrap64; omega
   have hw2 : wrap64 (((i + 1 : Nat) : Int) + 1) = ((i + 2 : Nat) : Int) := by unfold wrap64; omega
   obtain ⟨c, hc⟩ : ∃ c, c = bt s (i : Int) := ⟨_, rfl⟩
   rw [seg_cons hE hlt, rs_cons, ← hc]
   have hpre : ∀ k, parapetref19_quoted.l0 (k + 1) s (i : Int) (E : Int) acc = (if c = 34 then (some (strOfNums acc, wrap64 ((i : Int) + 1), true)) else (if c = 10 then (some ((⟨#[]⟩ : ByteArray), (i : Int), false)) else (if c = 92 then (if (wrap64 ((i : Int) + 1)) ≥ (s.size : Int) then (some ((⟨#[]⟩ : ByteArray), (s.size : Int), false)) else (if 0 ≤ (wrap64 ((i : Int) + 1)) then (if (wrap64 ((i : Int) + 1)) < (s.size : Int) then (if (bt s (wrap64 ((i : Int) + 1))) = 34 then (if acc.length < 140737488355328 then (parapetref19_quoted.l0 k s (wrap64 ((wrap64 ((i : Int) + 1)) + 1)) (E : Int) (acc ++ [bt s (wrap64 ((i : Int) + 1))])) else (none)) else (if (bt s (wrap64 ((i : Int) + 1))) = 92 then (if acc.length < 140737488355328 then (parapetref19_quoted.l0 k s (wrap64 ((wrap64 ((i : Int) + 1)) + 1)) (E : Int) (acc ++ [bt s (wrap64 ((i : Int) + 1))])) else (none)) else (some ((⟨#[]⟩ : ByteArray), (i : Int), false)))) else (none)) else (none))) else (if acc.length < 140737488355328 then (parapetref19_quoted.l0 k s (wrap64 ((i : Int) + 1)) (E : Int) (acc ++ [c])) else (none))))) := by
    intro k
    rw [parapetref19_quoted.l0, if_neg (by omega), if_pos (by omega), if_pos (by omega), ← hc]
   rw [hw, hw2] at hpre
   by_cases c1 : c = 34
   ·refine ⟨_, _, _, Ev.step (f := fun _ => some (strOfNums acc, ((i + 1 : Nat) : Int), true)) (fun k => by rw [hpre, if_pos c1]) (Ev.const fun _ => rfl), .inl ⟨rfl, i + 1, rfl, by omega, by omega, ?_⟩⟩
    rw [step, if_pos c1]
   ·by_cases c2 : c = 10
    ·refine ⟨_, _, _, Ev.step (f := fun _ => some ((⟨#[]⟩ : ByteArray), (i : Int), false)) (fun k => by rw [hpre, if_neg c1, if_pos c2]) (Ev.const fun _ => rfl), .inr ⟨rfl, by omega, ?_⟩⟩
     rw [step, if_neg c1, if_pos c2]; rfl
    ·by_cases c3 : c = 92
     ·have hst : step i c (.qt a acc) ts = .go (.es a i acc) ts := by rw [step, if_neg c1, if_neg c2, if_pos c3]
      rw [hst]
      by_cases hz : i + 1 < s.size
      ·obtain ⟨c', hc'⟩ : ∃ c', c' = bt s ((i + 1 : Nat) : Int) := ⟨_, rfl⟩
       rw [← hc'] at hpre
       by_cases h5 : c' = 34 ∨ c' = 92
       ·have hgo : ∀ k, parapetref19_quoted.l0 (k + 1) s (i : Int) (E : Int) acc = parapetref19_quoted.l0 k s ((i + 2 : Nat) : Int) (E : Int) (acc ++ [c']) := by
         intro k
         rw [hpre, if_neg c1, if_neg c2, if_pos c3, if_neg (by omega), if_pos (by omega), if_pos (by omega)]
         rcases h5 with h5 | h5
         ·rw [if_pos h5, if_pos (by omega)]
         ·rw [if_neg (by omega), if_pos h5, if_pos (by omega)]
        by_cases h6 : i + 1 < E
        ·obtain ⟨t, j, ok, g1, g2⟩ := ih (i + 2) (acc ++ [c']) (by omega) (by omega) (by rw [List.length_append, List.length_singleton]; omega)
         have hrs : rs (i + 1) (.es a i acc) ts (seg s E (i + 1)) = rs (i + 2) (.qt a (acc ++ [c'])) ts (seg s E (i + 2)) := by
          rw [seg_cons hE h6, rs_cons, ← hc', step, if_pos h5]
         refine ⟨t, j, ok, Ev.step hgo g1, ?_⟩
         show (_ ∧ ∃ q : Nat, _ ∧ _ ∧ _ ∧ rs (i + 1) (.es a i acc) ts (seg s E (i + 1)) = _) ∨ (_ ∧ _ ∧ refT s E (rs (i + 1) (.es a i acc) ts (seg s E (i + 1))) = _)
         rw [hrs]
         rcases g2 with ⟨h7, q, h8, h9, h10, h11⟩ | h7
         ·exact .inl ⟨h7, q, h8, by omega, h10, h11⟩
         ·exact .inr h7
        ·refine ⟨_, _, _, Ev.step hgo (Ev.step (f := fun _ => some ((⟨#[]⟩ : ByteArray), (E : Int), false)) (fun k => ?_) (Ev.const fun _ => rfl)), .inr ⟨rfl, by omega, ?_⟩⟩
         ·rw [parapetref19_quoted.l0, if_pos (by omega)]
         ·show refT s E (rs (i + 1) (.es a i acc) ts (seg s E (i + 1))) = _
          rw [seg_end (by omega), rs, refT, if_neg]
          rw [show E = i + 1 by omega, ← hc']
          intro h; exact h.2 h5
       ·refine ⟨_, _, _, Ev.step (f := fun _ => some ((⟨#[]⟩ : ByteArray), (i : Int), false)) (fun k => ?_) (Ev.const fun _ => rfl), .inr ⟨rfl, by omega, ?_⟩⟩
        ·rw [hpre, if_neg c1, if_neg c2, if_pos c3, if_neg (by omega), if_pos (by omega), if_pos (by omega), if_neg (fun h => h5 (.inl h)), if_neg (fun h => h5 (.inr h))]
        ·show refT s E (rs (i + 1) (.es a i acc) ts (seg s E (i + 1))) = _
         by_cases h6 : i + 1 < E
         ·rw [seg_cons hE h6, rs_cons, ← hc', step, if_neg h5]; rfl
         ·rw [seg_end (by omega), rs, refT, if_pos]
          rw [show E = i + 1 by omega, ← hc']
          exact ⟨hz, h5⟩
      ·refine ⟨_, _, _, Ev.step (f := fun _ => some ((⟨#[]⟩ : ByteArray), (s.size : Int), false)) (fun k => ?_) (Ev.const fun _ => rfl), .inr ⟨rfl, by omega, ?_⟩⟩
       ·rw [hpre, if_neg c1, if_neg c2, if_pos c3, if_pos (by omega)]
       ·show refT s E (rs (i + 1) (.es a i acc) ts (seg s E (i + 1))) = _
        rw [seg_end (by omega), rs, refT, if_neg (by omega), show E = s.size by omega]
     ·obtain ⟨t, j, ok, g1, g2⟩ := ih (i + 1) (acc ++ [c]) (by omega) (by omega) (by rw [List.length_append, List.length_singleton]; omega)
      have hst : step i c (.qt a acc) ts = .go (.qt a (acc ++ [c])) ts := by rw [step, if_neg c1, if_neg c2, if_neg c3]
      rw [hst]
      refine ⟨t, j, ok, Ev.step (fun k => by rw [hpre, if_neg c1, if_neg c2, if_neg c3, if_pos (by omega)]) g1, ?_⟩
      rcases g2 with ⟨h7, q, h8, h9, h10, h11⟩ | h7
      ·exact .inl ⟨h7, q, h8, by omega, h10, h11⟩
      ·exact .inr h7
  ·refine ⟨_, _, _, Ev.step (f := fun _ => some ((⟨#[]⟩ : ByteArray), (E : Int), false)) (fun k => ?_) (Ev.const fun _ => rfl), .inr ⟨rfl, by omega, ?_⟩⟩
   ·rw [parapetref19_quoted.l0, if_pos (by omega)]
   ·rw [seg_end (by omega)]; rfl
end Go.Proofs.YtdlahgamdigkhaaDoor.Pu
