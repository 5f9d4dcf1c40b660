/- 5 texts of the proof, put together, less what is not used; what a tool printed stands among them. -/
import Derived.KernelRfl
import Derived.Test.YtngedmioeodmfaaDoorMSo8
namespace Go.Proofs.YtngedmioeodmfaaDoor.Ps
open Go.RowKit Go.Proofs.YtngedmioeodmfaaDoor.Pr Go.Proofs.YtngedmioeodmfaaDoorW.PrintWords Go.Proofs.YtngedmioeodmfaaDoorW.PrintLast Go.Proofs.YtngedmioeodmfaaDoorW.PrintMore
set_option linter.unusedVariables false
set_option linter.unusedSimpArgs false
def shSame (k : Nat) (a b : S44) : Bool := decide (a.f0 = b.f0) && (decide (a.f3 = b.f3) && (decide (parapetref19_SameTexts.f k a.f1 b.f1 = some true) && decide (parapetref19_SameTexts.f k a.f2 b.f2 = some true)))
def rlSame (k : Nat) (a b : S51) : Bool := decide (a.f0 = b.f0) && decide (parapetref19_SameCond.f k a.f1.f0 a.f1.f1.f0 a.f1.f1.f1 a.f1.f2 b.f1.f0 b.f1.f1.f0 b.f1.f1.f1 b.f1.f2 = some true)
/-- Two policies alike, told by the comparisons of their parts. -/
structure Alike (k : Nat) (l0 : List ByteArray) (l1 : List (S44)) (a2 : ByteArray) (l3 : List (S51)) (a4 : Bool) (m0 : List ByteArray) (m1 : List (S44)) (b2 : ByteArray) (m3 : List (S51)) (b4 : Bool) : Prop where
  c : parapetref19_SameTexts.f k l0 m0 = some true
  m : a2 = b2
  d : a4 = b4
  ls : l1.length = m1.length
  lr : l3.length = m3.length
  s : ∀ i, i < l1.length → shSame k (rd_T44 l1 (i : Int)) (rd_T44 m1 (i : Int)) = true
  r : ∀ i, i < l3.length → rlSame k (rd_T51 l3 (i : Int)) (rd_T51 m3 (i : Int)) = true
def alike (k : Nat) (l0 : List ByteArray) (l1 : List (S44)) (a2 : ByteArray) (l3 : List (S51)) (a4 : Bool) (m0 : List ByteArray) (m1 : List (S44)) (b2 : ByteArray) (m3 : List (S51)) (b4 : Bool) : Bool :=
  decide (l1.length ≤ 1000000) && (decide (l3.length ≤ 1000000) && (decide (parapetref19_SameTexts.f k l0 m0 = some true) && (decide (a2 = b2) && (decide (a4 = b4) && (decide (l1.length = m1.length) && (decide (l3.length = m3.length) && ((List.range l1.length).all (fun i => shSame k (rd_T44 l1 (i : Int)) (rd_T44 m1 (i : Int))) && (List.range l3.length).all (fun i => rlSame k (rd_T51 l3 (i : Int)) (rd_T51 m3 (i : Int))))))))))
theorem alike_iff {k : Nat} {l0 : List ByteArray} {l1 : List (S44)} {a2 : ByteArray} {l3 : List (S51)} {a4 : Bool} {m0 : List ByteArray} {m1 : List (S44)} {b2 : ByteArray} {m3 : List (S51)} {b4 : Bool} :
    alike k l0 l1 a2 l3 a4 m0 m1 b2 m3 b4 = true ↔ l1.length ≤ 1000000 ∧ l3.length ≤ 1000000 ∧ Alike k l0 l1 a2 l3 a4 m0 m1 b2 m3 b4 := by
  simp only [alike, Bool.and_eq_true, decide_eq_true_eq, List.all_eq_true, List.mem_range]
  constructor
  · rintro ⟨h1, h2, h3, h4, h5, h6, h7, h8, h9⟩
    exact ⟨h1, h2, h3, h4, h5, h6, h7, h8, h9⟩
  · rintro ⟨h1, h2, h3, h4, h5, h6, h7, h8, h9⟩
    exact ⟨h1, h2, h3, h4, h5, h6, h7, h8, h9⟩
theorem blk_snd (w : World) (c1 c2 : Array Value) (t1 t2 : TypeId) : ((w.alloc (.cells c1 t1)).alloc (.cells c2 t2)).heap[w.heap.size + 1]? = some (.cells c2 t2 (0, 0)) := by
  have h := blk_new (w.alloc (.cells c1 t1)) (.cells c2 t2)
  rwa [show (w.alloc (.cells c1 t1)).heap.size = w.heap.size + 1 from Array.size_push _] at h
theorem alike_mono {k : Nat} {l0 : List ByteArray} {l1 : List (S44)} {a2 : ByteArray} {l3 : List (S51)} {a4 : Bool} {m0 : List ByteArray} {m1 : List (S44)} {b2 : ByteArray} {m3 : List (S51)} {b4 : Bool}
    (h : alike k l0 l1 a2 l3 a4 m0 m1 b2 m3 b4 = true) : alike (k + 1) l0 l1 a2 l3 a4 m0 m1 b2 m3 b4 = true := by
  rw [alike_iff] at h ⊢
  obtain ⟨h1, h2, h⟩ := h
  refine ⟨h1, h2, parapetref19_SameTexts.mono _ _ _ _ h.c, h.m, h.d, h.ls, h.lr, fun i hi => ?_, fun i hi => ?_⟩
  · have := h.s i hi
    simp only [shSame, Bool.and_eq_true, decide_eq_true_eq] at this ⊢
    exact ⟨this.1, this.2.1, parapetref19_SameTexts.mono _ _ _ _ this.2.2.1, parapetref19_SameTexts.mono _ _ _ _ this.2.2.2⟩
  · have := h.r i hi
    simp only [rlSame, Bool.and_eq_true, decide_eq_true_eq] at this ⊢
    exact ⟨this.1, parapetref19_SameCond.mono _ _ _ _ _ _ _ _ _ _ this.2⟩
/-- A call that hands back, in a region. -/
theorem goesS_ {P : Program} {ops : Array Oper} {Q : Exit → Act → World → Prop} {oi : Oper} {N : Option Tmp} {a : Act} {w : World} {K : Act → World → Prop} {f : FuncId} {fn : Func} {xs : Array Operand} {ts : Array TypeId} (hf : P.funcs[f]? = some fn) (hname : (fn.name == "runtime.NumGoroutine") = false) (hb : fn.body.isSome = true) (args : Array Value)
    (hw : Region.wanted oi (yielded ops a.tmps) = true) (hN : oi.dst = N) (hop : oi.op = .call { callee := .value (.func f), args := xs, argTypes := ts }) (hargs : xs.map a.eval = args)
    (h : Calls P f args w fun e w' => ∃ v, e = .returned v ∧ K (a.put N v) w') : if Region.wanted oi (yielded ops a.tmps) = true then Oper.wp P oi a w K Q else K (a.put N undef) w := by
  have hrun : (execOp a.eval oi).run P w = .ok (.enter f args) w := by
    have he := enters_ hf hname hb args w
    unfold execOp
    simp [hop, resolve, Deferred.ofValue, invoke, Act.eval, hargs, he]
  rw [if_pos hw]
  subst hN
  unfold Oper.wp
  rw [hrun, Oper.upon_enter]
  refine h.mono fun e w'' hh => ?_
  obtain ⟨v, rfl, hk⟩ := hh
  exact hk
theorem size_sh44 : (Tryd.prog.info? 44).map (·.size) = some 4 := by kernel_rfl
set_option maxHeartbeats 16000000 in
set_option maxRecDepth 100000 in
theorem same_calls (k : Nat) (A0_0 : Option Addr) (c0_0 : Nat) (l0_0 : List ByteArray) (A0_1 : Option Addr) (c0_1 : Nat) (l0_1 : List (S44)) (a0_2 : ByteArray) (A0_3 : Option Addr) (c0_3 : Nat) (l0_3 : List (S51)) (a0_4 : Bool)
    (A1_0 : Option Addr) (c1_0 : Nat) (l1_0 : List ByteArray) (A1_1 : Option Addr) (c1_1 : Nat) (l1_1 : List (S44)) (a1_2 : ByteArray) (A1_3 : Option Addr) (c1_3 : Nat) (l1_3 : List (S51)) (a1_4 : Bool) (w : World)
    (hr0_0 : Kd.C Kd.string w A0_0 l0_0.length l0_0) (hc0_0 : l0_0.length ≤ c0_0) (hr0_1 : Kd.C k44 w A0_1 l0_1.length l0_1) (hc0_1 : l0_1.length ≤ c0_1) (hr0_3 : Kd.C k51 w A0_3 l0_3.length l0_3) (hc0_3 : l0_3.length ≤ c0_3)
    (hr1_0 : Kd.C Kd.string w A1_0 l1_0.length l1_0) (hc1_0 : l1_0.length ≤ c1_0) (hr1_1 : Kd.C k44 w A1_1 l1_1.length l1_1) (hc1_1 : l1_1.length ≤ c1_1) (hr1_3 : Kd.C k51 w A1_3 l1_3.length l1_3) (hc1_3 : l1_3.length ≤ c1_3)
    (hs : l0_1.length ≤ 1000000) (hrl : l0_3.length ≤ 1000000) (h : Alike k l0_0 l0_1 a0_2 l0_3 a0_4 l1_0 l1_1 a1_2 l1_3 a1_4) :
    Calls Tryd.prog 14 #[.agg #[.slice A0_0 l0_0.length c0_0, .slice A0_1 l0_1.length c0_1, .string a0_2, .slice A0_3 l0_3.length c0_3, .bool a0_4], .agg #[.slice A1_0 l1_0.length c1_0, .slice A1_1 l1_1.length c1_1, .string a1_2, .slice A1_3 l1_3.length c1_3, .bool a1_4]] w fun e w' => e = .returned (.bool true) ∧ Below w.heap.size w w' := by
  have hd := h.d
  have hm := h.m
  subst hd hm
  have H := Aside0.mk h
  have HS := Aside0.mk hs
  have HRL := Aside0.mk hrl
  have H00 := Aside0.mk hr0_0
  have H10 := Aside0.mk hr1_0
  have H01 := Aside0.mk hr0_1
  have H11 := Aside0.mk hr1_1
  have H03 := Aside0.mk hr0_3
  have H13 := Aside0.mk hr1_3
  have HC00 := Aside0.mk hc0_0
  have HC10 := Aside0.mk hc1_0
  obtain ⟨n00, hn00⟩ : ∃ n, n = l0_0.length := ⟨_, rfl⟩
  obtain ⟨n10, hn10⟩ : ∃ n, n = l1_0.length := ⟨_, rfl⟩
  obtain ⟨n01, hn01⟩ : ∃ n, n = l0_1.length := ⟨_, rfl⟩
  obtain ⟨n03, hn03⟩ : ∃ n, n = l0_3.length := ⟨_, rfl⟩
  have hls := h.ls
  have hlr := h.lr
  rw [← hls, ← hlr, ← hn00, ← hn10, ← hn01, ← hn03]
  have HN00 := Aside0.mk hn00
  have HN10 := Aside0.mk hn10
  have HN01 := Aside0.mk hn01
  have HN03 := Aside0.mk hn03
  clear h hs hrl hr0_0 hr1_0 hr0_1 hr1_1 hr0_3 hr1_3 hc0_0 hc1_0 hc0_1 hc1_1 hc0_3 hc1_3 hls hlr hn00 hn10 hn01 hn03
  have q1 : (a0_2.toList == a0_2.toList) = true := by simp
  have q2 : (a0_4 == a0_4) = true := by simp
  go_enter Tryd.func14, Tryd.ntmps14
  go_upto_region 1 with (fail)
  obtain ⟨g2, hg2⟩ : ∃ g2, g2 = w.heap.size := ⟨_, rfl⟩
  obtain ⟨w1, hw1⟩ : ∃ w1, w1 = (w.alloc (.cells #[.slice A0_0 n00 c0_0, .slice A0_1 n01 c0_1, .string a0_2, .slice A0_3 n03 c0_3, .bool a0_4] 27)).alloc (.cells #[.slice A1_0 n10 c1_0, .slice A1_1 n01 c1_1, .string a0_2, .slice A1_3 n03 c1_3, .bool a0_4] 27) := ⟨_, rfl⟩
  rw [← hw1, ← hg2]
  have HX2 : Aside0 (w1.heap[g2]? = some (.cells #[.slice A0_0 n00 c0_0, .slice A0_1 n01 c0_1, .string a0_2, .slice A0_3 n03 c0_3, .bool a0_4] 27 (0, 0))) := ⟨by rw [hw1, hg2]; exact blk_alloc (blk_new _ _) _⟩
  have HX3 : Aside0 (w1.heap[g2 + 1]? = some (.cells #[.slice A1_0 n10 c1_0, .slice A1_1 n01 c1_1, .string a0_2, .slice A1_3 n03 c1_3, .bool a0_4] 27 (0, 0))) := ⟨by rw [hw1, hg2]; exact blk_snd _ _ _ _ _⟩
  have HB1 : Aside0 (Below w.heap.size w w1) := ⟨by rw [hw1]; exact below_alloc (below_alloc (Below.refl _ _) _) _⟩
  have HG2 := Aside0.mk hg2
  clear hw1 hg2
  have hst := parapetref19_SameTexts.calls k A0_0 c0_0 l0_0 A1_0 c1_0 l1_0 true w1 (Kd.C_below H00.out HB1.out) HC00.out (Kd.C_below H10.out HB1.out) HC10.out H.out.c
  rw [← HN00.out, ← HN10.out] at hst
  have HST := Aside0.mk hst
  clear hst
  have c20 : w1.cell? ⟨g2, 0, none⟩ = some (.slice A0_0 n00 c0_0) := blk_cell HX2.out 0
  have c21 : w1.cell? ⟨g2, 1, none⟩ = some (.slice A0_1 n01 c0_1) := blk_cell HX2.out 1
  have c22 : w1.cell? ⟨g2, 2, none⟩ = some (.string a0_2) := blk_cell HX2.out 2
  have c23 : w1.cell? ⟨g2, 3, none⟩ = some (.slice A0_3 n03 c0_3) := blk_cell HX2.out 3
  have c24 : w1.cell? ⟨g2, 4, none⟩ = some (.bool a0_4) := blk_cell HX2.out 4
  have c30 : w1.cell? ⟨g2 + 1, 0, none⟩ = some (.slice A1_0 n10 c1_0) := blk_cell HX3.out 0
  have c31 : w1.cell? ⟨g2 + 1, 1, none⟩ = some (.slice A1_1 n01 c1_1) := blk_cell HX3.out 1
  have c32 : w1.cell? ⟨g2 + 1, 2, none⟩ = some (.string a0_2) := blk_cell HX3.out 2
  have c33 : w1.cell? ⟨g2 + 1, 3, none⟩ = some (.slice A1_3 n03 c1_3) := blk_cell HX3.out 3
  have c34 : w1.cell? ⟨g2 + 1, 4, none⟩ = some (.bool a0_4) := blk_cell HX3.out 4
  go_wp2_with fail
  refine HST.out.mono ?_
  rintro e w2 ⟨rfl, ⟨⟨m, rfl⟩⟩⟩
  dsimp only
  go_wp2_with fail
  obtain ⟨wl, hwl⟩ : ∃ wl, wl = w1.drewN m := ⟨_, rfl⟩
  rw [← hwl]
  have HBL : Aside0 (Below w1.heap.size w1 wl) := ⟨by rw [hwl]; exact pw_below_drewN (Below.refl _ _) m⟩
  clear hwl HST c20 c21 c22 c23 c24 c30 c31 c32 c33 c34 q1 q2
  go_loopg [5] n01 (fun gk v5 wr => ∃ (i : Nat), v5 = .int .i64 i ∧ Aside0 (i ≤ n01) ∧ Aside0 (n01 - i ≤ gk) ∧ Aside0 (Below w1.heap.size w1 wr))
  case atStart => exact ⟨0, rfl, ⟨Nat.zero_le _⟩, ⟨Nat.le_refl _⟩, HBL⟩
  case round =>
    clear HBL
    obtain ⟨i, rfl, HIL, HIG, HBR⟩ := hrel
    have HBW : Aside0 (Below w.heap.size w wr) := ⟨HB1.out.trans (HBR.out.mono HB1.out.size)⟩
    have HX2r := Aside0.mk (blk_below HX2.out HBR.out)
    have HX3r := Aside0.mk (blk_below HX3.out HBR.out)
    have c21 : wr.cell? ⟨g2, 1, none⟩ = some (.slice A0_1 n01 c0_1) := blk_cell HX2r.out 1
    have hib : (i : Int) ≤ 1000000 := by have := HIL.out; have := HS.out; have := HN01.out; omega
    by_cases hlt : i < n01
    · have l1 : decide (i < n01) = true := decide_eq_true hlt
      have l2 : decide ((i : Int) < (n01 : Int)) = true := decide_eq_true (by omega)
      have l3 : (i : Int) < (n01 : Int) := by omega
      have hsh := H.out.s i (by rw [← HN01.out]; exact hlt)
      obtain ⟨x, hx⟩ : ∃ x, x = rd_T44 l0_1 (i : Int) := ⟨_, rfl⟩
      obtain ⟨y, hy⟩ : ∃ y, y = rd_T44 l1_1 (i : Int) := ⟨_, rfl⟩
      rw [← hx, ← hy] at hsh
      simp only [shSame, Bool.and_eq_true, decide_eq_true_eq] at hsh
      obtain ⟨e0, e3, s1, s2⟩ := hsh
      have S1 := Aside0.mk s1
      have S2 := Aside0.mk s2
      have E0 := Aside0.mk e0
      have E3 := Aside0.mk e3
      obtain ⟨ad, A1, k1, A2, k2, hA1, q0, q1, q2, q3, hk1, hC1, hk2, hC2⟩ := at_T44 (Kd.C_below H01.out HBW.out) (i : Int) (by omega) (by rw [← HN01.out]; omega)
      have hA : A0_1 = some ad := hA1
      subst hA
      rw [← hx] at q0 q1 q2 q3 hk1 hC1 hk2 hC2
      simp only [Int.toNat_natCast] at q0 q1 q2 q3
      have HK1 := Aside0.mk hk1
      have HK2 := Aside0.mk hk2
      have HC1 := Aside0.mk hC1
      have HC2 := Aside0.mk hC2
      obtain ⟨m1, hm1⟩ : ∃ m1, m1 = x.f1.length := ⟨_, rfl⟩
      obtain ⟨m2, hm2⟩ : ∃ m2, m2 = x.f2.length := ⟨_, rfl⟩
      obtain ⟨z0, hz0⟩ : ∃ z0, z0 = x.f0 := ⟨_, rfl⟩
      obtain ⟨z3, hz3⟩ : ∃ z3, z3 = x.f3 := ⟨_, rfl⟩
      rw [← hm1] at q1
      rw [← hm2] at q2
      rw [← hz0] at q0
      rw [← hz3] at q3
      have HM1 := Aside0.mk hm1
      have HM2 := Aside0.mk hm2
      have HZ0 := Aside0.mk hz0
      have HZ3 := Aside0.mk hz3
      have HY := Aside0.mk hy
      clear hA1 hk1 hk2 hC1 hC2 e0 e3 s1 s2 hm1 hm2 hz0 hz3 hx hy hlt
      go_upto_region 7 with (refine wpList_store_row rfl 44 _ _ rfl wr.heap.size #[.string z0, .slice A1 m1 k1, .slice A2 m2 k2, .bool z3] rfl rfl 44 #[.string ⟨#[]⟩, .slice none 0 0, .slice none 0 0, .bool false] (blk_new _ _) size_sh44 rfl (by simp [Value.oneCell']) ?_)
      obtain ⟨g6, hg6⟩ : ∃ g6, g6 = wr.heap.size := ⟨_, rfl⟩
      obtain ⟨w6, hw6⟩ : ∃ w6, w6 = (wr.alloc (.cells #[.string ⟨#[]⟩, .slice none 0 0, .slice none 0 0, .bool false] 44)).setRow wr.heap.size #[.string z0, .slice A1 m1 k1, .slice A2 m2 k2, .bool z3] := ⟨_, rfl⟩
      have hput : ∀ (a : Act) (v : Value), a.put none v = a := fun _ _ => rfl
      rw [← hw6, ← hg6, hput]
      have HX6 : Aside0 (w6.heap[g6]? = some (.cells #[.string z0, .slice A1 m1 k1, .slice A2 m2 k2, .bool z3] 44 (0, 0))) := ⟨by rw [hw6, hg6]; exact setRow_heap _ _ _ _ _ _ (blk_new _ _)⟩
      have HB6r : Aside0 (Below wr.heap.size wr w6) := ⟨by rw [hw6]; exact below_setRow (below_alloc (Below.refl _ _) _) (Nat.le_refl _) _⟩
      have HB6 : Aside0 (Below w1.heap.size w1 w6) := ⟨HBR.out.trans (HB6r.out.mono HBR.out.size)⟩
      have HB6w : Aside0 (Below w.heap.size w w6) := ⟨HB1.out.trans (HB6.out.mono HB1.out.size)⟩
      have HC1' := Aside0.mk (Kd.C_below HC1.out HB6r.out)
      have HC2' := Aside0.mk (Kd.C_below HC2.out HB6r.out)
      have HL6 : Aside0 (g6 < w6.heap.size) := ⟨blk_lt HX6.out⟩
      clear hw6 hg6 q0 q1 q2 q3 c21 HC1 HC2 HB6r HX2r HX3r HBR HBW
      have c31 : w6.cell? ⟨g2 + 1, 1, none⟩ = some (.slice A1_1 n01 c1_1) := blk_cell (blk_below HX3.out HB6.out) 1
      obtain ⟨bd, B1, b1, B2, b2, hA1, q0, q1, q2, q3, hk1, hC1, hk2, hC2⟩ := at_T44 (Kd.C_below H11.out HB6w.out) (i : Int) (by omega) (by rw [← H.out.ls, ← HN01.out]; omega)
      have hA : A1_1 = some bd := hA1
      subst hA
      rw [← HY.out] at q0 q1 q2 q3 hk1 hC1 hk2 hC2
      rw [← E0.out, ← HZ0.out] at q0
      rw [← E3.out, ← HZ3.out] at q3
      simp only [Int.toNat_natCast] at q0 q1 q2 q3
      have HBK1 := Aside0.mk hk1
      have HBK2 := Aside0.mk hk2
      have HD1 := Aside0.mk hC1
      have HD2 := Aside0.mk hC2
      obtain ⟨p1, hm1⟩ : ∃ p1, p1 = y.f1.length := ⟨_, rfl⟩
      obtain ⟨p2, hm2⟩ : ∃ p2, p2 = y.f2.length := ⟨_, rfl⟩
      rw [← hm1] at q1
      rw [← hm2] at q2
      have HP1 := Aside0.mk hm1
      have HP2 := Aside0.mk hm2
      clear hA1 hk1 hk2 hC1 hC2 hm1 hm2
      go_upto_region 8 with (refine wpList_store_row rfl 44 _ _ rfl w6.heap.size #[.string z0, .slice B1 p1 b1, .slice B2 p2 b2, .bool z3] rfl rfl 44 #[.string ⟨#[]⟩, .slice none 0 0, .slice none 0 0, .bool false] (blk_new _ _) size_sh44 rfl (by simp [Value.oneCell']) ?_)
      obtain ⟨g7, hg7⟩ : ∃ g7, g7 = w6.heap.size := ⟨_, rfl⟩
      obtain ⟨w7, hw7⟩ : ∃ w7, w7 = (w6.alloc (.cells #[.string ⟨#[]⟩, .slice none 0 0, .slice none 0 0, .bool false] 44)).setRow w6.heap.size #[.string z0, .slice B1 p1 b1, .slice B2 p2 b2, .bool z3] := ⟨_, rfl⟩
      rw [← hw7, ← hg7, hput]
      clear hput
      have HX7 : Aside0 (w7.heap[g7]? = some (.cells #[.string z0, .slice B1 p1 b1, .slice B2 p2 b2, .bool z3] 44 (0, 0))) := ⟨by rw [hw7, hg7]; exact setRow_heap _ _ _ _ _ _ (blk_new _ _)⟩
      have HB7r : Aside0 (Below w6.heap.size w6 w7) := ⟨by rw [hw7]; exact below_setRow (below_alloc (Below.refl _ _) _) (Nat.le_refl _) _⟩
      have HB7 : Aside0 (Below w1.heap.size w1 w7) := ⟨HB6.out.trans (HB7r.out.mono HB6.out.size)⟩
      have HX6' := Aside0.mk (blk_below HX6.out HB7r.out)
      have t1 := parapetref19_SameTexts.calls k A1 k1 x.f1 B1 b1 y.f1 true w7 (Kd.C_below HC1'.out HB7r.out) HK1.out (Kd.C_below HD1.out HB7r.out) HBK1.out S1.out
      have t2 := fun m => parapetref19_SameTexts.calls k A2 k2 x.f2 B2 b2 y.f2 true (w7.drewN m) (Kd.C_below (Kd.C_below HC2'.out HB7r.out) (pw_below_drewN (Below.refl _ _) m)) HK2.out (Kd.C_below (Kd.C_below HD2.out HB7r.out) (pw_below_drewN (Below.refl _ _) m)) HBK2.out S2.out
      rw [← HM1.out, ← HP1.out] at t1
      simp only [← HM2.out, ← HP2.out] at t2
      have TT1 := Aside0.mk t1
      have TT2 := Aside0.mk t2
      clear hw7 hg7 q0 q1 q2 q3 c31 t1 t2
      have d0 : w7.cell? ⟨g6, 0, none⟩ = some (.string z0) := blk_cell HX6'.out 0
      have d1 : w7.cell? ⟨g6, 1, none⟩ = some (.slice A1 m1 k1) := blk_cell HX6'.out 1
      have d2 : w7.cell? ⟨g6, 2, none⟩ = some (.slice A2 m2 k2) := blk_cell HX6'.out 2
      have d3 : w7.cell? ⟨g6, 3, none⟩ = some (.bool z3) := blk_cell HX6'.out 3
      have f0 : w7.cell? ⟨g7, 0, none⟩ = some (.string z0) := blk_cell HX7.out 0
      have f1 : w7.cell? ⟨g7, 1, none⟩ = some (.slice B1 p1 b1) := blk_cell HX7.out 1
      have f2 : w7.cell? ⟨g7, 2, none⟩ = some (.slice B2 p2 b2) := blk_cell HX7.out 2
      have f3 : w7.cell? ⟨g7, 3, none⟩ = some (.bool z3) := blk_cell HX7.out 3
      have r1 : (z0.toList == z0.toList) = true := by simp
      have r2 : (z3 == z3) = true := by simp
      go_wp2_with fail
      refine TT1.out.mono ?_
      rintro e w8 ⟨rfl, ⟨⟨m8, rfl⟩⟩⟩
      dsimp only
      go_wp2_with fail
      refine (TT2.out m8).mono ?_
      rintro e w9 ⟨rfl, ⟨⟨m9, rfl⟩⟩⟩
      dsimp only
      go_wp2
      go_roundg (n01 - (i + 1))
      case measure => have := HIG.out; omega
      case rel => exact ⟨i + 1, by simp, ⟨by omega⟩, ⟨Nat.le_refl _⟩, ⟨pw_below_drewN HB7.out _⟩⟩
    · have l1 : decide (i < n01) = false := decide_eq_false hlt
      have l2 : decide ((i : Int) < (n01 : Int)) = false := decide_eq_false (by omega)
      clear hlt
      go_wp2_with fail
      clear c21 l1 l2
      obtain ⟨wl, hwl⟩ : ∃ wl, wl = wr := ⟨_, rfl⟩
      rw [← hwl]
      have HBL : Aside0 (Below w1.heap.size w1 wl) := ⟨by rw [hwl]; exact HBR.out⟩
      clear hwl HBR HBW HX2r HX3r HIL HIG hib
      go_loopg [8] n03 (fun gk v8 wr => ∃ (i : Nat), v8 = .int .i64 i ∧ Aside0 (i ≤ n03) ∧ Aside0 (n03 - i ≤ gk) ∧ Aside0 (Below w1.heap.size w1 wr))
      case atStart => exact ⟨0, rfl, ⟨Nat.zero_le _⟩, ⟨Nat.le_refl _⟩, HBL⟩
      case round =>
        clear HBL
        rename_i i_old
        obtain ⟨i, rfl, HIL, HIG, HBR⟩ := hrel
        have HBW : Aside0 (Below w.heap.size w wr) := ⟨HB1.out.trans (HBR.out.mono HB1.out.size)⟩
        have HX2r := Aside0.mk (blk_below HX2.out HBR.out)
        have HX3r := Aside0.mk (blk_below HX3.out HBR.out)
        have c23 : wr.cell? ⟨g2, 3, none⟩ = some (.slice A0_3 n03 c0_3) := blk_cell HX2r.out 3
        have c33 : wr.cell? ⟨g2 + 1, 3, none⟩ = some (.slice A1_3 n03 c1_3) := blk_cell HX3r.out 3
        have hib : (i : Int) ≤ 1000000 := by have := HIL.out; have := HRL.out; have := HN03.out; omega
        by_cases hlt : i < n03
        · have l1 : decide (i < n03) = true := decide_eq_true hlt
          have l2 : decide ((i : Int) < (n03 : Int)) = true := decide_eq_true (by omega)
          have l3 : (i : Int) < (n03 : Int) := by omega
          have hsh := H.out.r i (by rw [← HN03.out]; exact hlt)
          obtain ⟨x, hx⟩ : ∃ x, x = rd_T51 l0_3 (i : Int) := ⟨_, rfl⟩
          obtain ⟨y, hy⟩ : ∃ y, y = rd_T51 l1_3 (i : Int) := ⟨_, rfl⟩
          rw [← hx, ← hy] at hsh
          simp only [rlSame, Bool.and_eq_true, decide_eq_true_eq] at hsh
          obtain ⟨e0, sc⟩ := hsh
          obtain ⟨ad, A3, k3, hA1, q0, q1, q2, q3, q4, hk3, hC3⟩ := at_T51 (Kd.C_below H03.out HBW.out) (i : Int) (by omega) (by rw [← HN03.out]; omega)
          obtain ⟨bd, B3, b3, hB1, s0, s1, s2, s3, s4, hk4, hC4⟩ := at_T51 (Kd.C_below H13.out HBW.out) (i : Int) (by omega) (by rw [← H.out.lr, ← HN03.out]; omega)
          have hA : A0_3 = some ad := hA1
          have hBB : A1_3 = some bd := hB1
          subst hA hBB
          rw [← hx] at q0 q1 q2 q3 q4 hk3 hC3
          rw [← hy] at s0 s1 s2 s3 s4 hk4 hC4
          rw [← e0] at s0
          have hsc := parapetref19_SameCond.calls k x.f1.f0 x.f1.f1.f0 x.f1.f1.f1 A3 k3 x.f1.f2 y.f1.f0 y.f1.f1.f0 y.f1.f1.f1 B3 b3 y.f1.f2 true wr.drew (Kd.C_drew hC3) hk3 (Kd.C_drew hC4) hk4 sc
          simp only [Int.toNat_natCast] at q0 q1 q2 q3 q4 s0 s1 s2 s3 s4
          obtain ⟨m3, hm3⟩ : ∃ m3, m3 = x.f1.f2.length := ⟨_, rfl⟩
          obtain ⟨p3, hp3⟩ : ∃ p3, p3 = y.f1.f2.length := ⟨_, rfl⟩
          rw [← hm3] at q4 hsc
          rw [← hp3] at s4 hsc
          clear hk3 hC3 hk4 hC4 sc e0 hx hy hm3 hp3 hA1 hB1
          obtain ⟨z0, ⟨x0, ⟨x1, x2⟩, xk⟩⟩ := x
          obtain ⟨zy, ⟨y0, ⟨y1, y2⟩, yk⟩⟩ := y
          dsimp only at q0 q1 q2 q3 q4 s0 s1 s2 s3 s4 hsc
          have HSC := Aside0.mk hsc
          have hbl := World.block_lt_of_cell? wr _ q0
          have hbl2 := World.block_lt_of_cell? wr _ s0
          have r1 : (z0 != z0) = false := by simp
          clear hsc hlt
          go_upto_region 13 with (fail)
          refine start_ (n := 29) (S := fun w' => w'.cell? ⟨g2, 3, none⟩ = some (.slice (some ad) n03 c0_3) ∧ w'.cell? ⟨g2 + 1, 3, none⟩ = some (.slice (some bd) n03 c1_3) ∧ w'.cell? (ad.add (i * 5)) = some (.bool z0) ∧ w'.cell? ⟨(ad.add (i * 5)).block, (ad.add (i * 5)).off + 1, none⟩ = some (.int .i64 x0) ∧ w'.cell? ⟨(ad.add (i * 5)).block, (ad.add (i * 5)).off + 2, none⟩ = some (.string x1) ∧ w'.cell? ⟨(ad.add (i * 5)).block, (ad.add (i * 5)).off + 3, none⟩ = some (.string x2) ∧ w'.cell? ⟨(ad.add (i * 5)).block, (ad.add (i * 5)).off + 4, none⟩ = some (.slice A3 m3 k3) ∧ w'.cell? (bd.add (i * 5)) = some (.bool z0) ∧ w'.cell? ⟨(bd.add (i * 5)).block, (bd.add (i * 5)).off + 1, none⟩ = some (.int .i64 y0) ∧ w'.cell? ⟨(bd.add (i * 5)).block, (bd.add (i * 5)).off + 2, none⟩ = some (.string y1) ∧ w'.cell? ⟨(bd.add (i * 5)).block, (bd.add (i * 5)).off + 3, none⟩ = some (.string y2) ∧ w'.cell? ⟨(bd.add (i * 5)).block, (bd.add (i * 5)).off + 4, none⟩ = some (.slice B3 p3 b3)) (ds := [26]) #[false, false, false, false, false, false, false, false, false, false, false, false, false, false, false, false, false, false, false, false, false, false, false, false, false, false, false, false, false] (by kernel_rfl) rfl rfl ⟨c23, c33, q0, q1, q2, q3, q4, s0, s1, s2, s3, s4⟩ (fun hHeld => ?_)
          refine pure_ (i := 0) (N := some 99) (v := ?_) (a' := ?_) #[true, false, false, false, false, false, false, false, false, false, false, false, false, false, false, false, false, false, false, false, false, false, false, false, false, false, false, false, false] rfl rfl (by kernel_rfl) (fun _ _ _ h => h) (Or.inl ⟨by rfl, ?_⟩) ?_ ?_
          rotate_left
          · intro w'
            go_simp
            with_reducible rfl
          rotate_left
          · simp only [Act.put, List.setIfInBounds_toArray, List.set_cons_zero, List.set_cons_succ, i64_w, i32_w]
            rfl
          refine pure_ (i := 2) (N := some 101) (v := ?_) (a' := ?_) #[true, false, true, false, false, false, false, false, false, false, false, false, false, false, false, false, false, false, false, false, false, false, false, false, false, false, false, false, false] rfl rfl (by kernel_rfl) (fun _ _ _ h => h) (Or.inl ⟨by rfl, ?_⟩) ?_ ?_
          rotate_left
          · intro w'
            go_simp
            with_reducible rfl
          rotate_left
          · simp only [Act.put, List.setIfInBounds_toArray, List.set_cons_zero, List.set_cons_succ, i64_w, i32_w]
            rfl
          refine pure_ (i := 6) (N := some 105) (v := ?_) (a' := ?_) #[true, false, true, false, false, false, true, false, false, false, false, false, false, false, false, false, false, false, false, false, false, false, false, false, false, false, false, false, false] rfl rfl (by kernel_rfl) (fun _ _ _ h => h) (Or.inl ⟨by rfl, ?_⟩) ?_ ?_
          rotate_left
          · intro w'
            go_simp
            with_reducible rfl
          rotate_left
          · simp only [Act.put, List.setIfInBounds_toArray, List.set_cons_zero, List.set_cons_succ, i64_w, i32_w]
            rfl
          refine pure_ (i := 8) (N := some 107) (v := ?_) (a' := ?_) #[true, false, true, false, false, false, true, false, true, false, false, false, false, false, false, false, false, false, false, false, false, false, false, false, false, false, false, false, false] rfl rfl (by kernel_rfl) (fun _ _ _ h => h) (Or.inl ⟨by rfl, ?_⟩) ?_ ?_
          rotate_left
          · intro w'
            go_simp
            with_reducible rfl
          rotate_left
          · simp only [Act.put, List.setIfInBounds_toArray, List.set_cons_zero, List.set_cons_succ, i64_w, i32_w]
            rfl
          refine take_ (i := 1) (N := some 100) (v := ?_) (a' := ?_) #[true, true, true, false, false, false, true, false, true, false, false, false, false, false, false, false, false, false, false, false, false, false, false, false, false, false, false, false, false] rfl rfl (by kernel_rfl) (fun _ _ _ h => h) (Or.inl ⟨by rfl, ?_⟩) hHeld ?_ ?_
          rotate_left
          · rintro w' ⟨s0, s1, s2, s3, s4, s5, s6, s7, s8, s9, s10, s11⟩
            go_simp
            with_reducible rfl
          rotate_left
          · simp only [Act.put, List.setIfInBounds_toArray, List.set_cons_zero, List.set_cons_succ, i64_w, i32_w]
            rfl
          refine pure_ (i := 3) (N := some 102) (v := ?_) (a' := ?_) #[true, true, true, true, false, false, true, false, true, false, false, false, false, false, false, false, false, false, false, false, false, false, false, false, false, false, false, false, false] rfl rfl (by kernel_rfl) (fun _ _ _ h => h) (Or.inl ⟨by rfl, ?_⟩) ?_ ?_
          rotate_left
          · intro w'
            go_simp
            with_reducible rfl
          rotate_left
          · simp only [Act.put, List.setIfInBounds_toArray, List.set_cons_zero, List.set_cons_succ, i64_w, i32_w]
            rfl
          refine pure_ (i := 4) (N := some 103) (v := ?_) (a' := ?_) #[true, true, true, true, true, false, true, false, true, false, false, false, false, false, false, false, false, false, false, false, false, false, false, false, false, false, false, false, false] rfl rfl (by kernel_rfl) (fun _ _ _ h => h) (Or.inl ⟨by rfl, ?_⟩) ?_ ?_
          rotate_left
          · intro w'
            go_simp
            with_reducible rfl
          rotate_left
          · simp only [Act.put, List.setIfInBounds_toArray, List.set_cons_zero, List.set_cons_succ, i64_w, i32_w]
            rfl
          refine take_ (i := 5) (N := some 104) (v := ?_) (a' := ?_) #[true, true, true, true, true, true, true, false, true, false, false, false, false, false, false, false, false, false, false, false, false, false, false, false, false, false, false, false, false] rfl rfl (by kernel_rfl) (fun _ _ _ h => h) (Or.inl ⟨by rfl, ?_⟩) hHeld ?_ ?_
          rotate_left
          · rintro w' ⟨s0, s1, s2, s3, s4, s5, s6, s7, s8, s9, s10, s11⟩
            go_simp
            with_reducible rfl
          rotate_left
          · simp only [Act.put, List.setIfInBounds_toArray, List.set_cons_zero, List.set_cons_succ, i64_w, i32_w]
            rfl
          refine take_ (i := 7) (N := some 106) (v := ?_) (a' := ?_) #[true, true, true, true, true, true, true, true, true, false, false, false, false, false, false, false, false, false, false, false, false, false, false, false, false, false, false, false, false] rfl rfl (by kernel_rfl) (fun _ _ _ h => h) (Or.inl ⟨by rfl, ?_⟩) hHeld ?_ ?_
          rotate_left
          · rintro w' ⟨s0, s1, s2, s3, s4, s5, s6, s7, s8, s9, s10, s11⟩
            go_simp
            with_reducible rfl
          rotate_left
          · simp only [Act.put, List.setIfInBounds_toArray, List.set_cons_zero, List.set_cons_succ, i64_w, i32_w]
            rfl
          refine pure_ (i := 9) (N := some 108) (v := ?_) (a' := ?_) #[true, true, true, true, true, true, true, true, true, true, false, false, false, false, false, false, false, false, false, false, false, false, false, false, false, false, false, false, false] rfl rfl (by kernel_rfl) (fun _ _ _ h => h) (Or.inl ⟨by rfl, ?_⟩) ?_ ?_
          rotate_left
          · intro w'
            go_simp
            with_reducible rfl
          rotate_left
          · simp only [Act.put, List.setIfInBounds_toArray, List.set_cons_zero, List.set_cons_succ, i64_w, i32_w]
            rfl
          refine pure_ (i := 10) (N := some 109) (v := ?_) (a' := ?_) #[true, true, true, true, true, true, true, true, true, true, true, false, false, false, false, false, false, false, false, false, false, false, false, false, false, false, false, false, false] rfl rfl (by kernel_rfl) (fun _ _ _ h => h) (Or.inl ⟨by rfl, ?_⟩) ?_ ?_
          rotate_left
          · intro w'
            go_simp
            with_reducible rfl
          rotate_left
          · simp only [Act.put, List.setIfInBounds_toArray, List.set_cons_zero, List.set_cons_succ, i64_w, i32_w]
            rfl
          refine take_ (i := 11) (N := some 110) (v := ?_) (a' := ?_) #[true, true, true, true, true, true, true, true, true, true, true, true, false, false, false, false, false, false, false, false, false, false, false, false, false, false, false, false, false] rfl rfl (by kernel_rfl) (fun _ _ _ h => h) (Or.inl ⟨by rfl, ?_⟩) hHeld ?_ ?_
          rotate_left
          · rintro w' ⟨s0, s1, s2, s3, s4, s5, s6, s7, s8, s9, s10, s11⟩
            go_simp
            with_reducible rfl
          rotate_left
          · simp only [Act.put, List.setIfInBounds_toArray, List.set_cons_zero, List.set_cons_succ, i64_w, i32_w]
            rfl
          refine pure_ (i := 12) (N := some 111) (v := ?_) (a' := ?_) #[true, true, true, true, true, true, true, true, true, true, true, true, true, false, false, false, false, false, false, false, false, false, false, false, false, false, false, false, false] rfl rfl (by kernel_rfl) (fun _ _ _ h => h) (Or.inl ⟨by rfl, ?_⟩) ?_ ?_
          rotate_left
          · intro w'
            go_simp
            with_reducible rfl
          rotate_left
          · simp only [Act.put, List.setIfInBounds_toArray, List.set_cons_zero, List.set_cons_succ, i64_w, i32_w]
            rfl
          refine pure_ (i := 13) (N := some 112) (v := ?_) (a' := ?_) #[true, true, true, true, true, true, true, true, true, true, true, true, true, true, false, false, false, false, false, false, false, false, false, false, false, false, false, false, false] rfl rfl (by kernel_rfl) (fun _ _ _ h => h) (Or.inl ⟨by rfl, ?_⟩) ?_ ?_
          rotate_left
          · intro w'
            go_simp
            with_reducible rfl
          rotate_left
          · simp only [Act.put, List.setIfInBounds_toArray, List.set_cons_zero, List.set_cons_succ, i64_w, i32_w]
            rfl
          refine pure_ (i := 14) (N := some 113) (v := ?_) (a' := ?_) #[true, true, true, true, true, true, true, true, true, true, true, true, true, true, true, false, false, false, false, false, false, false, false, false, false, false, false, false, false] rfl rfl (by kernel_rfl) (fun _ _ _ h => h) (Or.inl ⟨by rfl, ?_⟩) ?_ ?_
          rotate_left
          · intro w'
            go_simp
            with_reducible rfl
          rotate_left
          · simp only [Act.put, List.setIfInBounds_toArray, List.set_cons_zero, List.set_cons_succ, i64_w, i32_w]
            rfl
          refine pure_ (i := 16) (N := some 115) (v := ?_) (a' := ?_) #[true, true, true, true, true, true, true, true, true, true, true, true, true, true, true, false, true, false, false, false, false, false, false, false, false, false, false, false, false] rfl rfl (by kernel_rfl) (fun _ _ _ h => h) (Or.inl ⟨by rfl, ?_⟩) ?_ ?_
          rotate_left
          · intro w'
            go_simp
            with_reducible rfl
          rotate_left
          · simp only [Act.put, List.setIfInBounds_toArray, List.set_cons_zero, List.set_cons_succ, i64_w, i32_w]
            rfl
          refine pure_ (i := 20) (N := some 119) (v := ?_) (a' := ?_) #[true, true, true, true, true, true, true, true, true, true, true, true, true, true, true, false, true, false, false, false, true, false, false, false, false, false, false, false, false] rfl rfl (by kernel_rfl) (fun _ _ _ h => h) (Or.inl ⟨by rfl, ?_⟩) ?_ ?_
          rotate_left
          · intro w'
            go_simp
            with_reducible rfl
          rotate_left
          · simp only [Act.put, List.setIfInBounds_toArray, List.set_cons_zero, List.set_cons_succ, i64_w, i32_w]
            rfl
          refine pure_ (i := 22) (N := some 121) (v := ?_) (a' := ?_) #[true, true, true, true, true, true, true, true, true, true, true, true, true, true, true, false, true, false, false, false, true, false, true, false, false, false, false, false, false] rfl rfl (by kernel_rfl) (fun _ _ _ h => h) (Or.inl ⟨by rfl, ?_⟩) ?_ ?_
          rotate_left
          · intro w'
            go_simp
            with_reducible rfl
          rotate_left
          · simp only [Act.put, List.setIfInBounds_toArray, List.set_cons_zero, List.set_cons_succ, i64_w, i32_w]
            rfl
          refine take_ (i := 15) (N := some 114) (v := ?_) (a' := ?_) #[true, true, true, true, true, true, true, true, true, true, true, true, true, true, true, true, true, false, false, false, true, false, true, false, false, false, false, false, false] rfl rfl (by kernel_rfl) (fun _ _ _ h => h) (Or.inl ⟨by rfl, ?_⟩) hHeld ?_ ?_
          rotate_left
          · rintro w' ⟨s0, s1, s2, s3, s4, s5, s6, s7, s8, s9, s10, s11⟩
            go_simp
            with_reducible rfl
          rotate_left
          · simp only [Act.put, List.setIfInBounds_toArray, List.set_cons_zero, List.set_cons_succ, i64_w, i32_w]
            rfl
          refine pure_ (i := 17) (N := some 116) (v := ?_) (a' := ?_) #[true, true, true, true, true, true, true, true, true, true, true, true, true, true, true, true, true, true, false, false, true, false, true, false, false, false, false, false, false] rfl rfl (by kernel_rfl) (fun _ _ _ h => h) (Or.inl ⟨by rfl, ?_⟩) ?_ ?_
          rotate_left
          · intro w'
            go_simp
            with_reducible rfl
          rotate_left
          · simp only [Act.put, List.setIfInBounds_toArray, List.set_cons_zero, List.set_cons_succ, i64_w, i32_w]
            rfl
          refine pure_ (i := 18) (N := some 117) (v := ?_) (a' := ?_) #[true, true, true, true, true, true, true, true, true, true, true, true, true, true, true, true, true, true, true, false, true, false, true, false, false, false, false, false, false] rfl rfl (by kernel_rfl) (fun _ _ _ h => h) (Or.inl ⟨by rfl, ?_⟩) ?_ ?_
          rotate_left
          · intro w'
            go_simp
            with_reducible rfl
          rotate_left
          · simp only [Act.put, List.setIfInBounds_toArray, List.set_cons_zero, List.set_cons_succ, i64_w, i32_w]
            rfl
          refine take_ (i := 19) (N := some 118) (v := ?_) (a' := ?_) #[true, true, true, true, true, true, true, true, true, true, true, true, true, true, true, true, true, true, true, true, true, false, true, false, false, false, false, false, false] rfl rfl (by kernel_rfl) (fun _ _ _ h => h) (Or.inl ⟨by rfl, ?_⟩) hHeld ?_ ?_
          rotate_left
          · rintro w' ⟨s0, s1, s2, s3, s4, s5, s6, s7, s8, s9, s10, s11⟩
            go_simp
            with_reducible rfl
          rotate_left
          · simp only [Act.put, List.setIfInBounds_toArray, List.set_cons_zero, List.set_cons_succ, i64_w, i32_w]
            rfl
          refine take_ (i := 21) (N := some 120) (v := ?_) (a' := ?_) #[true, true, true, true, true, true, true, true, true, true, true, true, true, true, true, true, true, true, true, true, true, true, true, false, false, false, false, false, false] rfl rfl (by kernel_rfl) (fun _ _ _ h => h) (Or.inl ⟨by rfl, ?_⟩) hHeld ?_ ?_
          rotate_left
          · rintro w' ⟨s0, s1, s2, s3, s4, s5, s6, s7, s8, s9, s10, s11⟩
            go_simp
            with_reducible rfl
          rotate_left
          · simp only [Act.put, List.setIfInBounds_toArray, List.set_cons_zero, List.set_cons_succ, i64_w, i32_w]
            rfl
          refine pure_ (i := 23) (N := some 122) (v := ?_) (a' := ?_) #[true, true, true, true, true, true, true, true, true, true, true, true, true, true, true, true, true, true, true, true, true, true, true, true, false, false, false, false, false] rfl rfl (by kernel_rfl) (fun _ _ _ h => h) (Or.inl ⟨by rfl, ?_⟩) ?_ ?_
          rotate_left
          · intro w'
            go_simp
            with_reducible rfl
          rotate_left
          · simp only [Act.put, List.setIfInBounds_toArray, List.set_cons_zero, List.set_cons_succ, i64_w, i32_w]
            rfl
          refine pure_ (i := 24) (N := some 123) (v := ?_) (a' := ?_) #[true, true, true, true, true, true, true, true, true, true, true, true, true, true, true, true, true, true, true, true, true, true, true, true, true, false, false, false, false] rfl rfl (by kernel_rfl) (fun _ _ _ h => h) (Or.inl ⟨by rfl, ?_⟩) ?_ ?_
          rotate_left
          · intro w'
            go_simp
            with_reducible rfl
          rotate_left
          · simp only [Act.put, List.setIfInBounds_toArray, List.set_cons_zero, List.set_cons_succ, i64_w, i32_w]
            rfl
          refine take_ (i := 25) (N := some 124) (v := ?_) (a' := ?_) #[true, true, true, true, true, true, true, true, true, true, true, true, true, true, true, true, true, true, true, true, true, true, true, true, true, true, false, false, false] rfl rfl (by kernel_rfl) (fun _ _ _ h => h) (Or.inl ⟨by rfl, ?_⟩) hHeld ?_ ?_
          rotate_left
          · rintro w' ⟨s0, s1, s2, s3, s4, s5, s6, s7, s8, s9, s10, s11⟩
            go_simp
            with_reducible rfl
          rotate_left
          · simp only [Act.put, List.setIfInBounds_toArray, List.set_cons_zero, List.set_cons_succ, i64_w, i32_w]
            rfl
          refine last_ (i := 26) (N := some 125) #[true, true, true, true, true, true, true, true, true, true, true, true, true, true, true, true, true, true, true, true, true, true, true, true, true, true, true, false, false] rfl rfl (by kernel_rfl) (by decide) (fun K hK => ?_)
          refine goesS_ Tryd.func33 (by kernel_rfl) rfl #[.agg #[.int .i64 x0, .string x1, .string x2, .slice A3 m3 k3], .agg #[.int .i64 y0, .string y1, .string y2, .slice B3 p3 b3]] (by rfl) rfl rfl (by simp only [List.map_toArray, List.map_cons, List.map_nil]; rfl) ?_
          refine HSC.out.mono ?_
          rintro e w5 ⟨rfl, hb⟩
          refine ⟨_, rfl, ?_⟩
          have HB5 := Aside0.mk hb
          clear hb
          refine hK.out _ _ ?_
          clear hK K
          refine norm_ (a' := ?_) ?_ ?_
          rotate_left
          · show Act.put _ (some 125) _ = _
            simp only [Act.put, List.setIfInBounds_toArray, List.set_cons_zero, List.set_cons_succ, i64_w, i32_w]
            rfl
          refine pure_ (i := 27) (N := some 126) (v := ?_) (a' := ?_) #[true, true, true, true, true, true, true, true, true, true, true, true, true, true, true, true, true, true, true, true, true, true, true, true, true, true, true, true, false] rfl rfl (by kernel_rfl) (fun _ _ _ h => h) (Or.inl ⟨by rfl, ?_⟩) ?_ ?_
          rotate_left
          · intro w'
            go_simp
            with_reducible rfl
          rotate_left
          · simp only [Act.put, List.setIfInBounds_toArray, List.set_cons_zero, List.set_cons_succ, i64_w, i32_w]
            rfl
          refine pure_ (i := 28) (N := some 127) (v := ?_) (a' := ?_) #[true, true, true, true, true, true, true, true, true, true, true, true, true, true, true, true, true, true, true, true, true, true, true, true, true, true, true, true, true] rfl rfl (by kernel_rfl) (fun _ _ _ h => h) (Or.inl ⟨by rfl, ?_⟩) ?_ ?_
          rotate_left
          · intro w'
            go_simp
            with_reducible rfl
          rotate_left
          · simp only [Act.put, List.setIfInBounds_toArray, List.set_cons_zero, List.set_cons_succ, i64_w, i32_w]
            rfl
          refine done_ (by kernel_rfl) ?_

          go_wp2
          go_roundg (n03 - (i + 1))
          case measure => have := HIG.out; omega
          case rel => exact ⟨i + 1, by simp, ⟨by omega⟩, ⟨Nat.le_refl _⟩, ⟨(below_drew HBR.out).trans (HB5.out.mono HBR.out.size)⟩⟩
        · have l1 : decide (i < n03) = false := decide_eq_false hlt
          have l2 : decide ((i : Int) < (n03 : Int)) = false := decide_eq_false (by omega)
          clear hlt
          go_wp2
          go_ret
          exact ⟨rfl, HBW.out⟩
end Go.Proofs.YtngedmioeodmfaaDoor.Ps
namespace Go.Proofs.YtngedmioeodmfaaDoor.Pr
open Go.RowKit Go.Proofs.YtngedmioeodmfaaDoorW.PrintWords Go.Proofs.YtngedmioeodmfaaDoorW.PrintLast Go.Proofs.YtngedmioeodmfaaDoorW.PrintMore
attribute [local go_sem] max2_int min2_int max_two min_two max_three min_three max_four min_four   -- for this text's walks alone
set_option linter.unusedVariables false
set_option linter.unusedSimpArgs false
def parapetref19_SamePolicy.f (k : Nat) (l0_0 : List ByteArray) (l0_1 : List (S44)) (a0_2 : ByteArray) (l0_3 : List (S51)) (a0_4 : Bool) (l1_0 : List ByteArray) (l1_1 : List (S44)) (a1_2 : ByteArray) (l1_3 : List (S51)) (a1_4 : Bool) : Option (Bool) :=
  if Go.Proofs.YtngedmioeodmfaaDoor.Ps.alike k l0_0 l0_1 a0_2 l0_3 a0_4 l1_0 l1_1 a1_2 l1_3 a1_4 = true then some true else none
theorem parapetref19_SamePolicy.mono : ∀ a0 a1 a2 a3 a4 a5 a6 a7 a8 a9 k, LeO (parapetref19_SamePolicy.f k a0 a1 a2 a3 a4 a5 a6 a7 a8 a9) (parapetref19_SamePolicy.f (k + 1) a0 a1 a2 a3 a4 a5 a6 a7 a8 a9) := by
  intro a0 a1 a2 a3 a4 a5 a6 a7 a8 a9 k r h
  unfold parapetref19_SamePolicy.f at h ⊢
  by_cases hk : Go.Proofs.YtngedmioeodmfaaDoor.Ps.alike k a0 a1 a2 a3 a4 a5 a6 a7 a8 a9 = true
  · rw [if_pos hk] at h
    rw [if_pos (Go.Proofs.YtngedmioeodmfaaDoor.Ps.alike_mono hk)]
    exact h
  · rw [if_neg hk] at h; cases h
theorem parapetref19_SamePolicy.calls (k : Nat) (A0_0 : Option Addr) (c0_0 : Nat) (l0_0 : List ByteArray) (A0_1 : Option Addr) (c0_1 : Nat) (l0_1 : List (S44)) (a0_2 : ByteArray) (A0_3 : Option Addr) (c0_3 : Nat) (l0_3 : List (S51)) (a0_4 : Bool)
    (A1_0 : Option Addr) (c1_0 : Nat) (l1_0 : List ByteArray) (A1_1 : Option Addr) (c1_1 : Nat) (l1_1 : List (S44)) (a1_2 : ByteArray) (A1_3 : Option Addr) (c1_3 : Nat) (l1_3 : List (S51)) (a1_4 : Bool) (r : Bool) (w : World)
    (hr0_0 : Kd.C Kd.string w A0_0 l0_0.length l0_0) (hc0_0 : l0_0.length ≤ c0_0) (hr0_1 : Kd.C k44 w A0_1 l0_1.length l0_1) (hc0_1 : l0_1.length ≤ c0_1) (hr0_3 : Kd.C k51 w A0_3 l0_3.length l0_3) (hc0_3 : l0_3.length ≤ c0_3)
    (hr1_0 : Kd.C Kd.string w A1_0 l1_0.length l1_0) (hc1_0 : l1_0.length ≤ c1_0) (hr1_1 : Kd.C k44 w A1_1 l1_1.length l1_1) (hc1_1 : l1_1.length ≤ c1_1) (hr1_3 : Kd.C k51 w A1_3 l1_3.length l1_3) (hc1_3 : l1_3.length ≤ c1_3)
    (h : parapetref19_SamePolicy.f k l0_0 l0_1 a0_2 l0_3 a0_4 l1_0 l1_1 a1_2 l1_3 a1_4 = some r) :
    Calls Tryd.prog 14 #[.agg #[.slice A0_0 l0_0.length c0_0, .slice A0_1 l0_1.length c0_1, .string a0_2, .slice A0_3 l0_3.length c0_3, .bool a0_4], .agg #[.slice A1_0 l1_0.length c1_0, .slice A1_1 l1_1.length c1_1, .string a1_2, .slice A1_3 l1_3.length c1_3, .bool a1_4]] w fun e w' => e = .returned (.bool r) ∧ Below w.heap.size w w' := by
  unfold parapetref19_SamePolicy.f at h
  by_cases hk : Go.Proofs.YtngedmioeodmfaaDoor.Ps.alike k l0_0 l0_1 a0_2 l0_3 a0_4 l1_0 l1_1 a1_2 l1_3 a1_4 = true
  · rw [if_pos hk] at h
    obtain rfl := Option.some.inj h
    have hk2 := Go.Proofs.YtngedmioeodmfaaDoor.Ps.alike_iff.1 hk
    exact Go.Proofs.YtngedmioeodmfaaDoor.Ps.same_calls k A0_0 c0_0 l0_0 A0_1 c0_1 l0_1 a0_2 A0_3 c0_3 l0_3 a0_4 A1_0 c1_0 l1_0 A1_1 c1_1 l1_1 a1_2 A1_3 c1_3 l1_3 a1_4 w hr0_0 hc0_0 hr0_1 hc0_1 hr0_3 hc0_3 hr1_0 hc1_0 hr1_1 hc1_1 hr1_3 hc1_3 hk2.1 hk2.2.1 hk2.2.2
  · rw [if_neg hk] at h; cases h
end Go.Proofs.YtngedmioeodmfaaDoor.Pr
namespace Go.Proofs.YtngedmioeodmfaaDoor.Pu
open Go.RowKit Go.Proofs.YtngedmioeodmfaaDoor.Pr Go.Proofs.YtngedmioeodmfaaDoorW.PrintWords Go.Proofs.YtngedmioeodmfaaDoor.Lx
open Go.Proofs.YtngedmioeodmfaaDoor.Ps hiding Tk
set_option linter.unusedVariables false
set_option linter.unusedSimpArgs false
mutual
def sizeC : S49 → Nat
  | ⟨_, _, l⟩ => 1 + sizeL l
def sizeL : List (S49) → Nat
  | [] => 0
  | c :: l => sizeC c + sizeL l
end
theorem sizeC_eq (c : Cd) : sizeC c = 1 + sizeL c.f2 := by cases c; rw [sizeC]
theorem sizeL_len : ∀ l : List Cd, l.length ≤ sizeL l
  | [] => Nat.zero_le _
  | c :: l => by rw [sizeL, List.length_cons, sizeC_eq]; have := sizeL_len l; omega
theorem size_mem : ∀ {l : List Cd} {c : Cd}, c ∈ l → sizeC c ≤ sizeL l
  | d :: l, c, h => by
    rw [sizeL]
    rcases List.mem_cons.1 h with rfl | h
    · omega
    · have := size_mem h; omega
theorem texts_l (l : List ByteArray) (hl : l.length ≤ 1000000) : ∀ (m i : Nat), i + m = l.length → Ev (fun k => parapetref19_SameTexts.l0 k l l (i : Int)) true
  | 0, i, h => by
    refine Ev.step (f := fun _ => some true) (fun k => by rw [parapetref19_SameTexts.l0, if_neg (by omega)]) (Ev.const fun _ => rfl)
  | m + 1, i, h => by
    refine Ev.step (fun k => ?_) (texts_l l hl m (i + 1) (by omega))
    rw [parapetref19_SameTexts.l0, if_pos (by omega), if_pos (by omega), if_pos (by omega), if_pos rfl, show wrap64 ((i : Int) + 1) = ((i + 1 : Nat) : Int) by unfold wrap64; omega]
theorem texts_same (l : List ByteArray) (hl : l.length ≤ 1000000) : Ev (fun k => parapetref19_SameTexts.f k l l) true := by
  unfold parapetref19_SameTexts.f
  simp only [if_true]
  exact texts_l l hl l.length 0 (by omega)
def sameC (k : Nat) (c : Cd) : Option Bool := parapetref19_SameCond.f k c.f0 c.f1.f0 c.f1.f1 c.f2 c.f0 c.f1.f0 c.f1.f1 c.f2
theorem rd_mem {l : List Cd} {i : Nat} (h : i < l.length) : rd_T49 l (i : Int) ∈ l := by
  have : rd_T49 l (i : Int) = l[i] := by simp [rd_T49, h]
  rw [this]; exact List.getElem_mem h
theorem cond_same : ∀ (n : Nat) (c : Cd), sizeC c ≤ n → sizeC c ≤ 1000000 → Ev (fun k => sameC k c) true
  | 0, c, h, _ => by rw [sizeC_eq] at h; omega
  | n + 1, c, h, hb => by
    rw [sizeC_eq] at h hb
    have hlen := sizeL_len c.f2
    have loop : ∀ (m i : Nat), i + m = c.f2.length → Ev (fun k => parapetref19_SameCond.l0 k i c.f0 c.f1.f0 c.f1.f1 c.f2 c.f0 c.f1.f0 c.f1.f1 c.f2) true := by
      intro m
      induction m with
      | zero =>
        intro i hi
        refine Ev.step (f := fun _ => some true) (fun k => by rw [parapetref19_SameCond.l0, if_neg (by omega)]) (Ev.const fun _ => rfl)
      | succ m ih =>
        intro i hi
        have hm := size_mem (rd_mem (l := c.f2) (i := i) (by omega))
        refine Ev.step (fun k => ?_) (Ev.bind (cond_same n (rd_T49 c.f2 (i : Int)) (by omega) (by omega)) (f := fun k t => if t = true then parapetref19_SameCond.l0 k ((i + 1 : Nat) : Int) c.f0 c.f1.f0 c.f1.f1 c.f2 c.f0 c.f1.f0 c.f1.f1 c.f2 else some false) ?_)
        · rw [parapetref19_SameCond.l0, if_pos (by omega), if_pos (by omega), if_pos (by omega), show wrap64 ((i : Int) + 1) = ((i + 1 : Nat) : Int) by unfold wrap64; omega]
          rfl
        · simp only [if_true]; exact ih (i + 1) (by omega)
    unfold sameC
    refine Ev.step (f := fun k => parapetref19_SameCond.j0 k false c.f0 c.f1.f0 c.f1.f1 c.f2 c.f0 c.f1.f0 c.f1.f1 c.f2) (fun k => ?_) ?_
    · rw [parapetref19_SameCond.f, if_pos rfl]
      simp
    · exact Ev.step (fun k => by rw [parapetref19_SameCond.j0, if_neg (by simp)]; rfl) (loop c.f2.length 0 (by omega))
/-- What was read is of a size that may be. -/
structure SmallP (st : Pst) : Prop where
  c : st.csp.length ≤ 1000000
  s : st.shares.length ≤ 1000000
  r : st.rules.length ≤ 1000000
  sm : ∀ h ∈ st.shares, h.f1.length ≤ 1000000 ∧ h.f2.length ≤ 1000000
  rc : ∀ x ∈ st.rules, sizeC x.f1 ≤ 1000000
theorem Ev.all {β : Type} (l : List β) (g : β → Nat → Option Bool) (h : ∀ x ∈ l, Ev (g x) true) : ∃ K, ∀ k, K ≤ k → ∀ x ∈ l, g x k = some true := by
  induction l with
  | nil => exact ⟨0, fun k _ x hx => by cases hx⟩
  | cons a l ih =>
    obtain ⟨K1, h1⟩ := h a (List.mem_cons_self ..)
    obtain ⟨K2, h2⟩ := ih (fun x hx => h x (List.mem_cons_of_mem _ hx))
    refine ⟨max K1 K2, fun k hk x hx => ?_⟩
    rcases List.mem_cons.1 hx with rfl | hx
    · exact h1 k (by omega)
    · exact h2 k (by omega) x hx
theorem policy_same {st : Pst} (h : SmallP st) : Ev (fun k => parapetref19_SamePolicy.f k st.csp st.shares st.mixed st.rules st.allow st.csp st.shares st.mixed st.rules st.allow) true := by
  obtain ⟨K1, h1⟩ := texts_same st.csp h.c
  obtain ⟨K2, h2⟩ := Ev.all st.shares (fun x k => parapetref19_SameTexts.f k x.f1 x.f1) (fun x hx => texts_same x.f1 (h.sm x hx).1)
  obtain ⟨K3, h3⟩ := Ev.all st.shares (fun x k => parapetref19_SameTexts.f k x.f2 x.f2) (fun x hx => texts_same x.f2 (h.sm x hx).2)
  obtain ⟨K4, h4⟩ := Ev.all st.rules (fun x k => sameC k x.f1) (fun x hx => cond_same _ x.f1 (Nat.le_refl _) (h.rc x hx))
  refine ⟨max (max K1 K2) (max K3 K4), fun k hk => ?_⟩
  show (if _ then _ else _) = _
  rw [if_pos]
  rw [alike_iff]
  refine ⟨h.s, h.r, h1 k (by omega), rfl, rfl, rfl, rfl, fun i hi => ?_, fun i hi => ?_⟩
  · have hm : rd_T44 st.shares (i : Int) ∈ st.shares := by
      have : rd_T44 st.shares (i : Int) = st.shares[i] := by simp [rd_T44, hi]
      rw [this]; exact List.getElem_mem hi
    simp only [shSame, Bool.and_eq_true, decide_eq_true_eq]
    exact ⟨trivial, trivial, h2 k (by omega) _ hm, h3 k (by omega) _ hm⟩
  · have hm : rd_T51 st.rules (i : Int) ∈ st.rules := by
      have : rd_T51 st.rules (i : Int) = st.rules[i] := by simp [rd_T51, hi]
      rw [this]; exact List.getElem_mem hi
    simp only [rlSame, Bool.and_eq_true, decide_eq_true_eq]
    exact ⟨trivial, h4 k (by omega) _ hm⟩
end Go.Proofs.YtngedmioeodmfaaDoor.Pu
namespace Go.Proofs.YtngedmioeodmfaaDoor.Pr
open Go.RowKit Go.Proofs.YtngedmioeodmfaaDoorW.PrintWords Go.Proofs.YtngedmioeodmfaaDoorW.PrintLast Go.Proofs.YtngedmioeodmfaaDoorW.PrintMore
attribute [local go_sem] max2_int min2_int max_two min_two max_three min_three max_four min_four   -- for this text's walks alone
set_option linter.unusedVariables false
set_option linter.unusedSimpArgs false
def parapetlaw20_ParseSorts.l0 : Nat → List Int → List ByteArray → ByteArray → Int → List ByteArray → List (S44) → ByteArray → List (S51) → Bool → Option (Bool)
  | 0, _, _, _, _, _, _, _, _, _ => none
  | k + 1, x0, x3, x4, x6, x138000, x138001, x138002, x138003, x138004 => if x6 < (x0.length : Int) then (if 0 ≤ x6 then (if 0 ≤ (Int.tmod (wrap64 ((Int.tmod (rd x0 x6) 5) + 5)) 5) then (if (Int.tmod (wrap64 ((Int.tmod (rd x0 x6) 5) + 5)) 5) < (x3.length : Int) then (if x4.size + (rdOf ByteArray.empty x3 (Int.tmod (wrap64 ((Int.tmod (rd x0 x6) 5) + 5)) 5)).size ≤ 9223372036854775807 then (if (Int.tmod (wrap64 ((Int.tmod (rd x0 x6) 5) + 5)) 5) = 0 then (if x138000.length < 8796093022208 then ((some (x138000 ++ [(⟨#[97]⟩ : ByteArray)] : List ByteArray)).bind fun y140 => (if x6 = (wrap64 ((x0.length : Int) / 2)) then (if (x4 ++ (rdOf ByteArray.empty x3 (Int.tmod (wrap64 ((Int.tmod (rd x0 x6) 5) + 5)) 5))).size + 14 ≤ 9223372036854775807 then (parapetlaw20_ParseSorts.l0 k x0 x3 ((x4 ++ (rdOf ByteArray.empty x3 (Int.tmod (wrap64 ((Int.tmod (rd x0 x6) 5) + 5)) 5))) ++ (⟨#[109, 105, 120, 101, 100, 32, 117, 112, 103, 114, 97, 100, 101, 59]⟩ : ByteArray)) (wrap64 (x6 + 1)) y140 x138001 x138002 x138003 x138004) else (none)) else (parapetlaw20_ParseSorts.l0 k x0 x3 (x4 ++ (rdOf ByteArray.empty x3 (Int.tmod (wrap64 ((Int.tmod (rd x0 x6) 5) + 5)) 5))) (wrap64 (x6 + 1)) y140 x138001 x138002 x138003 x138004))) else (none)) else (if (Int.tmod (wrap64 ((Int.tmod (rd x0 x6) 5) + 5)) 5) = 1 then (if x138001.length < 1954687338268 then ((some (x138001 ++ [(⟨(⟨#[120]⟩ : ByteArray), ([] : List ByteArray), ([] : List ByteArray), false⟩ : S44)] : List (S44))).bind fun y143 => (if x6 = (wrap64 ((x0.length : Int) / 2)) then (if (x4 ++ (rdOf ByteArray.empty x3 (Int.tmod (wrap64 ((Int.tmod (rd x0 x6) 5) + 5)) 5))).size + 14 ≤ 9223372036854775807 then (parapetlaw20_ParseSorts.l0 k x0 x3 ((x4 ++ (rdOf ByteArray.empty x3 (Int.tmod (wrap64 ((Int.tmod (rd x0 x6) 5) + 5)) 5))) ++ (⟨#[109, 105, 120, 101, 100, 32, 117, 112, 103, 114, 97, 100, 101, 59]⟩ : ByteArray)) (wrap64 (x6 + 1)) x138000 y143 x138002 x138003 x138004) else (none)) else (parapetlaw20_ParseSorts.l0 k x0 x3 (x4 ++ (rdOf ByteArray.empty x3 (Int.tmod (wrap64 ((Int.tmod (rd x0 x6) 5) + 5)) 5))) (wrap64 (x6 + 1)) x138000 y143 x138002 x138003 x138004))) else (none)) else (if (Int.tmod (wrap64 ((Int.tmod (rd x0 x6) 5) + 5)) 5) = 2 then (if x138003.length < 1954687338268 then ((some (x138003 ++ [(⟨true, (⟨3, (⟨(⟨#[99, 111, 114, 115]⟩ : ByteArray), (⟨#[]⟩ : ByteArray)⟩ : S46), ([] : List (S49))⟩ : S49)⟩ : S51)] : List (S51))).bind fun y146 => (if x6 = (wrap64 ((x0.length : Int) / 2)) then (if (x4 ++ (rdOf ByteArray.empty x3 (Int.tmod (wrap64 ((Int.tmod (rd x0 x6) 5) + 5)) 5))).size + 14 ≤ 9223372036854775807 then (parapetlaw20_ParseSorts.l0 k x0 x3 ((x4 ++ (rdOf ByteArray.empty x3 (Int.tmod (wrap64 ((Int.tmod (rd x0 x6) 5) + 5)) 5))) ++ (⟨#[109, 105, 120, 101, 100, 32, 117, 112, 103, 114, 97, 100, 101, 59]⟩ : ByteArray)) (wrap64 (x6 + 1)) x138000 x138001 x138002 y146 x138004) else (none)) else (parapetlaw20_ParseSorts.l0 k x0 x3 (x4 ++ (rdOf ByteArray.empty x3 (Int.tmod (wrap64 ((Int.tmod (rd x0 x6) 5) + 5)) 5))) (wrap64 (x6 + 1)) x138000 x138001 x138002 y146 x138004))) else (none)) else (if (Int.tmod (wrap64 ((Int.tmod (rd x0 x6) 5) + 5)) 5) = 3 then (if x138003.length < 1954687338268 then ((some (x138003 ++ [(⟨false, (⟨3, (⟨(⟨#[99, 114, 101, 100, 115]⟩ : ByteArray), (⟨#[]⟩ : ByteArray)⟩ : S46), ([] : List (S49))⟩ : S49)⟩ : S51)] : List (S51))).bind fun y149 => (if x6 = (wrap64 ((x0.length : Int) / 2)) then (if (x4 ++ (rdOf ByteArray.empty x3 (Int.tmod (wrap64 ((Int.tmod (rd x0 x6) 5) + 5)) 5))).size + 14 ≤ 9223372036854775807 then (parapetlaw20_ParseSorts.l0 k x0 x3 ((x4 ++ (rdOf ByteArray.empty x3 (Int.tmod (wrap64 ((Int.tmod (rd x0 x6) 5) + 5)) 5))) ++ (⟨#[109, 105, 120, 101, 100, 32, 117, 112, 103, 114, 97, 100, 101, 59]⟩ : ByteArray)) (wrap64 (x6 + 1)) x138000 x138001 x138002 y149 x138004) else (none)) else (parapetlaw20_ParseSorts.l0 k x0 x3 (x4 ++ (rdOf ByteArray.empty x3 (Int.tmod (wrap64 ((Int.tmod (rd x0 x6) 5) + 5)) 5))) (wrap64 (x6 + 1)) x138000 x138001 x138002 y149 x138004))) else (none)) else (if (Int.tmod (wrap64 ((Int.tmod (rd x0 x6) 5) + 5)) 5) = 4 then (if x138000.length < 8796093022208 then ((some (x138000 ++ [(⟨#[98]⟩ : ByteArray)] : List ByteArray)).bind fun y152 => (if x6 = (wrap64 ((x0.length : Int) / 2)) then (if (x4 ++ (rdOf ByteArray.empty x3 (Int.tmod (wrap64 ((Int.tmod (rd x0 x6) 5) + 5)) 5))).size + 14 ≤ 9223372036854775807 then (parapetlaw20_ParseSorts.l0 k x0 x3 ((x4 ++ (rdOf ByteArray.empty x3 (Int.tmod (wrap64 ((Int.tmod (rd x0 x6) 5) + 5)) 5))) ++ (⟨#[109, 105, 120, 101, 100, 32, 117, 112, 103, 114, 97, 100, 101, 59]⟩ : ByteArray)) (wrap64 (x6 + 1)) y152 x138001 x138002 x138003 x138004) else (none)) else (parapetlaw20_ParseSorts.l0 k x0 x3 (x4 ++ (rdOf ByteArray.empty x3 (Int.tmod (wrap64 ((Int.tmod (rd x0 x6) 5) + 5)) 5))) (wrap64 (x6 + 1)) y152 x138001 x138002 x138003 x138004))) else (none)) else (if x6 = (wrap64 ((x0.length : Int) / 2)) then (if (x4 ++ (rdOf ByteArray.empty x3 (Int.tmod (wrap64 ((Int.tmod (rd x0 x6) 5) + 5)) 5))).size + 14 ≤ 9223372036854775807 then (parapetlaw20_ParseSorts.l0 k x0 x3 ((x4 ++ (rdOf ByteArray.empty x3 (Int.tmod (wrap64 ((Int.tmod (rd x0 x6) 5) + 5)) 5))) ++ (⟨#[109, 105, 120, 101, 100, 32, 117, 112, 103, 114, 97, 100, 101, 59]⟩ : ByteArray)) (wrap64 (x6 + 1)) x138000 x138001 x138002 x138003 x138004) else (none)) else (parapetlaw20_ParseSorts.l0 k x0 x3 (x4 ++ (rdOf ByteArray.empty x3 (Int.tmod (wrap64 ((Int.tmod (rd x0 x6) 5) + 5)) 5))) (wrap64 (x6 + 1)) x138000 x138001 x138002 x138003 x138004))))))) else (none)) else (none)) else (none)) else (none)) else (if (x0.length : Int) = 0 then ((parse_Policy.f k (⟨#[109, 105, 120, 101, 100, 32, 117, 112, 103, 114, 97, 100, 101, 59]⟩ : ByteArray)).bind fun bt155 => (if bt155.2.2.2.2.2.1 = 0 then ((parapetref19_SamePolicy.f k bt155.1 bt155.2.1 bt155.2.2.1 bt155.2.2.2.1 bt155.2.2.2.2.1 x138000 x138001 x138002 x138003 x138004).bind fun t170 => (if t170 = true then ((parapetlaw20_awake.f k).bind fun t171 => (some t171)) else (some false))) else (some false))) else ((parse_Policy.f k x4).bind fun bt172 => (if bt172.2.2.2.2.2.1 = 0 then ((parapetref19_SamePolicy.f k bt172.1 bt172.2.1 bt172.2.2.1 bt172.2.2.2.1 bt172.2.2.2.2.1 x138000 x138001 x138002 x138003 x138004).bind fun t187 => (if t187 = true then ((parapetlaw20_awake.f k).bind fun t188 => (some t188)) else (some false))) else (some false))))
def parapetlaw20_ParseSorts.f (k : Nat) (l0 : List Int) : Option (Bool) := if (l0.length : Int) > 30 then ((parapetlaw20_awake.f k).bind fun t133 => (some t133)) else (parapetlaw20_ParseSorts.l0 k l0 (([(⟨#[99, 115, 112, 32, 34, 97, 34, 59]⟩ : ByteArray), (⟨#[115, 104, 97, 114, 101, 32, 34, 120, 34, 59]⟩ : ByteArray), (⟨#[97, 108, 108, 111, 119, 32, 105, 102, 32, 99, 111, 114, 115, 59]⟩ : ByteArray), (⟨#[100, 101, 110, 121, 32, 105, 102, 32, 99, 114, 101, 100, 115, 59]⟩ : ByteArray), (⟨#[99, 115, 112, 32, 34, 98, 34, 59]⟩ : ByteArray)] : List ByteArray)) (⟨#[]⟩ : ByteArray) 0 ([] : List ByteArray) ([] : List (S44)) (⟨#[117, 112, 103, 114, 97, 100, 101]⟩ : ByteArray) ([] : List (S51)) false)
theorem parapetlaw20_ParseSorts.mono_l : ∀ k, (∀ y0 y1 y2 y3 y4 y5 y6 y7 y8, LeO (parapetlaw20_ParseSorts.l0 k y0 y1 y2 y3 y4 y5 y6 y7 y8) (parapetlaw20_ParseSorts.l0 (k + 1) y0 y1 y2 y3 y4 y5 y6 y7 y8))
  | 0 => fun _ _ _ _ _ _ _ _ _ r h => by simp [parapetlaw20_ParseSorts.l0] at h
  | k + 1 => by
    have ih0 := parapetlaw20_ParseSorts.mono_l k
    · intro y0 y1 y2 y3 y4 y5 y6 y7 y8
      unfold parapetlaw20_ParseSorts.l0
      repeat' first
      | (with_reducible exact ih0 _ _ _ _ _ _ _ _ _)
      | (with_reducible exact parapetlaw20_awake.mono _)
      | (with_reducible exact parapetref19_SamePolicy.mono _ _ _ _ _ _ _ _ _ _ _)
      | (with_reducible exact parse_Policy.mono _ _)
      | (with_reducible exact LeO.refl _)
      | (with_reducible exact LeO.none _)
      | (with_reducible refine LeO.ite ?_ ?_)
      | (with_reducible refine LeO.bind ?_ (fun _ => ?_))
      | exact ih0 _ _ _ _ _ _ _ _ _
      | exact parapetlaw20_awake.mono _
      | exact parapetref19_SamePolicy.mono _ _ _ _ _ _ _ _ _ _ _
      | exact parse_Policy.mono _ _
      | exact LeO.none _
      | refine LeO.ite ?_ ?_
      | refine LeO.bind ?_ (fun _ => ?_)
theorem parapetlaw20_ParseSorts.mono : ∀ a0 k, LeO (parapetlaw20_ParseSorts.f k a0) (parapetlaw20_ParseSorts.f (k + 1) a0) := by
  intro a0 k
  have ih0 := parapetlaw20_ParseSorts.mono_l k
  unfold parapetlaw20_ParseSorts.f
  repeat' first
      | (with_reducible exact ih0 _ _ _ _ _ _ _ _ _)
      | (with_reducible exact parapetlaw20_awake.mono _)
      | (with_reducible exact parapetref19_SamePolicy.mono _ _ _ _ _ _ _ _ _ _ _)
      | (with_reducible exact parse_Policy.mono _ _)
      | (with_reducible exact LeO.refl _)
      | (with_reducible exact LeO.none _)
      | (with_reducible refine LeO.ite ?_ ?_)
      | (with_reducible refine LeO.bind ?_ (fun _ => ?_))
      | exact ih0 _ _ _ _ _ _ _ _ _
      | exact parapetlaw20_awake.mono _
      | exact parapetref19_SamePolicy.mono _ _ _ _ _ _ _ _ _ _ _
      | exact parse_Policy.mono _ _
      | exact LeO.none _
      | refine LeO.ite ?_ ?_
      | refine LeO.bind ?_ (fun _ => ?_)
end Go.Proofs.YtngedmioeodmfaaDoor.Pr
namespace Go.Proofs.YtngedmioeodmfaaDoor.Pu
open Go.RowKit Go.Proofs.YtngedmioeodmfaaDoor.Pr Go.Proofs.YtngedmioeodmfaaDoorW.PrintWords Go.Proofs.YtngedmioeodmfaaDoor.Lx
open Go.Proofs.YtngedmioeodmfaaDoor.Ps hiding Tk
set_option linter.unusedVariables false
set_option linter.unusedSimpArgs false
/-- Where tokens of these keys stand, n items are read. -/
def Reads (ks : List Ky) (n : Nat) (st : Pst) : Prop := ∀ (T : List Tk) (e : Int) (p f : Nat) (vs : List Ky), KA T p (ks ++ vs) → itemsP T e (f + n) pst0 p = itemsP T e f st (p + ks.length)
theorem Reads.nil : Reads [] 0 pst0 := fun T e p f vs h => rfl
theorem Reads.step {ks ik : List Ky} {n : Nat} {st st' : Pst} (h : Reads ks n st) (hi : ∀ (T : List Tk) (e : Int) (p : Nat) (ws : List Ky), KA T p (ik ++ (5, semi) :: ws) → itemP T e st p = .ok (st', p + ik.length)) : Reads (ks ++ (ik ++ [(5, semi)])) (n + 1) st' := by
  intro T e p f vs hk
  have hk : KA T p (ks ++ (ik ++ (5, semi) :: vs)) := by simpa using hk
  rw [show f + (n + 1) = (f + 1) + n by omega, h T e p (f + 1) _ hk]
  have hk2 := hk.drop
  have hp : p + ks.length < T.length := by
    have := hk2.len
    simp only [List.length_append, List.length_cons] at this; omega
  rw [items_step hp (hi T e _ vs hk2) hk2.drop]
  congr 1
  simp only [List.length_append, List.length_cons, List.length_nil]; omega
/-- A text of n items that are read to st. -/
def Rdn (x : ByteArray) (n : Nat) (st : Pst) : Prop := ∃ (T : List Tk) (ks : List Ky), Lx1 (bytesOf x) T ∧ V (bytesOf x) ∧ T.map key = ks ∧ Reads ks n st ∧ n ≤ ks.length
theorem Rdn.nil : Rdn ⟨#[]⟩ 0 pst0 := ⟨[], [], Lx1.nil, V_nil, rfl, Reads.nil, Nat.le_refl _⟩
theorem Rdn.step {x J : ByteArray} {n : Nat} {st st' : Pst} {t : List Tk} {ik : List Ky} (h : Rdn x n st) (hl : Lx1 (bytesOf J) t) (hv : V (bytesOf J)) (hk : t.map key = ik ++ [(5, semi)])
    (hi : ∀ (T : List Tk) (e : Int) (p : Nat) (ws : List Ky), KA T p (ik ++ (5, semi) :: ws) → itemP T e st p = .ok (st', p + ik.length)) : Rdn (x ++ J) (n + 1) st' := by
  obtain ⟨T, ks, h1, h2, h3, h4, h5⟩ := h
  refine ⟨T ++ t.map (upT (bytesOf x).length), ks ++ (ik ++ [(5, semi)]), ?_, ?_, ?_, h4.step hi, ?_⟩
  · rw [bytesOf_app]; exact h1.app hl
  · rw [bytesOf_app]; exact V_app h2 hv
  · rw [List.map_append, key_up, h3, hk]
  · simp only [List.length_append, List.length_cons, List.length_nil]; omega
theorem Rdn.pol {x : ByteArray} {n : Nat} {st : Pst} (h : Rdn x n st) (hs : x.size ≤ 3000) : polA x = .ok st := by
  obtain ⟨T, ks, h1, h2, h3, h4, h5⟩ := h
  rw [polA_good hs h2 h1, polP]
  have hl : T.length = ks.length := by rw [← h3, List.length_map]
  obtain ⟨d, hd⟩ : ∃ d, T.length + 1 = d + n := ⟨_, (Nat.sub_add_cancel (by omega)).symm⟩
  rw [hd, h4 T _ 0 d [] (by rw [List.append_nil]; exact KA.all h3)]
  exact items_end (by omega)
def J0 : ByteArray := ⟨#[99, 115, 112, 32, 34, 97, 34, 59]⟩
def J1 : ByteArray := ⟨#[115, 104, 97, 114, 101, 32, 34, 120, 34, 59]⟩
def J2 : ByteArray := ⟨#[97, 108, 108, 111, 119, 32, 105, 102, 32, 99, 111, 114, 115, 59]⟩
def J3 : ByteArray := ⟨#[100, 101, 110, 121, 32, 105, 102, 32, 99, 114, 101, 100, 115, 59]⟩
def J4 : ByteArray := ⟨#[99, 115, 112, 32, 34, 98, 34, 59]⟩
def JM : ByteArray := ⟨#[109, 105, 120, 101, 100, 32, 117, 112, 103, 114, 97, 100, 101, 59]⟩
theorem jl0 : Lx1 (bytesOf J0) [⟨1, 0, wCsp⟩, ⟨2, 4, ⟨#[97]⟩⟩, ⟨5, 7, semi⟩] := by unfold Lx1; kernel_rfl
theorem jl1 : Lx1 (bytesOf J1) [⟨1, 0, wShare⟩, ⟨2, 6, ⟨#[120]⟩⟩, ⟨5, 9, semi⟩] := by unfold Lx1; kernel_rfl
theorem jl2 : Lx1 (bytesOf J2) [⟨1, 0, wAllow⟩, ⟨1, 6, wIf⟩, ⟨1, 9, wCors⟩, ⟨5, 13, semi⟩] := by unfold Lx1; kernel_rfl
theorem jl3 : Lx1 (bytesOf J3) [⟨1, 0, wDeny⟩, ⟨1, 5, wIf⟩, ⟨1, 8, wCreds⟩, ⟨5, 13, semi⟩] := by unfold Lx1; kernel_rfl
theorem jl4 : Lx1 (bytesOf J4) [⟨1, 0, wCsp⟩, ⟨2, 4, ⟨#[98]⟩⟩, ⟨5, 7, semi⟩] := by unfold Lx1; kernel_rfl
theorem jlM : Lx1 (bytesOf JM) [⟨1, 0, wMixed⟩, ⟨1, 6, wUpgrade⟩, ⟨5, 13, semi⟩] := by unfold Lx1; kernel_rfl
theorem jv0 : V (bytesOf J0) := V_ascii _ (by decide +kernel)
theorem jv1 : V (bytesOf J1) := V_ascii _ (by decide +kernel)
theorem jv2 : V (bytesOf J2) := V_ascii _ (by decide +kernel)
theorem jv3 : V (bytesOf J3) := V_ascii _ (by decide +kernel)
theorem jv4 : V (bytesOf J4) := V_ascii _ (by decide +kernel)
theorem jvM : V (bytesOf JM) := V_ascii _ (by decide +kernel)
def csp1 (t : ByteArray) (st : Pst) : Pst := { st with items := st.items + 1, csp := st.csp ++ [t] }
def sha1 (st : Pst) : Pst := { st with items := st.items + 1, shares := st.shares ++ [⟨⟨#[120]⟩, [], [], false⟩] }
def rul1 (a : Bool) (w : ByteArray) (st : Pst) : Pst := { st with items := st.items + 1, rules := st.rules ++ [⟨a, ⟨3, ⟨w, ⟨#[]⟩⟩, []⟩⟩] }
def mix1 (st : Pst) : Pst := { st with items := st.items + 1, mixed := wUpgrade, metM := st.metM + 1 }
theorem csp1_reads (t : ByteArray) {st : Pst} (hi : st.items < 60) (T : List Tk) (e : Int) (p : Nat) (ws : List Ky) (h : KA T p ([((1 : Int), wCsp), (2, t)] ++ (5, semi) :: ws)) : itemP T e st p = .ok (csp1 t st, p + [((1 : Int), wCsp), (2, t)].length) := by
  have h : KA T p ((1, wCsp) :: (2, t) :: (5, semi) :: ws) := h
  rw [item_free h (by simp) hi, itemK_csp rfl, h.next.take]
  rfl
theorem rul1_reads {w x : ByteArray} (hw : (w = wAllow ∧ x = wCors) ∨ (w = wDeny ∧ x = wCreds)) {st : Pst} (hi : st.items < 60) (T : List Tk) (e : Int) (p : Nat) (ws : List Ky) (h : KA T p ([((1 : Int), w), (1, wIf), (1, x)] ++ (5, semi) :: ws)) : itemP T e st p = .ok (rul1 (decide (w = wAllow)) x st, p + [((1 : Int), w), (1, wIf), (1, x)].length) := by
  have h : KA T p ((1, w) :: (1, wIf) :: (1, x) :: (5, semi) :: ws) := h
  have hm : w ∈ [wCsp, wShare, wAllow, wDeny] := by rcases hw with ⟨rfl, _⟩ | ⟨rfl, _⟩ <;> simp
  have hx : x ∈ wTrue :: wFalse :: oneAtoms := by rcases hw with ⟨_, rfl⟩ | ⟨_, rfl⟩ <;> simp [oneAtoms]
  have ha : atomC x = ⟨3, ⟨x, ⟨#[]⟩⟩, []⟩ := by rcases hw with ⟨_, rfl⟩ | ⟨_, rfl⟩ <;> rfl
  have n0 : ¬ w = wCsp := by rcases hw with ⟨rfl, _⟩ | ⟨rfl, _⟩ <;> decide
  have n1 : ¬ w = wShare := by rcases hw with ⟨rfl, _⟩ | ⟨rfl, _⟩ <;> decide
  have n2 : ¬ w = wMixed := by rcases hw with ⟨rfl, _⟩ | ⟨rfl, _⟩ <;> decide
  have n3 : ¬ w = wDefault := by rcases hw with ⟨rfl, _⟩ | ⟨rfl, _⟩ <;> decide
  rw [item_free h hm hi, itemK_rule n0 n1 n2 n3, h.next.word (by decide)]
  simp only [ifK]
  rw [cond_one h.next.next hx, ha]
  rfl
theorem share_end {T : List Tk} {e : Int} {p : Nat} {ws : List Ky} {t : ByteArray} (h : KA T p ((2, t) :: (5, semi) :: ws)) : shareP T e p = .ok (⟨t, [], [], false⟩, p + 1) := by
  rw [shareP, h.take]
  simp only
  cases T.length + 1 - (p + 1) with
  | zero => rfl
  | succ f => rw [shareL, h.next.is]; rfl
theorem sha1_reads {st : Pst} (hi : st.items < 60) (T : List Tk) (e : Int) (p : Nat) (ws : List Ky) (h : KA T p ([((1 : Int), wShare), (2, ⟨#[120]⟩)] ++ (5, semi) :: ws)) : itemP T e st p = .ok (sha1 st, p + [((1 : Int), wShare), (2, (⟨#[120]⟩ : ByteArray))].length) := by
  have h : KA T p ((1, wShare) :: (2, ⟨#[120]⟩) :: (5, semi) :: ws) := h
  rw [item_free h (by simp) hi, itemK_share (by decide) rfl, share_end h.next]
  rfl
theorem mix1_reads {st : Pst} (hi : st.items < 60) (hm : st.metM = 0) (T : List Tk) (e : Int) (p : Nat) (ws : List Ky) (h : KA T p ([((1 : Int), wMixed), (1, wUpgrade)] ++ (5, semi) :: ws)) : itemP T e st p = .ok (mix1 st, p + [((1 : Int), wMixed), (1, wUpgrade)].length) := by
  have h : KA T p ((1, wMixed) :: (1, wUpgrade) :: (5, semi) :: ws) := h
  rw [item_once h (.inl rfl) (by simp [metN, hm]) hi, itemK_mixed (by decide) (by decide) rfl, h.next.word (by decide)]
  rfl
theorem ev_eq {α : Type} {g g' : Nat → Option α} {r : α} (h : ∀ k, g k = g' k) (e : Ev g' r) : Ev g r := by
  rw [show g = g' from funext h]; exact e
theorem awake_b5 : Ev (fun k => (parapetlaw20_awake.f k).bind fun t => some t) true := Ev.bind awake_ev (Ev.const fun _ => rfl)
/-- The item texts. -/
def sortI : List ByteArray := [J0, J1, J2, J3, J4]
/-- After i of L items: the text, what it is read to, and what is wanted. -/
structure Rel (L i : Nat) (x : ByteArray) (st : Pst) (c : List ByteArray) (sh : List (S44)) (r : List (S51)) : Prop where
  inv : Rdn x st.items st
  ec : st.csp = c
  es : st.shares = sh
  er : st.rules = r
  a : st.allow = false
  n : st.items ≤ i + (if L / 2 < i then 1 else 0)
  sz : x.size ≤ 14 * st.items
  m0 : i ≤ L / 2 → st.metM = 0
  m1 : L / 2 < i → st.mixed = wUpgrade
  hc : c.length ≤ i
  hs : sh.length ≤ i
  hr : r.length ≤ i
  sm : ∀ y ∈ sh, y.f1.length ≤ 1000000 ∧ y.f2.length ≤ 1000000
  rc : ∀ y ∈ r, sizeC y.f1 ≤ 1000000
theorem size_app (a b : ByteArray) : (a ++ b).size = a.size + b.size := ByteArray.size_append
/-- The state behind item i, ahead of the mixed item. -/
structure Mid (L i : Nat) (x : ByteArray) (st : Pst) (c : List ByteArray) (sh : List (S44)) (r : List (S51)) : Prop where
  inv : Rdn x st.items st
  ec : st.csp = c
  es : st.shares = sh
  er : st.rules = r
  a : st.allow = false
  n : st.items ≤ i + 1 + (if L / 2 < i then 1 else 0)
  sz : x.size ≤ 14 * st.items
  m0 : i ≤ L / 2 → st.metM = 0
  m1 : L / 2 < i → st.mixed = wUpgrade
  hc : c.length ≤ i + 1
  hs : sh.length ≤ i + 1
  hr : r.length ≤ i + 1
  sm : ∀ y ∈ sh, y.f1.length ≤ 1000000 ∧ y.f2.length ≤ 1000000
  rc : ∀ y ∈ r, sizeC y.f1 ≤ 1000000
theorem sort_mid {l : List Int} {L i : Nat} (hL : L = l.length) (hL30 : L ≤ 30) (hi : i < L) {y : ByteArray} {st : Pst} {c : List ByteArray} {sh : List (S44)} {r : List (S51)} {I : List ByteArray} {u : ByteArray}
    (ih : ∀ x st, Rel L (i + 1) x st c sh r → Ev (fun k => parapetlaw20_ParseSorts.l0 k l I x ((i + 1 : Nat) : Int) c sh u r false) true) (h : Mid L i y st c sh r) :
    Ev (fun k => if (i : Int) = (wrap64 ((l.length : Int) / 2)) then (if y.size + 14 ≤ 9223372036854775807 then (parapetlaw20_ParseSorts.l0 k l I (y ++ (⟨#[109, 105, 120, 101, 100, 32, 117, 112, 103, 114, 97, 100, 101, 59]⟩ : ByteArray)) (wrap64 ((i : Int) + 1)) c sh u r false) else none)
      else (parapetlaw20_ParseSorts.l0 k l I y (wrap64 ((i : Int) + 1)) c sh u r false)) true := by
  have hn := h.n
  have hsz := h.sz
  have hn2 : st.items ≤ 32 := by split at hn <;> omega
  have e1 : wrap64 ((i : Int) + 1) = ((i + 1 : Nat) : Int) := by unfold wrap64; omega
  have e2 : wrap64 ((l.length : Int) / 2) = ((L / 2 : Nat) : Int) := by unfold wrap64; omega
  rw [e1, e2]
  by_cases hm : i = L / 2
  · have hmm : (i : Int) = ((L / 2 : Nat) : Int) := by omega
    refine ev_eq (fun k => (if_pos hmm).trans (if_pos (by omega))) (ih (y ++ JM) (mix1 st) ?_)
    have hn : st.items ≤ i + 1 := by rw [if_neg (by omega)] at hn; exact hn
    refine ⟨?_, h.ec, h.es, h.er, h.a, ?_, ?_, fun h2 => by omega, fun _ => rfl, h.hc, h.hs, h.hr, h.sm, h.rc⟩
    · exact h.inv.step jlM jvM rfl (mix1_reads (by omega) (h.m0 (by omega)))
    · rw [if_pos (by omega)]; show st.items + 1 ≤ _; omega
    · rw [size_app]; show y.size + 14 ≤ 14 * (st.items + 1); omega
  · have hmm : ¬ (i : Int) = ((L / 2 : Nat) : Int) := by omega
    refine ev_eq (fun k => if_neg hmm) (ih y st ?_)
    refine ⟨h.inv, h.ec, h.es, h.er, h.a, ?_, h.sz, fun h2 => h.m0 (by omega), fun h2 => h.m1 (by omega), h.hc, h.hs, h.hr, h.sm, h.rc⟩
    split at hn
    · rw [if_pos (by omega)]; omega
    · rw [if_neg (by omega)]; omega
theorem rel_end {L : Nat} {x : ByteArray} {st : Pst} {c : List ByteArray} {sh : List (S44)} {r : List (S51)} (h : Rel L L x st c sh r) (h0 : 0 < L) (hL : L ≤ 30) :
    Ev (fun k => (parse_Policy.f k x).bind fun bt172 => (if bt172.2.2.2.2.2.1 = 0 then ((parapetref19_SamePolicy.f k bt172.1 bt172.2.1 bt172.2.2.1 bt172.2.2.2.1 bt172.2.2.2.2.1 c sh wUpgrade r false).bind fun t187 => (if t187 = true then ((parapetlaw20_awake.f k).bind fun t188 => (some t188)) else (some false))) else (some false))) true := by
  have hn := h.n
  have hsz := h.sz
  have hn2 : st.items ≤ 32 := by split at hn <;> omega
  have hp := h.inv.pol (by omega)
  have hmx := h.m1 (by omega)
  obtain ⟨_, rfl, rfl, rfl, ha, _, _, _, _, hc, hs, hr, hsm, hrc⟩ := h
  refine Ev.bind (pol_ev x (by omega)) ?_
  rw [hp]
  have hps := policy_same (st := st) ⟨by omega, by omega, by omega, hsm, hrc⟩
  rw [ha, hmx] at hps
  refine ev_eq (fun k => if_pos rfl) ?_
  simp only [polRes, ha, hmx]
  exact Ev.bind hps (by simp only [if_true]; exact awake_b5)
theorem sort_e0 (k : Nat) (l : List Int) (i : Nat) (x : ByteArray) (c : List ByteArray) (sh : List (S44)) (r : List (S51)) (hil : (i : Int) < (l.length : Int)) (hm : (wrap64 ((rd l (i : Int)).tmod 5 + 5)).tmod 5 = 0) (hx : x.size ≤ 1000000) (hc : c.length ≤ 30) (hs : sh.length ≤ 30) (hr : r.length ≤ 30) :
    parapetlaw20_ParseSorts.l0 (k + 1) l sortI x (i : Int) c sh wUpgrade r false = (if (i : Int) = (wrap64 ((l.length : Int) / 2)) then (if (x ++ J0).size + 14 ≤ 9223372036854775807 then (parapetlaw20_ParseSorts.l0 k l sortI ((x ++ J0) ++ (⟨#[109, 105, 120, 101, 100, 32, 117, 112, 103, 114, 97, 100, 101, 59]⟩ : ByteArray)) (wrap64 ((i : Int) + 1)) (c ++ [⟨#[97]⟩]) sh wUpgrade r false) else none)
      else (parapetlaw20_ParseSorts.l0 k l sortI (x ++ J0) (wrap64 ((i : Int) + 1)) (c ++ [⟨#[97]⟩]) sh wUpgrade r false)) := by
  have hi0 : (0 : Int) ≤ i := by omega
  have hrd : rdOf ByteArray.empty sortI 0 = J0 := rfl
  have hsz : J0.size = 8 := rfl
  have hz : x.size + J0.size ≤ 9223372036854775807 := by rw [hsz]; omega
  have hlen : (5 : Int) = (sortI.length : Int) := rfl
  rw [parapetlaw20_ParseSorts.l0, if_pos hil, if_pos hi0, hm, hrd, if_pos (by decide), ← hlen, if_pos (by decide), if_pos hz, if_pos rfl, if_pos (by omega), Option.bind_some]
theorem sort_e1 (k : Nat) (l : List Int) (i : Nat) (x : ByteArray) (c : List ByteArray) (sh : List (S44)) (r : List (S51)) (hil : (i : Int) < (l.length : Int)) (hm : (wrap64 ((rd l (i : Int)).tmod 5 + 5)).tmod 5 = 1) (hx : x.size ≤ 1000000) (hc : c.length ≤ 30) (hs : sh.length ≤ 30) (hr : r.length ≤ 30) :
    parapetlaw20_ParseSorts.l0 (k + 1) l sortI x (i : Int) c sh wUpgrade r false = (if (i : Int) = (wrap64 ((l.length : Int) / 2)) then (if (x ++ J1).size + 14 ≤ 9223372036854775807 then (parapetlaw20_ParseSorts.l0 k l sortI ((x ++ J1) ++ (⟨#[109, 105, 120, 101, 100, 32, 117, 112, 103, 114, 97, 100, 101, 59]⟩ : ByteArray)) (wrap64 ((i : Int) + 1)) c (sh ++ [⟨⟨#[120]⟩, [], [], false⟩]) wUpgrade r false) else none)
      else (parapetlaw20_ParseSorts.l0 k l sortI (x ++ J1) (wrap64 ((i : Int) + 1)) c (sh ++ [⟨⟨#[120]⟩, [], [], false⟩]) wUpgrade r false)) := by
  have hi0 : (0 : Int) ≤ i := by omega
  have hrd : rdOf ByteArray.empty sortI 1 = J1 := rfl
  have hsz : J1.size = 10 := rfl
  have hz : x.size + J1.size ≤ 9223372036854775807 := by rw [hsz]; omega
  have hlen : (5 : Int) = (sortI.length : Int) := rfl
  rw [parapetlaw20_ParseSorts.l0, if_pos hil, if_pos hi0, hm, hrd, if_pos (by decide), ← hlen, if_pos (by decide), if_pos hz, if_neg (by decide), if_pos rfl, if_pos (by omega), Option.bind_some]
theorem sort_e2 (k : Nat) (l : List Int) (i : Nat) (x : ByteArray) (c : List ByteArray) (sh : List (S44)) (r : List (S51)) (hil : (i : Int) < (l.length : Int)) (hm : (wrap64 ((rd l (i : Int)).tmod 5 + 5)).tmod 5 = 2) (hx : x.size ≤ 1000000) (hc : c.length ≤ 30) (hs : sh.length ≤ 30) (hr : r.length ≤ 30) :
    parapetlaw20_ParseSorts.l0 (k + 1) l sortI x (i : Int) c sh wUpgrade r false = (if (i : Int) = (wrap64 ((l.length : Int) / 2)) then (if (x ++ J2).size + 14 ≤ 9223372036854775807 then (parapetlaw20_ParseSorts.l0 k l sortI ((x ++ J2) ++ (⟨#[109, 105, 120, 101, 100, 32, 117, 112, 103, 114, 97, 100, 101, 59]⟩ : ByteArray)) (wrap64 ((i : Int) + 1)) c sh wUpgrade (r ++ [⟨true, ⟨3, ⟨wCors, ⟨#[]⟩⟩, []⟩⟩]) false) else none)
      else (parapetlaw20_ParseSorts.l0 k l sortI (x ++ J2) (wrap64 ((i : Int) + 1)) c sh wUpgrade (r ++ [⟨true, ⟨3, ⟨wCors, ⟨#[]⟩⟩, []⟩⟩]) false)) := by
  have hi0 : (0 : Int) ≤ i := by omega
  have hrd : rdOf ByteArray.empty sortI 2 = J2 := rfl
  have hsz : J2.size = 14 := rfl
  have hz : x.size + J2.size ≤ 9223372036854775807 := by rw [hsz]; omega
  have hlen : (5 : Int) = (sortI.length : Int) := rfl
  rw [parapetlaw20_ParseSorts.l0, if_pos hil, if_pos hi0, hm, hrd, if_pos (by decide), ← hlen, if_pos (by decide), if_pos hz, if_neg (by decide), if_neg (by decide), if_pos rfl, if_pos (by omega), Option.bind_some]
  rfl
theorem sort_e3 (k : Nat) (l : List Int) (i : Nat) (x : ByteArray) (c : List ByteArray) (sh : List (S44)) (r : List (S51)) (hil : (i : Int) < (l.length : Int)) (hm : (wrap64 ((rd l (i : Int)).tmod 5 + 5)).tmod 5 = 3) (hx : x.size ≤ 1000000) (hc : c.length ≤ 30) (hs : sh.length ≤ 30) (hr : r.length ≤ 30) :
    parapetlaw20_ParseSorts.l0 (k + 1) l sortI x (i : Int) c sh wUpgrade r false = (if (i : Int) = (wrap64 ((l.length : Int) / 2)) then (if (x ++ J3).size + 14 ≤ 9223372036854775807 then (parapetlaw20_ParseSorts.l0 k l sortI ((x ++ J3) ++ (⟨#[109, 105, 120, 101, 100, 32, 117, 112, 103, 114, 97, 100, 101, 59]⟩ : ByteArray)) (wrap64 ((i : Int) + 1)) c sh wUpgrade (r ++ [⟨false, ⟨3, ⟨wCreds, ⟨#[]⟩⟩, []⟩⟩]) false) else none)
      else (parapetlaw20_ParseSorts.l0 k l sortI (x ++ J3) (wrap64 ((i : Int) + 1)) c sh wUpgrade (r ++ [⟨false, ⟨3, ⟨wCreds, ⟨#[]⟩⟩, []⟩⟩]) false)) := by
  have hi0 : (0 : Int) ≤ i := by omega
  have hrd : rdOf ByteArray.empty sortI 3 = J3 := rfl
  have hsz : J3.size = 14 := rfl
  have hz : x.size + J3.size ≤ 9223372036854775807 := by rw [hsz]; omega
  have hlen : (5 : Int) = (sortI.length : Int) := rfl
  rw [parapetlaw20_ParseSorts.l0, if_pos hil, if_pos hi0, hm, hrd, if_pos (by decide), ← hlen, if_pos (by decide), if_pos hz, if_neg (by decide), if_neg (by decide), if_neg (by decide), if_pos rfl, if_pos (by omega), Option.bind_some]
  rfl
theorem sort_e4 (k : Nat) (l : List Int) (i : Nat) (x : ByteArray) (c : List ByteArray) (sh : List (S44)) (r : List (S51)) (hil : (i : Int) < (l.length : Int)) (hm : (wrap64 ((rd l (i : Int)).tmod 5 + 5)).tmod 5 = 4) (hx : x.size ≤ 1000000) (hc : c.length ≤ 30) (hs : sh.length ≤ 30) (hr : r.length ≤ 30) :
    parapetlaw20_ParseSorts.l0 (k + 1) l sortI x (i : Int) c sh wUpgrade r false = (if (i : Int) = (wrap64 ((l.length : Int) / 2)) then (if (x ++ J4).size + 14 ≤ 9223372036854775807 then (parapetlaw20_ParseSorts.l0 k l sortI ((x ++ J4) ++ (⟨#[109, 105, 120, 101, 100, 32, 117, 112, 103, 114, 97, 100, 101, 59]⟩ : ByteArray)) (wrap64 ((i : Int) + 1)) (c ++ [⟨#[98]⟩]) sh wUpgrade r false) else none)
      else (parapetlaw20_ParseSorts.l0 k l sortI (x ++ J4) (wrap64 ((i : Int) + 1)) (c ++ [⟨#[98]⟩]) sh wUpgrade r false)) := by
  have hi0 : (0 : Int) ≤ i := by omega
  have hrd : rdOf ByteArray.empty sortI 4 = J4 := rfl
  have hsz : J4.size = 8 := rfl
  have hz : x.size + J4.size ≤ 9223372036854775807 := by rw [hsz]; omega
  have hlen : (5 : Int) = (sortI.length : Int) := rfl
  rw [parapetlaw20_ParseSorts.l0, if_pos hil, if_pos hi0, hm, hrd, if_pos (by decide), ← hlen, if_pos (by decide), if_pos hz, if_neg (by decide), if_neg (by decide), if_neg (by decide), if_neg (by decide), if_pos rfl, if_pos (by omega), Option.bind_some]
theorem sort_l (l : List Int) (L : Nat) (hL : L = l.length) (hL30 : L ≤ 30) (h0 : 0 < L) : ∀ (d i : Nat) (x : ByteArray) (st : Pst) (c : List ByteArray) (sh : List (S44)) (r : List (S51)), i + d = L → Rel L i x st c sh r →
    Ev (fun k => parapetlaw20_ParseSorts.l0 k l sortI x (i : Int) c sh wUpgrade r false) true
  | 0, i, x, st, c, sh, r, hd, h => by
    obtain rfl : i = L := by omega
    refine Ev.step (fun k => ?_) (rel_end h h0 hL30)
    rw [parapetlaw20_ParseSorts.l0, if_neg (by omega), if_neg (by omega)]
  | d + 1, i, x, st, c, sh, r, hd, h => by
    have ih := fun c sh r x st => sort_l l L hL hL30 h0 d (i + 1) x st c sh r (by omega)
    obtain ⟨a, ha⟩ : ∃ a, a = rd l (i : Int) := ⟨_, rfl⟩
    have h1 := Int.tmod_lt_of_pos a (show (0 : Int) < 5 by omega)
    have h2 := Int.lt_tmod_of_pos a (show (0 : Int) < 5 by omega)
    have hw : wrap64 (a.tmod 5 + 5) = a.tmod 5 + 5 := by unfold wrap64; omega
    obtain ⟨m, hm⟩ : ∃ m, (wrap64 (a.tmod 5 + 5)).tmod 5 = m := ⟨_, rfl⟩
    have hm0 : 0 ≤ m := by rw [← hm, hw]; exact Int.tmod_nonneg 5 (by omega)
    have hm5 : m < 5 := by rw [← hm]; exact Int.tmod_lt_of_pos _ (by omega)
    have hn := h.n
    have hsz := h.sz
    have hn2 : st.items ≤ 31 := by split at hn <;> omega
    have hil : (i : Int) < (l.length : Int) := by omega
    have hi0 : (0 : Int) ≤ i := by omega
    have hlen := h.hc
    have hls := h.hs
    have hlr := h.hr
    rcases (show m = 0 ∨ m = 1 ∨ m = 2 ∨ m = 3 ∨ m = 4 by omega) with rfl | rfl | rfl | rfl | rfl
    · refine Ev.step (fun k => ?_) (sort_mid (y := x ++ J0) (st := csp1 ⟨#[97]⟩ st) (i := i) hL hL30 (by omega) (ih (c ++ [⟨#[97]⟩]) sh r) ⟨h.inv.step jl0 jv0 rfl (csp1_reads _ (by omega)), by simp only [csp1, h.ec], h.es, h.er, h.a, by show st.items + 1 ≤ _; omega, by rw [size_app]; show x.size + 8 ≤ 14 * (st.items + 1); omega, h.m0, h.m1, by rw [List.length_append, List.length_singleton]; omega, by omega, by omega, h.sm, h.rc⟩)
      exact sort_e0 k l i x c sh r hil (by rw [← ha]; exact hm) (by omega) (by omega) (by omega) (by omega)
    · refine Ev.step (fun k => ?_) (sort_mid (y := x ++ J1) (st := sha1 st) (i := i) hL hL30 (by omega) (ih c (sh ++ [⟨⟨#[120]⟩, [], [], false⟩]) r) ⟨h.inv.step jl1 jv1 rfl (sha1_reads (by omega)), h.ec, by simp only [sha1, h.es], h.er, h.a, by show st.items + 1 ≤ _; omega, by rw [size_app]; show x.size + 10 ≤ 14 * (st.items + 1); omega, h.m0, h.m1, by omega, by rw [List.length_append, List.length_singleton]; omega, by omega, by
          intro y hy
          rcases List.mem_append.1 hy with hy | hy
          · exact h.sm y hy
          · rw [List.mem_singleton.1 hy]; exact ⟨Nat.zero_le _, Nat.zero_le _⟩, h.rc⟩)
      exact sort_e1 k l i x c sh r hil (by rw [← ha]; exact hm) (by omega) (by omega) (by omega) (by omega)
    · refine Ev.step (fun k => ?_) (sort_mid (y := x ++ J2) (st := rul1 true wCors st) (i := i) hL hL30 (by omega) (ih c sh (r ++ [⟨true, ⟨3, ⟨wCors, ⟨#[]⟩⟩, []⟩⟩])) ⟨h.inv.step jl2 jv2 rfl (rul1_reads (.inl ⟨rfl, rfl⟩) (by omega)), h.ec, h.es, by simp only [rul1, h.er], h.a, by show st.items + 1 ≤ _; omega, by rw [size_app]; show x.size + 14 ≤ 14 * (st.items + 1); omega, h.m0, h.m1, by omega, by omega, by rw [List.length_append, List.length_singleton]; omega, h.sm, by
          intro y hy
          rcases List.mem_append.1 hy with hy | hy
          · exact h.rc y hy
          · rw [List.mem_singleton.1 hy]; simp [sizeC, sizeL]⟩)
      exact sort_e2 k l i x c sh r hil (by rw [← ha]; exact hm) (by omega) (by omega) (by omega) (by omega)
    · refine Ev.step (fun k => ?_) (sort_mid (y := x ++ J3) (st := rul1 false wCreds st) (i := i) hL hL30 (by omega) (ih c sh (r ++ [⟨false, ⟨3, ⟨wCreds, ⟨#[]⟩⟩, []⟩⟩])) ⟨h.inv.step jl3 jv3 rfl (rul1_reads (.inr ⟨rfl, rfl⟩) (by omega)), h.ec, h.es, by simp only [rul1, h.er], h.a, by show st.items + 1 ≤ _; omega, by rw [size_app]; show x.size + 14 ≤ 14 * (st.items + 1); omega, h.m0, h.m1, by omega, by omega, by rw [List.length_append, List.length_singleton]; omega, h.sm, by
          intro y hy
          rcases List.mem_append.1 hy with hy | hy
          · exact h.rc y hy
          · rw [List.mem_singleton.1 hy]; simp [sizeC, sizeL]⟩)
      exact sort_e3 k l i x c sh r hil (by rw [← ha]; exact hm) (by omega) (by omega) (by omega) (by omega)
    · refine Ev.step (fun k => ?_) (sort_mid (y := x ++ J4) (st := csp1 ⟨#[98]⟩ st) (i := i) hL hL30 (by omega) (ih (c ++ [⟨#[98]⟩]) sh r) ⟨h.inv.step jl4 jv4 rfl (csp1_reads _ (by omega)), by simp only [csp1, h.ec], h.es, h.er, h.a, by show st.items + 1 ≤ _; omega, by rw [size_app]; show x.size + 8 ≤ 14 * (st.items + 1); omega, h.m0, h.m1, by rw [List.length_append, List.length_singleton]; omega, by omega, by omega, h.sm, h.rc⟩)
      exact sort_e4 k l i x c sh r hil (by rw [← ha]; exact hm) (by omega) (by omega) (by omega) (by omega)
end Go.Proofs.YtngedmioeodmfaaDoor.Pu
