/- 2 texts of the proof, put together, less what is not used; what a tool printed stands among them. -/
import Derived.Test.YtngedmioeodmfaaDoorMBr8
namespace Go.Proofs.YtngedmioeodmfaaDoor.Ps
open Go.RowKit Go.Proofs.YtngedmioeodmfaaDoor.Pr Go.Proofs.YtngedmioeodmfaaDoorW.PrintWords Go.Proofs.YtngedmioeodmfaaDoorW.PrintLast Go.Proofs.YtngedmioeodmfaaDoorW.PrintMore
set_option linter.unusedVariables false
set_option linter.unusedSimpArgs false
def shSame (k : Nat) (a b : S44) : Bool := decide (a.f0 = b.f0) && (decide (a.f3 = b.f3) && (decide (parapetref19_SameTexts.f k a.f1 b.f1 = some true) && decide (parapetref19_SameTexts.f k a.f2 b.f2 = some true)))
def rlSame (k : Nat) (a b : S51) : Bool := decide (a.f0 = b.f0) && decide (parapetref19_SameCond.f k a.f1.f0 a.f1.f1.f0 a.f1.f1.f1 a.f1.f2 b.f1.f0 b.f1.f1.f0 b.f1.f1.f1 b.f1.f2 = some true)
/-- Two policies alike, told by the comparisons of their parts. -/
structure Alike (k : Nat) (l0 : List ByteArray) (l1 : List (S44)) (a2 : ByteArray) (l3 : List (S51)) (a4 : Bool) (m0 : List ByteArray) (m1 : List (S44)) (b2 : ByteArray) (m3 : List (S51)) (b4 : Bool) : Prop where
  c : parapetref19_SameTexts.f k l0 m0 = some true
  m : a2 = b2
  d : a4 = b4
  ls : l1.length = m1.length
  lr : l3.length = m3.length
  s : ∀ i, i < l1.length → shSame k (rd_T44 l1 (i : Int)) (rd_T44 m1 (i : Int)) = true
  r : ∀ i, i < l3.length → rlSame k (rd_T51 l3 (i : Int)) (rd_T51 m3 (i : Int)) = true
def alike (k : Nat) (l0 : List ByteArray) (l1 : List (S44)) (a2 : ByteArray) (l3 : List (S51)) (a4 : Bool) (m0 : List ByteArray) (m1 : List (S44)) (b2 : ByteArray) (m3 : List (S51)) (b4 : Bool) : Bool :=
  decide (l1.length ≤ 1000000) && (decide (l3.length ≤ 1000000) && (decide (parapetref19_SameTexts.f k l0 m0 = some true) && (decide (a2 = b2) && (decide (a4 = b4) && (decide (l1.length = m1.length) && (decide (l3.length = m3.length) && ((List.range l1.length).all (fun i => shSame k (rd_T44 l1 (i : Int)) (rd_T44 m1 (i : Int))) && (List.range l3.length).all (fun i => rlSame k (rd_T51 l3 (i : Int)) (rd_T51 m3 (i : Int))))))))))
theorem alike_iff {k : Nat} {l0 : List ByteArray} {l1 : List (S44)} {a2 : ByteArray} {l3 : List (S51)} {a4 : Bool} {m0 : List ByteArray} {m1 : List (S44)} {b2 : ByteArray} {m3 : List (S51)} {b4 : Bool} :
    alike k l0 l1 a2 l3 a4 m0 m1 b2 m3 b4 = true ↔ l1.length ≤ 1000000 ∧ l3.length ≤ 1000000 ∧ Alike k l0 l1 a2 l3 a4 m0 m1 b2 m3 b4 := by
  simp only [alike, Bool.and_eq_true, decide_eq_true_eq, List.all_eq_true, List.mem_range]
  constructor
  · rintro ⟨h1, h2, h3, h4, h5, h6, h7, h8, h9⟩
    exact ⟨h1, h2, h3, h4, h5, h6, h7, h8, h9⟩
  · rintro ⟨h1, h2, h3, h4, h5, h6, h7, h8, h9⟩
    exact ⟨h1, h2, h3, h4, h5, h6, h7, h8, h9⟩
theorem blk_snd (w : World) (c1 c2 : Array Value) (t1 t2 : TypeId) : ((w.alloc (.cells c1 t1)).alloc (.cells c2 t2)).heap[w.heap.size + 1]? = some (.cells c2 t2 (0, 0)) := by
  have h := blk_new (w.alloc (.cells c1 t1)) (.cells c2 t2)
  rwa [show (w.alloc (.cells c1 t1)).heap.size = w.heap.size + 1 from Array.size_push _] at h
theorem alike_mono {k : Nat} {l0 : List ByteArray} {l1 : List (S44)} {a2 : ByteArray} {l3 : List (S51)} {a4 : Bool} {m0 : List ByteArray} {m1 : List (S44)} {b2 : ByteArray} {m3 : List (S51)} {b4 : Bool}
    (h : alike k l0 l1 a2 l3 a4 m0 m1 b2 m3 b4 = true) : alike (k + 1) l0 l1 a2 l3 a4 m0 m1 b2 m3 b4 = true := by
  rw [alike_iff] at h ⊢
  obtain ⟨h1, h2, h⟩ := h
  refine ⟨h1, h2, parapetref19_SameTexts.mono _ _ _ _ h.c, h.m, h.d, h.ls, h.lr, fun i hi => ?_, fun i hi => ?_⟩
  · have := h.s i hi
    simp only [shSame, Bool.and_eq_true, decide_eq_true_eq] at this ⊢
    exact ⟨this.1, this.2.1, parapetref19_SameTexts.mono _ _ _ _ this.2.2.1, parapetref19_SameTexts.mono _ _ _ _ this.2.2.2⟩
  · have := h.r i hi
    simp only [rlSame, Bool.and_eq_true, decide_eq_true_eq] at this ⊢
    exact ⟨this.1, parapetref19_SameCond.mono _ _ _ _ _ _ _ _ _ _ this.2⟩
/-- A call that hands back, in a region. -/
theorem goesS_ {P : Program} {ops : Array Oper} {Q : Exit → Act → World → Prop} {oi : Oper} {N : Option Tmp} {a : Act} {w : World} {K : Act → World → Prop} {f : FuncId} {fn : Func} {xs : Array Operand} {ts : Array TypeId} (hf : P.funcs[f]? = some fn) (hname : (fn.name == "runtime.NumGoroutine") = false) (hb : fn.body.isSome = true) (args : Array Value)
    (hw : Region.wanted oi (yielded ops a.tmps) = true) (hN : oi.dst = N) (hop : oi.op = .call { callee := .value (.func f), args := xs, argTypes := ts }) (hargs : xs.map a.eval = args)
    (h : Calls P f args w fun e w' => ∃ v, e = .returned v ∧ K (a.put N v) w') : if Region.wanted oi (yielded ops a.tmps) = true then Oper.wp P oi a w K Q else K (a.put N undef) w := by
  have hrun : (execOp a.eval oi).run P w = .ok (.enter f args) w := by
    have he := enters_ hf hname hb args w
    unfold execOp
    simp [hop, resolve, Deferred.ofValue, invoke, Act.eval, hargs, he]
  rw [if_pos hw]
  subst hN
  unfold Oper.wp
  rw [hrun, Oper.upon_enter]
  refine h.mono fun e w'' hh => ?_
  obtain ⟨v, rfl, hk⟩ := hh
  exact hk
theorem size_sh44 : (Tryd.prog.info? 44).map (·.size) = some 4 := by kernel_rfl
set_option maxHeartbeats 16000000 in
set_option maxRecDepth 100000 in
theorem same_calls (k : Nat) (A0_0 : Option Addr) (c0_0 : Nat) (l0_0 : List ByteArray) (A0_1 : Option Addr) (c0_1 : Nat) (l0_1 : List (S44)) (a0_2 : ByteArray) (A0_3 : Option Addr) (c0_3 : Nat) (l0_3 : List (S51)) (a0_4 : Bool)
    (A1_0 : Option Addr) (c1_0 : Nat) (l1_0 : List ByteArray) (A1_1 : Option Addr) (c1_1 : Nat) (l1_1 : List (S44)) (a1_2 : ByteArray) (A1_3 : Option Addr) (c1_3 : Nat) (l1_3 : List (S51)) (a1_4 : Bool) (w : World)
    (hr0_0 : Kd.C Kd.string w A0_0 l0_0.length l0_0) (hc0_0 : l0_0.length ≤ c0_0) (hr0_1 : Kd.C k44 w A0_1 l0_1.length l0_1) (hc0_1 : l0_1.length ≤ c0_1) (hr0_3 : Kd.C k51 w A0_3 l0_3.length l0_3) (hc0_3 : l0_3.length ≤ c0_3)
    (hr1_0 : Kd.C Kd.string w A1_0 l1_0.length l1_0) (hc1_0 : l1_0.length ≤ c1_0) (hr1_1 : Kd.C k44 w A1_1 l1_1.length l1_1) (hc1_1 : l1_1.length ≤ c1_1) (hr1_3 : Kd.C k51 w A1_3 l1_3.length l1_3) (hc1_3 : l1_3.length ≤ c1_3)
    (hs : l0_1.length ≤ 1000000) (hrl : l0_3.length ≤ 1000000) (h : Alike k l0_0 l0_1 a0_2 l0_3 a0_4 l1_0 l1_1 a1_2 l1_3 a1_4) :
    Calls Tryd.prog 14 #[.agg #[.slice A0_0 l0_0.length c0_0, .slice A0_1 l0_1.length c0_1, .string a0_2, .slice A0_3 l0_3.length c0_3, .bool a0_4], .agg #[.slice A1_0 l1_0.length c1_0, .slice A1_1 l1_1.length c1_1, .string a1_2, .slice A1_3 l1_3.length c1_3, .bool a1_4]] w fun e w' => e = .returned (.bool true) ∧ Below w.heap.size w w' := by
  have hd := h.d
  have hm := h.m
  subst hd hm
  have H := Aside0.mk h
  have HS := Aside0.mk hs
  have HRL := Aside0.mk hrl
  have H00 := Aside0.mk hr0_0
  have H10 := Aside0.mk hr1_0
  have H01 := Aside0.mk hr0_1
  have H11 := Aside0.mk hr1_1
  have H03 := Aside0.mk hr0_3
  have H13 := Aside0.mk hr1_3
  have HC00 := Aside0.mk hc0_0
  have HC10 := Aside0.mk hc1_0
  obtain ⟨n00, hn00⟩ : ∃ n, n = l0_0.length := ⟨_, rfl⟩
  obtain ⟨n10, hn10⟩ : ∃ n, n = l1_0.length := ⟨_, rfl⟩
  obtain ⟨n01, hn01⟩ : ∃ n, n = l0_1.length := ⟨_, rfl⟩
  obtain ⟨n03, hn03⟩ : ∃ n, n = l0_3.length := ⟨_, rfl⟩
  have hls := h.ls
  have hlr := h.lr
  rw [← hls, ← hlr, ← hn00, ← hn10, ← hn01, ← hn03]
  have HN00 := Aside0.mk hn00
  have HN10 := Aside0.mk hn10
  have HN01 := Aside0.mk hn01
  have HN03 := Aside0.mk hn03
  clear h hs hrl hr0_0 hr1_0 hr0_1 hr1_1 hr0_3 hr1_3 hc0_0 hc1_0 hc0_1 hc1_1 hc0_3 hc1_3 hls hlr hn00 hn10 hn01 hn03
  have q1 : (a0_2.toList == a0_2.toList) = true := by simp
  have q2 : (a0_4 == a0_4) = true := by simp
  go_enter Tryd.func14, Tryd.ntmps14
  go_upto_region 1 with (fail)
  obtain ⟨g2, hg2⟩ : ∃ g2, g2 = w.heap.size := ⟨_, rfl⟩
  obtain ⟨w1, hw1⟩ : ∃ w1, w1 = (w.alloc (.cells #[.slice A0_0 n00 c0_0, .slice A0_1 n01 c0_1, .string a0_2, .slice A0_3 n03 c0_3, .bool a0_4] 27)).alloc (.cells #[.slice A1_0 n10 c1_0, .slice A1_1 n01 c1_1, .string a0_2, .slice A1_3 n03 c1_3, .bool a0_4] 27) := ⟨_, rfl⟩
  rw [← hw1, ← hg2]
  have HX2 : Aside0 (w1.heap[g2]? = some (.cells #[.slice A0_0 n00 c0_0, .slice A0_1 n01 c0_1, .string a0_2, .slice A0_3 n03 c0_3, .bool a0_4] 27 (0, 0))) := ⟨by rw [hw1, hg2]; exact blk_alloc (blk_new _ _) _⟩
  have HX3 : Aside0 (w1.heap[g2 + 1]? = some (.cells #[.slice A1_0 n10 c1_0, .slice A1_1 n01 c1_1, .string a0_2, .slice A1_3 n03 c1_3, .bool a0_4] 27 (0, 0))) := ⟨by rw [hw1, hg2]; exact blk_snd _ _ _ _ _⟩
  have HB1 : Aside0 (Below w.heap.size w w1) := ⟨by rw [hw1]; exact below_alloc (below_alloc (Below.refl _ _) _) _⟩
  have HG2 := Aside0.mk hg2
  clear hw1 hg2
  have hst := parapetref19_SameTexts.calls k A0_0 c0_0 l0_0 A1_0 c1_0 l1_0 true w1 (Kd.C_below H00.out HB1.out) HC00.out (Kd.C_below H10.out HB1.out) HC10.out H.out.c
  rw [← HN00.out, ← HN10.out] at hst
  have HST := Aside0.mk hst
  clear hst
  have c20 : w1.cell? ⟨g2, 0, none⟩ = some (.slice A0_0 n00 c0_0) := blk_cell HX2.out 0
  have c21 : w1.cell? ⟨g2, 1, none⟩ = some (.slice A0_1 n01 c0_1) := blk_cell HX2.out 1
  have c22 : w1.cell? ⟨g2, 2, none⟩ = some (.string a0_2) := blk_cell HX2.out 2
  have c23 : w1.cell? ⟨g2, 3, none⟩ = some (.slice A0_3 n03 c0_3) := blk_cell HX2.out 3
  have c24 : w1.cell? ⟨g2, 4, none⟩ = some (.bool a0_4) := blk_cell HX2.out 4
  have c30 : w1.cell? ⟨g2 + 1, 0, none⟩ = some (.slice A1_0 n10 c1_0) := blk_cell HX3.out 0
  have c31 : w1.cell? ⟨g2 + 1, 1, none⟩ = some (.slice A1_1 n01 c1_1) := blk_cell HX3.out 1
  have c32 : w1.cell? ⟨g2 + 1, 2, none⟩ = some (.string a0_2) := blk_cell HX3.out 2
  have c33 : w1.cell? ⟨g2 + 1, 3, none⟩ = some (.slice A1_3 n03 c1_3) := blk_cell HX3.out 3
  have c34 : w1.cell? ⟨g2 + 1, 4, none⟩ = some (.bool a0_4) := blk_cell HX3.out 4
  go_wp2_with fail
  refine HST.out.mono ?_
  rintro e w2 ⟨rfl, ⟨⟨m, rfl⟩⟩⟩
  dsimp only
  go_wp2_with fail
  obtain ⟨wl, hwl⟩ : ∃ wl, wl = w1.drewN m := ⟨_, rfl⟩
  rw [← hwl]
  have HBL : Aside0 (Below w1.heap.size w1 wl) := ⟨by rw [hwl]; exact pw_below_drewN (Below.refl _ _) m⟩
  clear hwl HST c20 c21 c22 c23 c24 c30 c31 c32 c33 c34 q1 q2
  go_loopg [5] n01 (fun gk v5 wr => ∃ (i : Nat), v5 = .int .i64 i ∧ Aside0 (i ≤ n01) ∧ Aside0 (n01 - i ≤ gk) ∧ Aside0 (Below w1.heap.size w1 wr))
  case atStart => exact ⟨0, rfl, ⟨Nat.zero_le _⟩, ⟨Nat.le_refl _⟩, HBL⟩
  case round =>
    clear HBL
    obtain ⟨i, rfl, HIL, HIG, HBR⟩ := hrel
    have HBW : Aside0 (Below w.heap.size w wr) := ⟨HB1.out.trans (HBR.out.mono HB1.out.size)⟩
    have HX2r := Aside0.mk (blk_below HX2.out HBR.out)
    have HX3r := Aside0.mk (blk_below HX3.out HBR.out)
    have c21 : wr.cell? ⟨g2, 1, none⟩ = some (.slice A0_1 n01 c0_1) := blk_cell HX2r.out 1
    have hib : (i : Int) ≤ 1000000 := by have := HIL.out; have := HS.out; have := HN01.out; omega
    by_cases hlt : i < n01
    · have l1 : decide (i < n01) = true := decide_eq_true hlt
      have l2 : decide ((i : Int) < (n01 : Int)) = true := decide_eq_true (by omega)
      have l3 : (i : Int) < (n01 : Int) := by omega
      have hsh := H.out.s i (by rw [← HN01.out]; exact hlt)
      obtain ⟨x, hx⟩ : ∃ x, x = rd_T44 l0_1 (i : Int) := ⟨_, rfl⟩
      obtain ⟨y, hy⟩ : ∃ y, y = rd_T44 l1_1 (i : Int) := ⟨_, rfl⟩
      rw [← hx, ← hy] at hsh
      simp only [shSame, Bool.and_eq_true, decide_eq_true_eq] at hsh
      obtain ⟨e0, e3, s1, s2⟩ := hsh
      have S1 := Aside0.mk s1
      have S2 := Aside0.mk s2
      have E0 := Aside0.mk e0
      have E3 := Aside0.mk e3
      obtain ⟨ad, A1, k1, A2, k2, hA1, q0, q1, q2, q3, hk1, hC1, hk2, hC2⟩ := at_T44 (Kd.C_below H01.out HBW.out) (i : Int) (by omega) (by rw [← HN01.out]; omega)
      have hA : A0_1 = some ad := hA1
      subst hA
      rw [← hx] at q0 q1 q2 q3 hk1 hC1 hk2 hC2
      simp only [Int.toNat_natCast] at q0 q1 q2 q3
      have HK1 := Aside0.mk hk1
      have HK2 := Aside0.mk hk2
      have HC1 := Aside0.mk hC1
      have HC2 := Aside0.mk hC2
      obtain ⟨m1, hm1⟩ : ∃ m1, m1 = x.f1.length := ⟨_, rfl⟩
      obtain ⟨m2, hm2⟩ : ∃ m2, m2 = x.f2.length := ⟨_, rfl⟩
      obtain ⟨z0, hz0⟩ : ∃ z0, z0 = x.f0 := ⟨_, rfl⟩
      obtain ⟨z3, hz3⟩ : ∃ z3, z3 = x.f3 := ⟨_, rfl⟩
      rw [← hm1] at q1
      rw [← hm2] at q2
      rw [← hz0] at q0
      rw [← hz3] at q3
      have HM1 := Aside0.mk hm1
      have HM2 := Aside0.mk hm2
      have HZ0 := Aside0.mk hz0
      have HZ3 := Aside0.mk hz3
      have HY := Aside0.mk hy
      clear hA1 hk1 hk2 hC1 hC2 e0 e3 s1 s2 hm1 hm2 hz0 hz3 hx hy hlt
      go_upto_region 7 with (refine wpList_store_row rfl 44 _ _ rfl wr.heap.size #[.string z0, .slice A1 m1 k1, .slice A2 m2 k2, .bool z3] rfl rfl 44 #[.string ⟨#[]⟩, .slice none 0 0, .slice none 0 0, .bool false] (blk_new _ _) size_sh44 rfl (by simp [Value.oneCell']) ?_)
      obtain ⟨g6, hg6⟩ : ∃ g6, g6 = wr.heap.size := ⟨_, rfl⟩
      obtain ⟨w6, hw6⟩ : ∃ w6, w6 = (wr.alloc (.cells #[.string ⟨#[]⟩, .slice none 0 0, .slice none 0 0, .bool false] 44)).setRow wr.heap.size #[.string z0, .slice A1 m1 k1, .slice A2 m2 k2, .bool z3] := ⟨_, rfl⟩
      have hput : ∀ (a : Act) (v : Value), a.put none v = a := fun _ _ => rfl
      rw [← hw6, ← hg6, hput]
      have HX6 : Aside0 (w6.heap[g6]? = some (.cells #[.string z0, .slice A1 m1 k1, .slice A2 m2 k2, .bool z3] 44 (0, 0))) := ⟨by rw [hw6, hg6]; exact setRow_heap _ _ _ _ _ _ (blk_new _ _)⟩
      have HB6r : Aside0 (Below wr.heap.size wr w6) := ⟨by rw [hw6]; exact below_setRow (below_alloc (Below.refl _ _) _) (Nat.le_refl _) _⟩
      have HB6 : Aside0 (Below w1.heap.size w1 w6) := ⟨HBR.out.trans (HB6r.out.mono HBR.out.size)⟩
      have HB6w : Aside0 (Below w.heap.size w w6) := ⟨HB1.out.trans (HB6.out.mono HB1.out.size)⟩
      have HC1' := Aside0.mk (Kd.C_below HC1.out HB6r.out)
      have HC2' := Aside0.mk (Kd.C_below HC2.out HB6r.out)
      have HL6 : Aside0 (g6 < w6.heap.size) := ⟨blk_lt HX6.out⟩
      clear hw6 hg6 q0 q1 q2 q3 c21 HC1 HC2 HB6r HX2r HX3r HBR HBW
      have c31 : w6.cell? ⟨g2 + 1, 1, none⟩ = some (.slice A1_1 n01 c1_1) := blk_cell (blk_below HX3.out HB6.out) 1
      obtain ⟨bd, B1, b1, B2, b2, hA1, q0, q1, q2, q3, hk1, hC1, hk2, hC2⟩ := at_T44 (Kd.C_below H11.out HB6w.out) (i : Int) (by omega) (by rw [← H.out.ls, ← HN01.out]; omega)
      have hA : A1_1 = some bd := hA1
      subst hA
      rw [← HY.out] at q0 q1 q2 q3 hk1 hC1 hk2 hC2
      rw [← E0.out, ← HZ0.out] at q0
      rw [← E3.out, ← HZ3.out] at q3
      simp only [Int.toNat_natCast] at q0 q1 q2 q3
      have HBK1 := Aside0.mk hk1
      have HBK2 := Aside0.mk hk2
      have HD1 := Aside0.mk hC1
      have HD2 := Aside0.mk hC2
      obtain ⟨p1, hm1⟩ : ∃ p1, p1 = y.f1.length := ⟨_, rfl⟩
      obtain ⟨p2, hm2⟩ : ∃ p2, p2 = y.f2.length := ⟨_, rfl⟩
      rw [← hm1] at q1
      rw [← hm2] at q2
      have HP1 := Aside0.mk hm1
      have HP2 := Aside0.mk hm2
      clear hA1 hk1 hk2 hC1 hC2 hm1 hm2
      go_upto_region 8 with (refine wpList_store_row rfl 44 _ _ rfl w6.heap.size #[.string z0, .slice B1 p1 b1, .slice B2 p2 b2, .bool z3] rfl rfl 44 #[.string ⟨#[]⟩, .slice none 0 0, .slice none 0 0, .bool false] (blk_new _ _) size_sh44 rfl (by simp [Value.oneCell']) ?_)
      obtain ⟨g7, hg7⟩ : ∃ g7, g7 = w6.heap.size := ⟨_, rfl⟩
      obtain ⟨w7, hw7⟩ : ∃ w7, w7 = (w6.alloc (.cells #[.string ⟨#[]⟩, .slice none 0 0, .slice none 0 0, .bool false] 44)).setRow w6.heap.size #[.string z0, .slice B1 p1 b1, .slice B2 p2 b2, .bool z3] := ⟨_, rfl⟩
      rw [← hw7, ← hg7, hput]
      clear hput
      have HX7 : Aside0 (w7.heap[g7]? = some (.cells #[.string z0, .slice B1 p1 b1, .slice B2 p2 b2, .bool z3] 44 (0, 0))) := ⟨by rw [hw7, hg7]; exact setRow_heap _ _ _ _ _ _ (blk_new _ _)⟩
      have HB7r : Aside0 (Below w6.heap.size w6 w7) := ⟨by rw [hw7]; exact below_setRow (below_alloc (Below.refl _ _) _) (Nat.le_refl _) _⟩
      have HB7 : Aside0 (Below w1.heap.size w1 w7) := ⟨HB6.out.trans (HB7r.out.mono HB6.out.size)⟩
      have HX6' := Aside0.mk (blk_below HX6.out HB7r.out)
      have t1 := parapetref19_SameTexts.calls k A1 k1 x.f1 B1 b1 y.f1 true w7 (Kd.C_below HC1'.out HB7r.out) HK1.out (Kd.C_below HD1.out HB7r.out) HBK1.out S1.out
      have t2 := fun m => parapetref19_SameTexts.calls k A2 k2 x.f2 B2 b2 y.f2 true (w7.drewN m) (Kd.C_below (Kd.C_below HC2'.out HB7r.out) (pw_below_drewN (Below.refl _ _) m)) HK2.out (Kd.C_below (Kd.C_below HD2.out HB7r.out) (pw_below_drewN (Below.refl _ _) m)) HBK2.out S2.out
      rw [← HM1.out, ← HP1.out] at t1
      simp only [← HM2.out, ← HP2.out] at t2
      have TT1 := Aside0.mk t1
      have TT2 := Aside0.mk t2
      clear hw7 hg7 q0 q1 q2 q3 c31 t1 t2
      have d0 : w7.cell? ⟨g6, 0, none⟩ = some (.string z0) := blk_cell HX6'.out 0
      have d1 : w7.cell? ⟨g6, 1, none⟩ = some (.slice A1 m1 k1) := blk_cell HX6'.out 1
      have d2 : w7.cell? ⟨g6, 2, none⟩ = some (.slice A2 m2 k2) := blk_cell HX6'.out 2
      have d3 : w7.cell? ⟨g6, 3, none⟩ = some (.bool z3) := blk_cell HX6'.out 3
      have f0 : w7.cell? ⟨g7, 0, none⟩ = some (.string z0) := blk_cell HX7.out 0
      have f1 : w7.cell? ⟨g7, 1, none⟩ = some (.slice B1 p1 b1) := blk_cell HX7.out 1
      have f2 : w7.cell? ⟨g7, 2, none⟩ = some (.slice B2 p2 b2) := blk_cell HX7.out 2
      have f3 : w7.cell? ⟨g7, 3, none⟩ = some (.bool z3) := blk_cell HX7.out 3
      have r1 : (z0.toList == z0.toList) = true := by simp
      have r2 : (z3 == z3) = true := by simp
      go_wp2_with fail
      refine TT1.out.mono ?_
      rintro e w8 ⟨rfl, ⟨⟨m8, rfl⟩⟩⟩
      dsimp only
      go_wp2_with fail
      refine (TT2.out m8).mono ?_
      rintro e w9 ⟨rfl, ⟨⟨m9, rfl⟩⟩⟩
      dsimp only
      go_wp2
      go_roundg (n01 - (i + 1))
      case measure => have := HIG.out; omega
      case rel => exact ⟨i + 1, by simp, ⟨by omega⟩, ⟨Nat.le_refl _⟩, ⟨pw_below_drewN HB7.out _⟩⟩
    · have l1 : decide (i < n01) = false := decide_eq_false hlt
      have l2 : decide ((i : Int) < (n01 : Int)) = false := decide_eq_false (by omega)
      clear hlt
      go_wp2_with fail
      clear c21 l1 l2
      obtain ⟨wl, hwl⟩ : ∃ wl, wl = wr := ⟨_, rfl⟩
      rw [← hwl]
      have HBL : Aside0 (Below w1.heap.size w1 wl) := ⟨by rw [hwl]; exact HBR.out⟩
      clear hwl HBR HBW HX2r HX3r HIL HIG hib
      go_loopg [8] n03 (fun gk v8 wr => ∃ (i : Nat), v8 = .int .i64 i ∧ Aside0 (i ≤ n03) ∧ Aside0 (n03 - i ≤ gk) ∧ Aside0 (Below w1.heap.size w1 wr))
      case atStart => exact ⟨0, rfl, ⟨Nat.zero_le _⟩, ⟨Nat.le_refl _⟩, HBL⟩
      case round =>
        clear HBL
        rename_i i_old
        obtain ⟨i, rfl, HIL, HIG, HBR⟩ := hrel
        have HBW : Aside0 (Below w.heap.size w wr) := ⟨HB1.out.trans (HBR.out.mono HB1.out.size)⟩
        have HX2r := Aside0.mk (blk_below HX2.out HBR.out)
        have HX3r := Aside0.mk (blk_below HX3.out HBR.out)
        have c23 : wr.cell? ⟨g2, 3, none⟩ = some (.slice A0_3 n03 c0_3) := blk_cell HX2r.out 3
        have c33 : wr.cell? ⟨g2 + 1, 3, none⟩ = some (.slice A1_3 n03 c1_3) := blk_cell HX3r.out 3
        have hib : (i : Int) ≤ 1000000 := by have := HIL.out; have := HRL.out; have := HN03.out; omega
        by_cases hlt : i < n03
        · have l1 : decide (i < n03) = true := decide_eq_true hlt
          have l2 : decide ((i : Int) < (n03 : Int)) = true := decide_eq_true (by omega)
          have l3 : (i : Int) < (n03 : Int) := by omega
          have hsh := H.out.r i (by rw [← HN03.out]; exact hlt)
          obtain ⟨x, hx⟩ : ∃ x, x = rd_T51 l0_3 (i : Int) := ⟨_, rfl⟩
          obtain ⟨y, hy⟩ : ∃ y, y = rd_T51 l1_3 (i : Int) := ⟨_, rfl⟩
          rw [← hx, ← hy] at hsh
          simp only [rlSame, Bool.and_eq_true, decide_eq_true_eq] at hsh
          obtain ⟨e0, sc⟩ := hsh
          obtain ⟨ad, A3, k3, hA1, q0, q1, q2, q3, q4, hk3, hC3⟩ := at_T51 (Kd.C_below H03.out HBW.out) (i : Int) (by omega) (by rw [← HN03.out]; omega)
          obtain ⟨bd, B3, b3, hB1, s0, s1, s2, s3, s4, hk4, hC4⟩ := at_T51 (Kd.C_below H13.out HBW.out) (i : Int) (by omega) (by rw [← H.out.lr, ← HN03.out]; omega)
          have hA : A0_3 = some ad := hA1
          have hBB : A1_3 = some bd := hB1
          subst hA hBB
          rw [← hx] at q0 q1 q2 q3 q4 hk3 hC3
          rw [← hy] at s0 s1 s2 s3 s4 hk4 hC4
          rw [← e0] at s0
          have hsc := parapetref19_SameCond.calls k x.f1.f0 x.f1.f1.f0 x.f1.f1.f1 A3 k3 x.f1.f2 y.f1.f0 y.f1.f1.f0 y.f1.f1.f1 B3 b3 y.f1.f2 true wr.drew (Kd.C_drew hC3) hk3 (Kd.C_drew hC4) hk4 sc
          simp only [Int.toNat_natCast] at q0 q1 q2 q3 q4 s0 s1 s2 s3 s4
          obtain ⟨m3, hm3⟩ : ∃ m3, m3 = x.f1.f2.length := ⟨_, rfl⟩
          obtain ⟨p3, hp3⟩ : ∃ p3, p3 = y.f1.f2.length := ⟨_, rfl⟩
          rw [← hm3] at q4 hsc
          rw [← hp3] at s4 hsc
          clear hk3 hC3 hk4 hC4 sc e0 hx hy hm3 hp3 hA1 hB1
          obtain ⟨z0, ⟨x0, ⟨x1, x2⟩, xk⟩⟩ := x
          obtain ⟨zy, ⟨y0, ⟨y1, y2⟩, yk⟩⟩ := y
          dsimp only at q0 q1 q2 q3 q4 s0 s1 s2 s3 s4 hsc
          have HSC := Aside0.mk hsc
          have hbl := World.block_lt_of_cell? wr _ q0
          have hbl2 := World.block_lt_of_cell? wr _ s0
          have r1 : (z0 != z0) = false := by simp
          clear hsc hlt
          go_upto_region 13 with (fail)
          refine start_ (n := 29) (S := fun w' => w'.cell? ⟨g2, 3, none⟩ = some (.slice (some ad) n03 c0_3) ∧ w'.cell? ⟨g2 + 1, 3, none⟩ = some (.slice (some bd) n03 c1_3) ∧ w'.cell? (ad.add (i * 5)) = some (.bool z0) ∧ w'.cell? ⟨(ad.add (i * 5)).block, (ad.add (i * 5)).off + 1, none⟩ = some (.int .i64 x0) ∧ w'.cell? ⟨(ad.add (i * 5)).block, (ad.add (i * 5)).off + 2, none⟩ = some (.string x1) ∧ w'.cell? ⟨(ad.add (i * 5)).block, (ad.add (i * 5)).off + 3, none⟩ = some (.string x2) ∧ w'.cell? ⟨(ad.add (i * 5)).block, (ad.add (i * 5)).off + 4, none⟩ = some (.slice A3 m3 k3) ∧ w'.cell? (bd.add (i * 5)) = some (.bool z0) ∧ w'.cell? ⟨(bd.add (i * 5)).block, (bd.add (i * 5)).off + 1, none⟩ = some (.int .i64 y0) ∧ w'.cell? ⟨(bd.add (i * 5)).block, (bd.add (i * 5)).off + 2, none⟩ = some (.string y1) ∧ w'.cell? ⟨(bd.add (i * 5)).block, (bd.add (i * 5)).off + 3, none⟩ = some (.string y2) ∧ w'.cell? ⟨(bd.add (i * 5)).block, (bd.add (i * 5)).off + 4, none⟩ = some (.slice B3 p3 b3)) (ds := [26]) #[false, false, false, false, false, false, false, false, false, false, false, false, false, false, false, false, false, false, false, false, false, false, false, false, false, false, false, false, false] (by kernel_rfl) rfl rfl ⟨c23, c33, q0, q1, q2, q3, q4, s0, s1, s2, s3, s4⟩ (fun hHeld => ?_)
          refine pure_ (i := 0) (N := some 99) (v := ?_) (a' := ?_) #[true, false, false, false, false, false, false, false, false, false, false, false, false, false, false, false, false, false, false, false, false, false, false, false, false, false, false, false, false] rfl rfl (by kernel_rfl) (fun _ _ _ h => h) (Or.inl ⟨by rfl, ?_⟩) ?_ ?_
          rotate_left
          · intro w'
            go_simp
            with_reducible rfl
          rotate_left
          · simp only [Act.put, List.setIfInBounds_toArray, List.set_cons_zero, List.set_cons_succ, i64_w, i32_w]
            rfl
          refine pure_ (i := 2) (N := some 101) (v := ?_) (a' := ?_) #[true, false, true, false, false, false, false, false, false, false, false, false, false, false, false, false, false, false, false, false, false, false, false, false, false, false, false, false, false] rfl rfl (by kernel_rfl) (fun _ _ _ h => h) (Or.inl ⟨by rfl, ?_⟩) ?_ ?_
          rotate_left
          · intro w'
            go_simp
            with_reducible rfl
          rotate_left
          · simp only [Act.put, List.setIfInBounds_toArray, List.set_cons_zero, List.set_cons_succ, i64_w, i32_w]
            rfl
          refine pure_ (i := 6) (N := some 105) (v := ?_) (a' := ?_) #[true, false, true, false, false, false, true, false, false, false, false, false, false, false, false, false, false, false, false, false, false, false, false, false, false, false, false, false, false] rfl rfl (by kernel_rfl) (fun _ _ _ h => h) (Or.inl ⟨by rfl, ?_⟩) ?_ ?_
          rotate_left
          · intro w'
            go_simp
            with_reducible rfl
          rotate_left
          · simp only [Act.put, List.setIfInBounds_toArray, List.set_cons_zero, List.set_cons_succ, i64_w, i32_w]
            rfl
          refine pure_ (i := 8) (N := some 107) (v := ?_) (a' := ?_) #[true, false, true, false, false, false, true, false, true, false, false, false, false, false, false, false, false, false, false, false, false, false, false, false, false, false, false, false, false] rfl rfl (by kernel_rfl) (fun _ _ _ h => h) (Or.inl ⟨by rfl, ?_⟩) ?_ ?_
          rotate_left
          · intro w'
            go_simp
            with_reducible rfl
          rotate_left
          · simp only [Act.put, List.setIfInBounds_toArray, List.set_cons_zero, List.set_cons_succ, i64_w, i32_w]
            rfl
          refine take_ (i := 1) (N := some 100) (v := ?_) (a' := ?_) #[true, true, true, false, false, false, true, false, true, false, false, false, false, false, false, false, false, false, false, false, false, false, false, false, false, false, false, false, false] rfl rfl (by kernel_rfl) (fun _ _ _ h => h) (Or.inl ⟨by rfl, ?_⟩) hHeld ?_ ?_
          rotate_left
          · rintro w' ⟨s0, s1, s2, s3, s4, s5, s6, s7, s8, s9, s10, s11⟩
            go_simp
            with_reducible rfl
          rotate_left
          · simp only [Act.put, List.setIfInBounds_toArray, List.set_cons_zero, List.set_cons_succ, i64_w, i32_w]
            rfl
          refine pure_ (i := 3) (N := some 102) (v := ?_) (a' := ?_) #[true, true, true, true, false, false, true, false, true, false, false, false, false, false, false, false, false, false, false, false, false, false, false, false, false, false, false, false, false] rfl rfl (by kernel_rfl) (fun _ _ _ h => h) (Or.inl ⟨by rfl, ?_⟩) ?_ ?_
          rotate_left
          · intro w'
            go_simp
            with_reducible rfl
          rotate_left
          · simp only [Act.put, List.setIfInBounds_toArray, List.set_cons_zero, List.set_cons_succ, i64_w, i32_w]
            rfl
          refine pure_ (i := 4) (N := some 103) (v := ?_) (a' := ?_) #[true, true, true, true, true, false, true, false, true, false, false, false, false, false, false, false, false, false, false, false, false, false, false, false, false, false, false, false, false] rfl rfl (by kernel_rfl) (fun _ _ _ h => h) (Or.inl ⟨by rfl, ?_⟩) ?_ ?_
          rotate_left
          · intro w'
            go_simp
            with_reducible rfl
          rotate_left
          · simp only [Act.put, List.setIfInBounds_toArray, List.set_cons_zero, List.set_cons_succ, i64_w, i32_w]
            rfl
          refine take_ (i := 5) (N := some 104) (v := ?_) (a' := ?_) #[true, true, true, true, true, true, true, false, true, false, false, false, false, false, false, false, false, false, false, false, false, false, false, false, false, false, false, false, false] rfl rfl (by kernel_rfl) (fun _ _ _ h => h) (Or.inl ⟨by rfl, ?_⟩) hHeld ?_ ?_
          rotate_left
          · rintro w' ⟨s0, s1, s2, s3, s4, s5, s6, s7, s8, s9, s10, s11⟩
            go_simp
            with_reducible rfl
          rotate_left
          · simp only [Act.put, List.setIfInBounds_toArray, List.set_cons_zero, List.set_cons_succ, i64_w, i32_w]
            rfl
          refine take_ (i := 7) (N := some 106) (v := ?_) (a' := ?_) #[true, true, true, true, true, true, true, true, true, false, false, false, false, false, false, false, false, false, false, false, false, false, false, false, false, false, false, false, false] rfl rfl (by kernel_rfl) (fun _ _ _ h => h) (Or.inl ⟨by rfl, ?_⟩) hHeld ?_ ?_
          rotate_left
          · rintro w' ⟨s0, s1, s2, s3, s4, s5, s6, s7, s8, s9, s10, s11⟩
            go_simp
            with_reducible rfl
          rotate_left
          · simp only [Act.put, List.setIfInBounds_toArray, List.set_cons_zero, List.set_cons_succ, i64_w, i32_w]
            rfl
          refine pure_ (i := 9) (N := some 108) (v := ?_) (a' := ?_) #[true, true, true, true, true, true, true, true, true, true, false, false, false, false, false, false, false, false, false, false, false, false, false, false, false, false, false, false, false] rfl rfl (by kernel_rfl) (fun _ _ _ h => h) (Or.inl ⟨by rfl, ?_⟩) ?_ ?_
          rotate_left
          · intro w'
            go_simp
            with_reducible rfl
          rotate_left
          · simp only [Act.put, List.setIfInBounds_toArray, List.set_cons_zero, List.set_cons_succ, i64_w, i32_w]
            rfl
          refine pure_ (i := 10) (N := some 109) (v := ?_) (a' := ?_) #[true, true, true, true, true, true, true, true, true, true, true, false, false, false, false, false, false, false, false, false, false, false, false, false, false, false, false, false, false] rfl rfl (by kernel_rfl) (fun _ _ _ h => h) (Or.inl ⟨by rfl, ?_⟩) ?_ ?_
          rotate_left
          · intro w'
            go_simp
            with_reducible rfl
          rotate_left
          · simp only [Act.put, List.setIfInBounds_toArray, List.set_cons_zero, List.set_cons_succ, i64_w, i32_w]
            rfl
          refine take_ (i := 11) (N := some 110) (v := ?_) (a' := ?_) #[true, true, true, true, true, true, true, true, true, true, true, true, false, false, false, false, false, false, false, false, false, false, false, false, false, false, false, false, false] rfl rfl (by kernel_rfl) (fun _ _ _ h => h) (Or.inl ⟨by rfl, ?_⟩) hHeld ?_ ?_
          rotate_left
          · rintro w' ⟨s0, s1, s2, s3, s4, s5, s6, s7, s8, s9, s10, s11⟩
            go_simp
            with_reducible rfl
          rotate_left
          · simp only [Act.put, List.setIfInBounds_toArray, List.set_cons_zero, List.set_cons_succ, i64_w, i32_w]
            rfl
          refine pure_ (i := 12) (N := some 111) (v := ?_) (a' := ?_) #[true, true, true, true, true, true, true, true, true, true, true, true, true, false, false, false, false, false, false, false, false, false, false, false, false, false, false, false, false] rfl rfl (by kernel_rfl) (fun _ _ _ h => h) (Or.inl ⟨by rfl, ?_⟩) ?_ ?_
          rotate_left
          · intro w'
            go_simp
            with_reducible rfl
          rotate_left
          · simp only [Act.put, List.setIfInBounds_toArray, List.set_cons_zero, List.set_cons_succ, i64_w, i32_w]
            rfl
          refine pure_ (i := 13) (N := some 112) (v := ?_) (a' := ?_) #[true, true, true, true, true, true, true, true, true, true, true, true, true, true, false, false, false, false, false, false, false, false, false, false, false, false, false, false, false] rfl rfl (by kernel_rfl) (fun _ _ _ h => h) (Or.inl ⟨by rfl, ?_⟩) ?_ ?_
          rotate_left
          · intro w'
            go_simp
            with_reducible rfl
          rotate_left
          · simp only [Act.put, List.setIfInBounds_toArray, List.set_cons_zero, List.set_cons_succ, i64_w, i32_w]
            rfl
          refine pure_ (i := 14) (N := some 113) (v := ?_) (a' := ?_) #[true, true, true, true, true, true, true, true, true, true, true, true, true, true, true, false, false, false, false, false, false, false, false, false, false, false, false, false, false] rfl rfl (by kernel_rfl) (fun _ _ _ h => h) (Or.inl ⟨by rfl, ?_⟩) ?_ ?_
          rotate_left
          · intro w'
            go_simp
            with_reducible rfl
          rotate_left
          · simp only [Act.put, List.setIfInBounds_toArray, List.set_cons_zero, List.set_cons_succ, i64_w, i32_w]
            rfl
          refine pure_ (i := 16) (N := some 115) (v := ?_) (a' := ?_) #[true, true, true, true, true, true, true, true, true, true, true, true, true, true, true, false, true, false, false, false, false, false, false, false, false, false, false, false, false] rfl rfl (by kernel_rfl) (fun _ _ _ h => h) (Or.inl ⟨by rfl, ?_⟩) ?_ ?_
          rotate_left
          · intro w'
            go_simp
            with_reducible rfl
          rotate_left
          · simp only [Act.put, List.setIfInBounds_toArray, List.set_cons_zero, List.set_cons_succ, i64_w, i32_w]
            rfl
          refine pure_ (i := 20) (N := some 119) (v := ?_) (a' := ?_) #[true, true, true, true, true, true, true, true, true, true, true, true, true, true, true, false, true, false, false, false, true, false, false, false, false, false, false, false, false] rfl rfl (by kernel_rfl) (fun _ _ _ h => h) (Or.inl ⟨by rfl, ?_⟩) ?_ ?_
          rotate_left
          · intro w'
            go_simp
            with_reducible rfl
          rotate_left
          · simp only [Act.put, List.setIfInBounds_toArray, List.set_cons_zero, List.set_cons_succ, i64_w, i32_w]
            rfl
          refine pure_ (i := 22) (N := some 121) (v := ?_) (a' := ?_) #[true, true, true, true, true, true, true, true, true, true, true, true, true, true, true, false, true, false, false, false, true, false, true, false, false, false, false, false, false] rfl rfl (by kernel_rfl) (fun _ _ _ h => h) (Or.inl ⟨by rfl, ?_⟩) ?_ ?_
          rotate_left
          · intro w'
            go_simp
            with_reducible rfl
          rotate_left
          · simp only [Act.put, List.setIfInBounds_toArray, List.set_cons_zero, List.set_cons_succ, i64_w, i32_w]
            rfl
          refine take_ (i := 15) (N := some 114) (v := ?_) (a' := ?_) #[true, true, true, true, true, true, true, true, true, true, true, true, true, true, true, true, true, false, false, false, true, false, true, false, false, false, false, false, false] rfl rfl (by kernel_rfl) (fun _ _ _ h => h) (Or.inl ⟨by rfl, ?_⟩) hHeld ?_ ?_
          rotate_left
          · rintro w' ⟨s0, s1, s2, s3, s4, s5, s6, s7, s8, s9, s10, s11⟩
            go_simp
            with_reducible rfl
          rotate_left
          · simp only [Act.put, List.setIfInBounds_toArray, List.set_cons_zero, List.set_cons_succ, i64_w, i32_w]
            rfl
          refine pure_ (i := 17) (N := some 116) (v := ?_) (a' := ?_) #[true, true, true, true, true, true, true, true, true, true, true, true, true, true, true, true, true, true, false, false, true, false, true, false, false, false, false, false, false] rfl rfl (by kernel_rfl) (fun _ _ _ h => h) (Or.inl ⟨by rfl, ?_⟩) ?_ ?_
          rotate_left
          · intro w'
            go_simp
            with_reducible rfl
          rotate_left
          · simp only [Act.put, List.setIfInBounds_toArray, List.set_cons_zero, List.set_cons_succ, i64_w, i32_w]
            rfl
          refine pure_ (i := 18) (N := some 117) (v := ?_) (a' := ?_) #[true, true, true, true, true, true, true, true, true, true, true, true, true, true, true, true, true, true, true, false, true, false, true, false, false, false, false, false, false] rfl rfl (by kernel_rfl) (fun _ _ _ h => h) (Or.inl ⟨by rfl, ?_⟩) ?_ ?_
          rotate_left
          · intro w'
            go_simp
            with_reducible rfl
          rotate_left
          · simp only [Act.put, List.setIfInBounds_toArray, List.set_cons_zero, List.set_cons_succ, i64_w, i32_w]
            rfl
          refine take_ (i := 19) (N := some 118) (v := ?_) (a' := ?_) #[true, true, true, true, true, true, true, true, true, true, true, true, true, true, true, true, true, true, true, true, true, false, true, false, false, false, false, false, false] rfl rfl (by kernel_rfl) (fun _ _ _ h => h) (Or.inl ⟨by rfl, ?_⟩) hHeld ?_ ?_
          rotate_left
          · rintro w' ⟨s0, s1, s2, s3, s4, s5, s6, s7, s8, s9, s10, s11⟩
            go_simp
            with_reducible rfl
          rotate_left
          · simp only [Act.put, List.setIfInBounds_toArray, List.set_cons_zero, List.set_cons_succ, i64_w, i32_w]
            rfl
          refine take_ (i := 21) (N := some 120) (v := ?_) (a' := ?_) #[true, true, true, true, true, true, true, true, true, true, true, true, true, true, true, true, true, true, true, true, true, true, true, false, false, false, false, false, false] rfl rfl (by kernel_rfl) (fun _ _ _ h => h) (Or.inl ⟨by rfl, ?_⟩) hHeld ?_ ?_
          rotate_left
          · rintro w' ⟨s0, s1, s2, s3, s4, s5, s6, s7, s8, s9, s10, s11⟩
            go_simp
            with_reducible rfl
          rotate_left
          · simp only [Act.put, List.setIfInBounds_toArray, List.set_cons_zero, List.set_cons_succ, i64_w, i32_w]
            rfl
          refine pure_ (i := 23) (N := some 122) (v := ?_) (a' := ?_) #[true, true, true, true, true, true, true, true, true, true, true, true, true, true, true, true, true, true, true, true, true, true, true, true, false, false, false, false, false] rfl rfl (by kernel_rfl) (fun _ _ _ h => h) (Or.inl ⟨by rfl, ?_⟩) ?_ ?_
          rotate_left
          · intro w'
            go_simp
            with_reducible rfl
          rotate_left
          · simp only [Act.put, List.setIfInBounds_toArray, List.set_cons_zero, List.set_cons_succ, i64_w, i32_w]
            rfl
          refine pure_ (i := 24) (N := some 123) (v := ?_) (a' := ?_) #[true, true, true, true, true, true, true, true, true, true, true, true, true, true, true, true, true, true, true, true, true, true, true, true, true, false, false, false, false] rfl rfl (by kernel_rfl) (fun _ _ _ h => h) (Or.inl ⟨by rfl, ?_⟩) ?_ ?_
          rotate_left
          · intro w'
            go_simp
            with_reducible rfl
          rotate_left
          · simp only [Act.put, List.setIfInBounds_toArray, List.set_cons_zero, List.set_cons_succ, i64_w, i32_w]
            rfl
          refine take_ (i := 25) (N := some 124) (v := ?_) (a' := ?_) #[true, true, true, true, true, true, true, true, true, true, true, true, true, true, true, true, true, true, true, true, true, true, true, true, true, true, false, false, false] rfl rfl (by kernel_rfl) (fun _ _ _ h => h) (Or.inl ⟨by rfl, ?_⟩) hHeld ?_ ?_
          rotate_left
          · rintro w' ⟨s0, s1, s2, s3, s4, s5, s6, s7, s8, s9, s10, s11⟩
            go_simp
            with_reducible rfl
          rotate_left
          · simp only [Act.put, List.setIfInBounds_toArray, List.set_cons_zero, List.set_cons_succ, i64_w, i32_w]
            rfl
          refine last_ (i := 26) (N := some 125) #[true, true, true, true, true, true, true, true, true, true, true, true, true, true, true, true, true, true, true, true, true, true, true, true, true, true, true, false, false] rfl rfl (by kernel_rfl) (by decide) (fun K hK => ?_)
          refine goesS_ Tryd.func33 (by kernel_rfl) rfl #[.agg #[.int .i64 x0, .string x1, .string x2, .slice A3 m3 k3], .agg #[.int .i64 y0, .string y1, .string y2, .slice B3 p3 b3]] (by rfl) rfl rfl (by simp only [List.map_toArray, List.map_cons, List.map_nil]; rfl) ?_
          refine HSC.out.mono ?_
          rintro e w5 ⟨rfl, hb⟩
          refine ⟨_, rfl, ?_⟩
          have HB5 := Aside0.mk hb
          clear hb
          refine hK.out _ _ ?_
          clear hK K
          refine norm_ (a' := ?_) ?_ ?_
          rotate_left
          · show Act.put _ (some 125) _ = _
            simp only [Act.put, List.setIfInBounds_toArray, List.set_cons_zero, List.set_cons_succ, i64_w, i32_w]
            rfl
          refine pure_ (i := 27) (N := some 126) (v := ?_) (a' := ?_) #[true, true, true, true, true, true, true, true, true, true, true, true, true, true, true, true, true, true, true, true, true, true, true, true, true, true, true, true, false] rfl rfl (by kernel_rfl) (fun _ _ _ h => h) (Or.inl ⟨by rfl, ?_⟩) ?_ ?_
          rotate_left
          · intro w'
            go_simp
            with_reducible rfl
          rotate_left
          · simp only [Act.put, List.setIfInBounds_toArray, List.set_cons_zero, List.set_cons_succ, i64_w, i32_w]
            rfl
          refine pure_ (i := 28) (N := some 127) (v := ?_) (a' := ?_) #[true, true, true, true, true, true, true, true, true, true, true, true, true, true, true, true, true, true, true, true, true, true, true, true, true, true, true, true, true] rfl rfl (by kernel_rfl) (fun _ _ _ h => h) (Or.inl ⟨by rfl, ?_⟩) ?_ ?_
          rotate_left
          · intro w'
            go_simp
            with_reducible rfl
          rotate_left
          · simp only [Act.put, List.setIfInBounds_toArray, List.set_cons_zero, List.set_cons_succ, i64_w, i32_w]
            rfl
          refine done_ (by kernel_rfl) ?_

          go_wp2
          go_roundg (n03 - (i + 1))
          case measure => have := HIG.out; omega
          case rel => exact ⟨i + 1, by simp, ⟨by omega⟩, ⟨Nat.le_refl _⟩, ⟨(below_drew HBR.out).trans (HB5.out.mono HBR.out.size)⟩⟩
        · have l1 : decide (i < n03) = false := decide_eq_false hlt
          have l2 : decide ((i : Int) < (n03 : Int)) = false := decide_eq_false (by omega)
          clear hlt
          go_wp2
          go_ret
          exact ⟨rfl, HBW.out⟩
end Go.Proofs.YtngedmioeodmfaaDoor.Ps
namespace Go.Proofs.YtngedmioeodmfaaDoor.Pr
open Go.RowKit Go.Proofs.YtngedmioeodmfaaDoorW.PrintWords Go.Proofs.YtngedmioeodmfaaDoorW.PrintLast Go.Proofs.YtngedmioeodmfaaDoorW.PrintMore
attribute [local go_sem] max2_int min2_int max_two min_two max_three min_three max_four min_four   -- for this text's walks alone
set_option linter.unusedVariables false
set_option linter.unusedSimpArgs false
def parapetref19_SamePolicy.f (k : Nat) (l0_0 : List ByteArray) (l0_1 : List (S44)) (a0_2 : ByteArray) (l0_3 : List (S51)) (a0_4 : Bool) (l1_0 : List ByteArray) (l1_1 : List (S44)) (a1_2 : ByteArray) (l1_3 : List (S51)) (a1_4 : Bool) : Option (Bool) :=
  if Go.Proofs.YtngedmioeodmfaaDoor.Ps.alike k l0_0 l0_1 a0_2 l0_3 a0_4 l1_0 l1_1 a1_2 l1_3 a1_4 = true then some true else none
theorem parapetref19_SamePolicy.mono : ∀ a0 a1 a2 a3 a4 a5 a6 a7 a8 a9 k, LeO (parapetref19_SamePolicy.f k a0 a1 a2 a3 a4 a5 a6 a7 a8 a9) (parapetref19_SamePolicy.f (k + 1) a0 a1 a2 a3 a4 a5 a6 a7 a8 a9) := by
  intro a0 a1 a2 a3 a4 a5 a6 a7 a8 a9 k r h
  unfold parapetref19_SamePolicy.f at h ⊢
  by_cases hk : Go.Proofs.YtngedmioeodmfaaDoor.Ps.alike k a0 a1 a2 a3 a4 a5 a6 a7 a8 a9 = true
  · rw [if_pos hk] at h
    rw [if_pos (Go.Proofs.YtngedmioeodmfaaDoor.Ps.alike_mono hk)]
    exact h
  · rw [if_neg hk] at h; cases h
theorem parapetref19_SamePolicy.calls (k : Nat) (A0_0 : Option Addr) (c0_0 : Nat) (l0_0 : List ByteArray) (A0_1 : Option Addr) (c0_1 : Nat) (l0_1 : List (S44)) (a0_2 : ByteArray) (A0_3 : Option Addr) (c0_3 : Nat) (l0_3 : List (S51)) (a0_4 : Bool)
    (A1_0 : Option Addr) (c1_0 : Nat) (l1_0 : List ByteArray) (A1_1 : Option Addr) (c1_1 : Nat) (l1_1 : List (S44)) (a1_2 : ByteArray) (A1_3 : Option Addr) (c1_3 : Nat) (l1_3 : List (S51)) (a1_4 : Bool) (r : Bool) (w : World)
    (hr0_0 : Kd.C Kd.string w A0_0 l0_0.length l0_0) (hc0_0 : l0_0.length ≤ c0_0) (hr0_1 : Kd.C k44 w A0_1 l0_1.length l0_1) (hc0_1 : l0_1.length ≤ c0_1) (hr0_3 : Kd.C k51 w A0_3 l0_3.length l0_3) (hc0_3 : l0_3.length ≤ c0_3)
    (hr1_0 : Kd.C Kd.string w A1_0 l1_0.length l1_0) (hc1_0 : l1_0.length ≤ c1_0) (hr1_1 : Kd.C k44 w A1_1 l1_1.length l1_1) (hc1_1 : l1_1.length ≤ c1_1) (hr1_3 : Kd.C k51 w A1_3 l1_3.length l1_3) (hc1_3 : l1_3.length ≤ c1_3)
    (h : parapetref19_SamePolicy.f k l0_0 l0_1 a0_2 l0_3 a0_4 l1_0 l1_1 a1_2 l1_3 a1_4 = some r) :
    Calls Tryd.prog 14 #[.agg #[.slice A0_0 l0_0.length c0_0, .slice A0_1 l0_1.length c0_1, .string a0_2, .slice A0_3 l0_3.length c0_3, .bool a0_4], .agg #[.slice A1_0 l1_0.length c1_0, .slice A1_1 l1_1.length c1_1, .string a1_2, .slice A1_3 l1_3.length c1_3, .bool a1_4]] w fun e w' => e = .returned (.bool r) ∧ Below w.heap.size w w' := by
  unfold parapetref19_SamePolicy.f at h
  by_cases hk : Go.Proofs.YtngedmioeodmfaaDoor.Ps.alike k l0_0 l0_1 a0_2 l0_3 a0_4 l1_0 l1_1 a1_2 l1_3 a1_4 = true
  · rw [if_pos hk] at h
    obtain rfl := Option.some.inj h
    have hk2 := Go.Proofs.YtngedmioeodmfaaDoor.Ps.alike_iff.1 hk
    exact Go.Proofs.YtngedmioeodmfaaDoor.Ps.same_calls k A0_0 c0_0 l0_0 A0_1 c0_1 l0_1 a0_2 A0_3 c0_3 l0_3 a0_4 A1_0 c1_0 l1_0 A1_1 c1_1 l1_1 a1_2 A1_3 c1_3 l1_3 a1_4 w hr0_0 hc0_0 hr0_1 hc0_1 hr0_3 hc0_3 hr1_0 hc1_0 hr1_1 hc1_1 hr1_3 hc1_3 hk2.1 hk2.2.1 hk2.2.2
  · rw [if_neg hk] at h; cases h
end Go.Proofs.YtngedmioeodmfaaDoor.Pr
