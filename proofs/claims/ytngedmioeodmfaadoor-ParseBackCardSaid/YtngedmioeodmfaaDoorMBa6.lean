/- 15 texts of the proof, put together, less what is not used; what a tool printed stands among them. -/
import Derived.Test.YtngedmioeodmfaaDoorMBa5
namespace Go.Proofs.YtngedmioeodmfaaDoor.Ps
open Go.RowKit Go.Proofs.YtngedmioeodmfaaDoor.Pr Go.Proofs.YtngedmioeodmfaaDoorW.PrintWords Go.Proofs.YtngedmioeodmfaaDoorW.PrintLast Go.Proofs.YtngedmioeodmfaaDoorW.PrintMore
set_option linter.unusedVariables false
set_option linter.unusedSimpArgs false
def shSame (k : Nat) (a b : S44) : Bool := decide (a.f0 = b.f0) && (decide (a.f3 = b.f3) && (decide (parapetref19_SameTexts.f k a.f1 b.f1 = some true) && decide (parapetref19_SameTexts.f k a.f2 b.f2 = some true)))
def rlSame (k : Nat) (a b : S51) : Bool := decide (a.f0 = b.f0) && decide (parapetref19_SameCond.f k a.f1.f0 a.f1.f1.f0 a.f1.f1.f1 a.f1.f2 b.f1.f0 b.f1.f1.f0 b.f1.f1.f1 b.f1.f2 = some true)
/-- Two policies alike, told by the comparisons of their parts. -/
structure Alike (k : Nat) (l0 : List ByteArray) (l1 : List (S44)) (a2 : ByteArray) (l3 : List (S51)) (a4 : Bool) (m0 : List ByteArray) (m1 : List (S44)) (b2 : ByteArray) (m3 : List (S51)) (b4 : Bool) : Prop where
  c : parapetref19_SameTexts.f k l0 m0 = some true
  m : a2 = b2
  d : a4 = b4
  ls : l1.length = m1.length
  lr : l3.length = m3.length
  s : ∀ i, i < l1.length → shSame k (rd_T44 l1 (i : Int)) (rd_T44 m1 (i : Int)) = true
  r : ∀ i, i < l3.length → rlSame k (rd_T51 l3 (i : Int)) (rd_T51 m3 (i : Int)) = true
def alike (k : Nat) (l0 : List ByteArray) (l1 : List (S44)) (a2 : ByteArray) (l3 : List (S51)) (a4 : Bool) (m0 : List ByteArray) (m1 : List (S44)) (b2 : ByteArray) (m3 : List (S51)) (b4 : Bool) : Bool :=
  decide (l1.length ≤ 1000000) && (decide (l3.length ≤ 1000000) && (decide (parapetref19_SameTexts.f k l0 m0 = some true) && (decide (a2 = b2) && (decide (a4 = b4) && (decide (l1.length = m1.length) && (decide (l3.length = m3.length) && ((List.range l1.length).all (fun i => shSame k (rd_T44 l1 (i : Int)) (rd_T44 m1 (i : Int))) && (List.range l3.length).all (fun i => rlSame k (rd_T51 l3 (i : Int)) (rd_T51 m3 (i : Int))))))))))
theorem alike_iff {k : Nat} {l0 : List ByteArray} {l1 : List (S44)} {a2 : ByteArray} {l3 : List (S51)} {a4 : Bool} {m0 : List ByteArray} {m1 : List (S44)} {b2 : ByteArray} {m3 : List (S51)} {b4 : Bool} :
    alike k l0 l1 a2 l3 a4 m0 m1 b2 m3 b4 = true ↔ l1.length ≤ 1000000 ∧ l3.length ≤ 1000000 ∧ Alike k l0 l1 a2 l3 a4 m0 m1 b2 m3 b4 := by
  simp only [alike, Bool.and_eq_true, decide_eq_true_eq, List.all_eq_true, List.mem_range]
  constructor
  · rintro ⟨h1, h2, h3, h4, h5, h6, h7, h8, h9⟩
    exact ⟨h1, h2, h3, h4, h5, h6, h7, h8, h9⟩
  · rintro ⟨h1, h2, h3, h4, h5, h6, h7, h8, h9⟩
    exact ⟨h1, h2, h3, h4, h5, h6, h7, h8, h9⟩
theorem blk_snd (w : World) (c1 c2 : Array Value) (t1 t2 : TypeId) : ((w.alloc (.cells c1 t1)).alloc (.cells c2 t2)).heap[w.heap.size + 1]? = some (.cells c2 t2 (0, 0)) := by
  have h := blk_new (w.alloc (.cells c1 t1)) (.cells c2 t2)
  rwa [show (w.alloc (.cells c1 t1)).heap.size = w.heap.size + 1 from Array.size_push _] at h
theorem alike_mono {k : Nat} {l0 : List ByteArray} {l1 : List (S44)} {a2 : ByteArray} {l3 : List (S51)} {a4 : Bool} {m0 : List ByteArray} {m1 : List (S44)} {b2 : ByteArray} {m3 : List (S51)} {b4 : Bool}
    (h : alike k l0 l1 a2 l3 a4 m0 m1 b2 m3 b4 = true) : alike (k + 1) l0 l1 a2 l3 a4 m0 m1 b2 m3 b4 = true := by
  rw [alike_iff] at h ⊢
  obtain ⟨h1, h2, h⟩ := h
  refine ⟨h1, h2, parapetref19_SameTexts.mono _ _ _ _ h.c, h.m, h.d, h.ls, h.lr, fun i hi => ?_, fun i hi => ?_⟩
  · have := h.s i hi
    simp only [shSame, Bool.and_eq_true, decide_eq_true_eq] at this ⊢
    exact ⟨this.1, this.2.1, parapetref19_SameTexts.mono _ _ _ _ this.2.2.1, parapetref19_SameTexts.mono _ _ _ _ this.2.2.2⟩
  · have := h.r i hi
    simp only [rlSame, Bool.and_eq_true, decide_eq_true_eq] at this ⊢
    exact ⟨this.1, parapetref19_SameCond.mono _ _ _ _ _ _ _ _ _ _ this.2⟩
/-- A call that hands back, in a region. -/
theorem goesS_ {P : Program} {ops : Array Oper} {Q : Exit → Act → World → Prop} {oi : Oper} {N : Option Tmp} {a : Act} {w : World} {K : Act → World → Prop} {f : FuncId} {fn : Func} {xs : Array Operand} {ts : Array TypeId} (hf : P.funcs[f]? = some fn) (hname : (fn.name == "runtime.NumGoroutine") = false) (hb : fn.body.isSome = true) (args : Array Value)
    (hw : Region.wanted oi (yielded ops a.tmps) = true) (hN : oi.dst = N) (hop : oi.op = .call { callee := .value (.func f), args := xs, argTypes := ts }) (hargs : xs.map a.eval = args)
    (h : Calls P f args w fun e w' => ∃ v, e = .returned v ∧ K (a.put N v) w') : if Region.wanted oi (yielded ops a.tmps) = true then Oper.wp P oi a w K Q else K (a.put N undef) w := by
  have hrun : (execOp a.eval oi).run P w = .ok (.enter f args) w := by
    have he := enters_ hf hname hb args w
    unfold execOp
    simp [hop, resolve, Deferred.ofValue, invoke, Act.eval, hargs, he]
  rw [if_pos hw]
  subst hN
  unfold Oper.wp
  rw [hrun, Oper.upon_enter]
  refine h.mono fun e w'' hh => ?_
  obtain ⟨v, rfl, hk⟩ := hh
  exact hk
theorem size_sh44 : (Tryd.prog.info? 44).map (·.size) = some 4 := by kernel_rfl
set_option maxHeartbeats 16000000 in
set_option maxRecDepth 100000 in
theorem same_calls (k : Nat) (A0_0 : Option Addr) (c0_0 : Nat) (l0_0 : List ByteArray) (A0_1 : Option Addr) (c0_1 : Nat) (l0_1 : List (S44)) (a0_2 : ByteArray) (A0_3 : Option Addr) (c0_3 : Nat) (l0_3 : List (S51)) (a0_4 : Bool)
    (A1_0 : Option Addr) (c1_0 : Nat) (l1_0 : List ByteArray) (A1_1 : Option Addr) (c1_1 : Nat) (l1_1 : List (S44)) (a1_2 : ByteArray) (A1_3 : Option Addr) (c1_3 : Nat) (l1_3 : List (S51)) (a1_4 : Bool) (w : World)
    (hr0_0 : Kd.C Kd.string w A0_0 l0_0.length l0_0) (hc0_0 : l0_0.length ≤ c0_0) (hr0_1 : Kd.C k44 w A0_1 l0_1.length l0_1) (hc0_1 : l0_1.length ≤ c0_1) (hr0_3 : Kd.C k51 w A0_3 l0_3.length l0_3) (hc0_3 : l0_3.length ≤ c0_3)
    (hr1_0 : Kd.C Kd.string w A1_0 l1_0.length l1_0) (hc1_0 : l1_0.length ≤ c1_0) (hr1_1 : Kd.C k44 w A1_1 l1_1.length l1_1) (hc1_1 : l1_1.length ≤ c1_1) (hr1_3 : Kd.C k51 w A1_3 l1_3.length l1_3) (hc1_3 : l1_3.length ≤ c1_3)
    (hs : l0_1.length ≤ 1000000) (hrl : l0_3.length ≤ 1000000) (h : Alike k l0_0 l0_1 a0_2 l0_3 a0_4 l1_0 l1_1 a1_2 l1_3 a1_4) :
    Calls Tryd.prog 14 #[.agg #[.slice A0_0 l0_0.length c0_0, .slice A0_1 l0_1.length c0_1, .string a0_2, .slice A0_3 l0_3.length c0_3, .bool a0_4], .agg #[.slice A1_0 l1_0.length c1_0, .slice A1_1 l1_1.length c1_1, .string a1_2, .slice A1_3 l1_3.length c1_3, .bool a1_4]] w fun e w' => e = .returned (.bool true) ∧ Below w.heap.size w w' := by
  have hd := h.d
  have hm := h.m
  subst hd hm
  have H := Aside0.mk h
  have HS := Aside0.mk hs
  have HRL := Aside0.mk hrl
  have H00 := Aside0.mk hr0_0
  have H10 := Aside0.mk hr1_0
  have H01 := Aside0.mk hr0_1
  have H11 := Aside0.mk hr1_1
  have H03 := Aside0.mk hr0_3
  have H13 := Aside0.mk hr1_3
  have HC00 := Aside0.mk hc0_0
  have HC10 := Aside0.mk hc1_0
  obtain ⟨n00, hn00⟩ : ∃ n, n = l0_0.length := ⟨_, rfl⟩
  obtain ⟨n10, hn10⟩ : ∃ n, n = l1_0.length := ⟨_, rfl⟩
  obtain ⟨n01, hn01⟩ : ∃ n, n = l0_1.length := ⟨_, rfl⟩
  obtain ⟨n03, hn03⟩ : ∃ n, n = l0_3.length := ⟨_, rfl⟩
  have hls := h.ls
  have hlr := h.lr
  rw [← hls, ← hlr, ← hn00, ← hn10, ← hn01, ← hn03]
  have HN00 := Aside0.mk hn00
  have HN10 := Aside0.mk hn10
  have HN01 := Aside0.mk hn01
  have HN03 := Aside0.mk hn03
  clear h hs hrl hr0_0 hr1_0 hr0_1 hr1_1 hr0_3 hr1_3 hc0_0 hc1_0 hc0_1 hc1_1 hc0_3 hc1_3 hls hlr hn00 hn10 hn01 hn03
  have q1 : (a0_2.toList == a0_2.toList) = true := by simp
  have q2 : (a0_4 == a0_4) = true := by simp
  go_enter Tryd.func14, Tryd.ntmps14
  go_upto_region 1 with (fail)
  obtain ⟨g2, hg2⟩ : ∃ g2, g2 = w.heap.size := ⟨_, rfl⟩
  obtain ⟨w1, hw1⟩ : ∃ w1, w1 = (w.alloc (.cells #[.slice A0_0 n00 c0_0, .slice A0_1 n01 c0_1, .string a0_2, .slice A0_3 n03 c0_3, .bool a0_4] 27)).alloc (.cells #[.slice A1_0 n10 c1_0, .slice A1_1 n01 c1_1, .string a0_2, .slice A1_3 n03 c1_3, .bool a0_4] 27) := ⟨_, rfl⟩
  rw [← hw1, ← hg2]
  have HX2 : Aside0 (w1.heap[g2]? = some (.cells #[.slice A0_0 n00 c0_0, .slice A0_1 n01 c0_1, .string a0_2, .slice A0_3 n03 c0_3, .bool a0_4] 27 (0, 0))) := ⟨by rw [hw1, hg2]; exact blk_alloc (blk_new _ _) _⟩
  have HX3 : Aside0 (w1.heap[g2 + 1]? = some (.cells #[.slice A1_0 n10 c1_0, .slice A1_1 n01 c1_1, .string a0_2, .slice A1_3 n03 c1_3, .bool a0_4] 27 (0, 0))) := ⟨by rw [hw1, hg2]; exact blk_snd _ _ _ _ _⟩
  have HB1 : Aside0 (Below w.heap.size w w1) := ⟨by rw [hw1]; exact below_alloc (below_alloc (Below.refl _ _) _) _⟩
  have HG2 := Aside0.mk hg2
  clear hw1 hg2
  have hst := parapetref19_SameTexts.calls k A0_0 c0_0 l0_0 A1_0 c1_0 l1_0 true w1 (Kd.C_below H00.out HB1.out) HC00.out (Kd.C_below H10.out HB1.out) HC10.out H.out.c
  rw [← HN00.out, ← HN10.out] at hst
  have HST := Aside0.mk hst
  clear hst
  have c20 : w1.cell? ⟨g2, 0, none⟩ = some (.slice A0_0 n00 c0_0) := blk_cell HX2.out 0
  have c21 : w1.cell? ⟨g2, 1, none⟩ = some (.slice A0_1 n01 c0_1) := blk_cell HX2.out 1
  have c22 : w1.cell? ⟨g2, 2, none⟩ = some (.string a0_2) := blk_cell HX2.out 2
  have c23 : w1.cell? ⟨g2, 3, none⟩ = some (.slice A0_3 n03 c0_3) := blk_cell HX2.out 3
  have c24 : w1.cell? ⟨g2, 4, none⟩ = some (.bool a0_4) := blk_cell HX2.out 4
  have c30 : w1.cell? ⟨g2 + 1, 0, none⟩ = some (.slice A1_0 n10 c1_0) := blk_cell HX3.out 0
  have c31 : w1.cell? ⟨g2 + 1, 1, none⟩ = some (.slice A1_1 n01 c1_1) := blk_cell HX3.out 1
  have c32 : w1.cell? ⟨g2 + 1, 2, none⟩ = some (.string a0_2) := blk_cell HX3.out 2
  have c33 : w1.cell? ⟨g2 + 1, 3, none⟩ = some (.slice A1_3 n03 c1_3) := blk_cell HX3.out 3
  have c34 : w1.cell? ⟨g2 + 1, 4, none⟩ = some (.bool a0_4) := blk_cell HX3.out 4
  go_wp2_with fail
  refine HST.out.mono ?_
  rintro e w2 ⟨rfl, ⟨⟨m, rfl⟩⟩⟩
  dsimp only
  go_wp2_with fail
  obtain ⟨wl, hwl⟩ : ∃ wl, wl = w1.drewN m := ⟨_, rfl⟩
  rw [← hwl]
  have HBL : Aside0 (Below w1.heap.size w1 wl) := ⟨by rw [hwl]; exact pw_below_drewN (Below.refl _ _) m⟩
  clear hwl HST c20 c21 c22 c23 c24 c30 c31 c32 c33 c34 q1 q2
  go_loopg [5] n01 (fun gk v5 wr => ∃ (i : Nat), v5 = .int .i64 i ∧ Aside0 (i ≤ n01) ∧ Aside0 (n01 - i ≤ gk) ∧ Aside0 (Below w1.heap.size w1 wr))
  case atStart => exact ⟨0, rfl, ⟨Nat.zero_le _⟩, ⟨Nat.le_refl _⟩, HBL⟩
  case round =>
    clear HBL
    obtain ⟨i, rfl, HIL, HIG, HBR⟩ := hrel
    have HBW : Aside0 (Below w.heap.size w wr) := ⟨HB1.out.trans (HBR.out.mono HB1.out.size)⟩
    have HX2r := Aside0.mk (blk_below HX2.out HBR.out)
    have HX3r := Aside0.mk (blk_below HX3.out HBR.out)
    have c21 : wr.cell? ⟨g2, 1, none⟩ = some (.slice A0_1 n01 c0_1) := blk_cell HX2r.out 1
    have hib : (i : Int) ≤ 1000000 := by have := HIL.out; have := HS.out; have := HN01.out; omega
    by_cases hlt : i < n01
    · have l1 : decide (i < n01) = true := decide_eq_true hlt
      have l2 : decide ((i : Int) < (n01 : Int)) = true := decide_eq_true (by omega)
      have l3 : (i : Int) < (n01 : Int) := by omega
      have hsh := H.out.s i (by rw [← HN01.out]; exact hlt)
      obtain ⟨x, hx⟩ : ∃ x, x = rd_T44 l0_1 (i : Int) := ⟨_, rfl⟩
      obtain ⟨y, hy⟩ : ∃ y, y = rd_T44 l1_1 (i : Int) := ⟨_, rfl⟩
      rw [← hx, ← hy] at hsh
      simp only [shSame, Bool.and_eq_true, decide_eq_true_eq] at hsh
      obtain ⟨e0, e3, s1, s2⟩ := hsh
      have S1 := Aside0.mk s1
      have S2 := Aside0.mk s2
      have E0 := Aside0.mk e0
      have E3 := Aside0.mk e3
      obtain ⟨ad, A1, k1, A2, k2, hA1, q0, q1, q2, q3, hk1, hC1, hk2, hC2⟩ := at_T44 (Kd.C_below H01.out HBW.out) (i : Int) (by omega) (by rw [← HN01.out]; omega)
      have hA : A0_1 = some ad := hA1
      subst hA
      rw [← hx] at q0 q1 q2 q3 hk1 hC1 hk2 hC2
      simp only [Int.toNat_natCast] at q0 q1 q2 q3
      have HK1 := Aside0.mk hk1
      have HK2 := Aside0.mk hk2
      have HC1 := Aside0.mk hC1
      have HC2 := Aside0.mk hC2
      obtain ⟨m1, hm1⟩ : ∃ m1, m1 = x.f1.length := ⟨_, rfl⟩
      obtain ⟨m2, hm2⟩ : ∃ m2, m2 = x.f2.length := ⟨_, rfl⟩
      obtain ⟨z0, hz0⟩ : ∃ z0, z0 = x.f0 := ⟨_, rfl⟩
      obtain ⟨z3, hz3⟩ : ∃ z3, z3 = x.f3 := ⟨_, rfl⟩
      rw [← hm1] at q1
      rw [← hm2] at q2
      rw [← hz0] at q0
      rw [← hz3] at q3
      have HM1 := Aside0.mk hm1
      have HM2 := Aside0.mk hm2
      have HZ0 := Aside0.mk hz0
      have HZ3 := Aside0.mk hz3
      have HY := Aside0.mk hy
      clear hA1 hk1 hk2 hC1 hC2 e0 e3 s1 s2 hm1 hm2 hz0 hz3 hx hy hlt
      go_upto_region 7 with (refine wpList_store_row rfl 44 _ _ rfl wr.heap.size #[.string z0, .slice A1 m1 k1, .slice A2 m2 k2, .bool z3] rfl rfl 44 #[.string ⟨#[]⟩, .slice none 0 0, .slice none 0 0, .bool false] (blk_new _ _) size_sh44 rfl (by simp [Value.oneCell']) ?_)
      obtain ⟨g6, hg6⟩ : ∃ g6, g6 = wr.heap.size := ⟨_, rfl⟩
      obtain ⟨w6, hw6⟩ : ∃ w6, w6 = (wr.alloc (.cells #[.string ⟨#[]⟩, .slice none 0 0, .slice none 0 0, .bool false] 44)).setRow wr.heap.size #[.string z0, .slice A1 m1 k1, .slice A2 m2 k2, .bool z3] := ⟨_, rfl⟩
      have hput : ∀ (a : Act) (v : Value), a.put none v = a := fun _ _ => rfl
      rw [← hw6, ← hg6, hput]
      have HX6 : Aside0 (w6.heap[g6]? = some (.cells #[.string z0, .slice A1 m1 k1, .slice A2 m2 k2, .bool z3] 44 (0, 0))) := ⟨by rw [hw6, hg6]; exact setRow_heap _ _ _ _ _ _ (blk_new _ _)⟩
      have HB6r : Aside0 (Below wr.heap.size wr w6) := ⟨by rw [hw6]; exact below_setRow (below_alloc (Below.refl _ _) _) (Nat.le_refl _) _⟩
      have HB6 : Aside0 (Below w1.heap.size w1 w6) := ⟨HBR.out.trans (HB6r.out.mono HBR.out.size)⟩
      have HB6w : Aside0 (Below w.heap.size w w6) := ⟨HB1.out.trans (HB6.out.mono HB1.out.size)⟩
      have HC1' := Aside0.mk (Kd.C_below HC1.out HB6r.out)
      have HC2' := Aside0.mk (Kd.C_below HC2.out HB6r.out)
      have HL6 : Aside0 (g6 < w6.heap.size) := ⟨blk_lt HX6.out⟩
      clear hw6 hg6 q0 q1 q2 q3 c21 HC1 HC2 HB6r HX2r HX3r HBR HBW
      have c31 : w6.cell? ⟨g2 + 1, 1, none⟩ = some (.slice A1_1 n01 c1_1) := blk_cell (blk_below HX3.out HB6.out) 1
      obtain ⟨bd, B1, b1, B2, b2, hA1, q0, q1, q2, q3, hk1, hC1, hk2, hC2⟩ := at_T44 (Kd.C_below H11.out HB6w.out) (i : Int) (by omega) (by rw [← H.out.ls, ← HN01.out]; omega)
      have hA : A1_1 = some bd := hA1
      subst hA
      rw [← HY.out] at q0 q1 q2 q3 hk1 hC1 hk2 hC2
      rw [← E0.out, ← HZ0.out] at q0
      rw [← E3.out, ← HZ3.out] at q3
      simp only [Int.toNat_natCast] at q0 q1 q2 q3
      have HBK1 := Aside0.mk hk1
      have HBK2 := Aside0.mk hk2
      have HD1 := Aside0.mk hC1
      have HD2 := Aside0.mk hC2
      obtain ⟨p1, hm1⟩ : ∃ p1, p1 = y.f1.length := ⟨_, rfl⟩
      obtain ⟨p2, hm2⟩ : ∃ p2, p2 = y.f2.length := ⟨_, rfl⟩
      rw [← hm1] at q1
      rw [← hm2] at q2
      have HP1 := Aside0.mk hm1
      have HP2 := Aside0.mk hm2
      clear hA1 hk1 hk2 hC1 hC2 hm1 hm2
      go_upto_region 8 with (refine wpList_store_row rfl 44 _ _ rfl w6.heap.size #[.string z0, .slice B1 p1 b1, .slice B2 p2 b2, .bool z3] rfl rfl 44 #[.string ⟨#[]⟩, .slice none 0 0, .slice none 0 0, .bool false] (blk_new _ _) size_sh44 rfl (by simp [Value.oneCell']) ?_)
      obtain ⟨g7, hg7⟩ : ∃ g7, g7 = w6.heap.size := ⟨_, rfl⟩
      obtain ⟨w7, hw7⟩ : ∃ w7, w7 = (w6.alloc (.cells #[.string ⟨#[]⟩, .slice none 0 0, .slice none 0 0, .bool false] 44)).setRow w6.heap.size #[.string z0, .slice B1 p1 b1, .slice B2 p2 b2, .bool z3] := ⟨_, rfl⟩
      rw [← hw7, ← hg7, hput]
      clear hput
      have HX7 : Aside0 (w7.heap[g7]? = some (.cells #[.string z0, .slice B1 p1 b1, .slice B2 p2 b2, .bool z3] 44 (0, 0))) := ⟨by rw [hw7, hg7]; exact setRow_heap _ _ _ _ _ _ (blk_new _ _)⟩
      have HB7r : Aside0 (Below w6.heap.size w6 w7) := ⟨by rw [hw7]; exact below_setRow (below_alloc (Below.refl _ _) _) (Nat.le_refl _) _⟩
      have HB7 : Aside0 (Below w1.heap.size w1 w7) := ⟨HB6.out.trans (HB7r.out.mono HB6.out.size)⟩
      have HX6' := Aside0.mk (blk_below HX6.out HB7r.out)
      have t1 := parapetref19_SameTexts.calls k A1 k1 x.f1 B1 b1 y.f1 true w7 (Kd.C_below HC1'.out HB7r.out) HK1.out (Kd.C_below HD1.out HB7r.out) HBK1.out S1.out
      have t2 := fun m => parapetref19_SameTexts.calls k A2 k2 x.f2 B2 b2 y.f2 true (w7.drewN m) (Kd.C_below (Kd.C_below HC2'.out HB7r.out) (pw_below_drewN (Below.refl _ _) m)) HK2.out (Kd.C_below (Kd.C_below HD2.out HB7r.out) (pw_below_drewN (Below.refl _ _) m)) HBK2.out S2.out
      rw [← HM1.out, ← HP1.out] at t1
      simp only [← HM2.out, ← HP2.out] at t2
      have TT1 := Aside0.mk t1
      have TT2 := Aside0.mk t2
      clear hw7 hg7 q0 q1 q2 q3 c31 t1 t2
      have d0 : w7.cell? ⟨g6, 0, none⟩ = some (.string z0) := blk_cell HX6'.out 0
      have d1 : w7.cell? ⟨g6, 1, none⟩ = some (.slice A1 m1 k1) := blk_cell HX6'.out 1
      have d2 : w7.cell? ⟨g6, 2, none⟩ = some (.slice A2 m2 k2) := blk_cell HX6'.out 2
      have d3 : w7.cell? ⟨g6, 3, none⟩ = some (.bool z3) := blk_cell HX6'.out 3
      have f0 : w7.cell? ⟨g7, 0, none⟩ = some (.string z0) := blk_cell HX7.out 0
      have f1 : w7.cell? ⟨g7, 1, none⟩ = some (.slice B1 p1 b1) := blk_cell HX7.out 1
      have f2 : w7.cell? ⟨g7, 2, none⟩ = some (.slice B2 p2 b2) := blk_cell HX7.out 2
      have f3 : w7.cell? ⟨g7, 3, none⟩ = some (.bool z3) := blk_cell HX7.out 3
      have r1 : (z0.toList == z0.toList) = true := by simp
      have r2 : (z3 == z3) = true := by simp
      go_wp2_with fail
      refine TT1.out.mono ?_
      rintro e w8 ⟨rfl, ⟨⟨m8, rfl⟩⟩⟩
      dsimp only
      go_wp2_with fail
      refine (TT2.out m8).mono ?_
      rintro e w9 ⟨rfl, ⟨⟨m9, rfl⟩⟩⟩
      dsimp only
      go_wp2
      go_roundg (n01 - (i + 1))
      case measure => have := HIG.out; omega
      case rel => exact ⟨i + 1, by simp, ⟨by omega⟩, ⟨Nat.le_refl _⟩, ⟨pw_below_drewN HB7.out _⟩⟩
    · have l1 : decide (i < n01) = false := decide_eq_false hlt
      have l2 : decide ((i : Int) < (n01 : Int)) = false := decide_eq_false (by omega)
      clear hlt
      go_wp2_with fail
      clear c21 l1 l2
      obtain ⟨wl, hwl⟩ : ∃ wl, wl = wr := ⟨_, rfl⟩
      rw [← hwl]
      have HBL : Aside0 (Below w1.heap.size w1 wl) := ⟨by rw [hwl]; exact HBR.out⟩
      clear hwl HBR HBW HX2r HX3r HIL HIG hib
      go_loopg [8] n03 (fun gk v8 wr => ∃ (i : Nat), v8 = .int .i64 i ∧ Aside0 (i ≤ n03) ∧ Aside0 (n03 - i ≤ gk) ∧ Aside0 (Below w1.heap.size w1 wr))
      case atStart => exact ⟨0, rfl, ⟨Nat.zero_le _⟩, ⟨Nat.le_refl _⟩, HBL⟩
      case round =>
        clear HBL
        rename_i i_old
        obtain ⟨i, rfl, HIL, HIG, HBR⟩ := hrel
        have HBW : Aside0 (Below w.heap.size w wr) := ⟨HB1.out.trans (HBR.out.mono HB1.out.size)⟩
        have HX2r := Aside0.mk (blk_below HX2.out HBR.out)
        have HX3r := Aside0.mk (blk_below HX3.out HBR.out)
        have c23 : wr.cell? ⟨g2, 3, none⟩ = some (.slice A0_3 n03 c0_3) := blk_cell HX2r.out 3
        have c33 : wr.cell? ⟨g2 + 1, 3, none⟩ = some (.slice A1_3 n03 c1_3) := blk_cell HX3r.out 3
        have hib : (i : Int) ≤ 1000000 := by have := HIL.out; have := HRL.out; have := HN03.out; omega
        by_cases hlt : i < n03
        · have l1 : decide (i < n03) = true := decide_eq_true hlt
          have l2 : decide ((i : Int) < (n03 : Int)) = true := decide_eq_true (by omega)
          have l3 : (i : Int) < (n03 : Int) := by omega
          have hsh := H.out.r i (by rw [← HN03.out]; exact hlt)
          obtain ⟨x, hx⟩ : ∃ x, x = rd_T51 l0_3 (i : Int) := ⟨_, rfl⟩
          obtain ⟨y, hy⟩ : ∃ y, y = rd_T51 l1_3 (i : Int) := ⟨_, rfl⟩
          rw [← hx, ← hy] at hsh
          simp only [rlSame, Bool.and_eq_true, decide_eq_true_eq] at hsh
          obtain ⟨e0, sc⟩ := hsh
          obtain ⟨ad, A3, k3, hA1, q0, q1, q2, q3, q4, hk3, hC3⟩ := at_T51 (Kd.C_below H03.out HBW.out) (i : Int) (by omega) (by rw [← HN03.out]; omega)
          obtain ⟨bd, B3, b3, hB1, s0, s1, s2, s3, s4, hk4, hC4⟩ := at_T51 (Kd.C_below H13.out HBW.out) (i : Int) (by omega) (by rw [← H.out.lr, ← HN03.out]; omega)
          have hA : A0_3 = some ad := hA1
          have hBB : A1_3 = some bd := hB1
          subst hA hBB
          rw [← hx] at q0 q1 q2 q3 q4 hk3 hC3
          rw [← hy] at s0 s1 s2 s3 s4 hk4 hC4
          rw [← e0] at s0
          have hsc := parapetref19_SameCond.calls k x.f1.f0 x.f1.f1.f0 x.f1.f1.f1 A3 k3 x.f1.f2 y.f1.f0 y.f1.f1.f0 y.f1.f1.f1 B3 b3 y.f1.f2 true wr.drew (Kd.C_drew hC3) hk3 (Kd.C_drew hC4) hk4 sc
          simp only [Int.toNat_natCast] at q0 q1 q2 q3 q4 s0 s1 s2 s3 s4
          obtain ⟨m3, hm3⟩ : ∃ m3, m3 = x.f1.f2.length := ⟨_, rfl⟩
          obtain ⟨p3, hp3⟩ : ∃ p3, p3 = y.f1.f2.length := ⟨_, rfl⟩
          rw [← hm3] at q4 hsc
          rw [← hp3] at s4 hsc
          clear hk3 hC3 hk4 hC4 sc e0 hx hy hm3 hp3 hA1 hB1
          obtain ⟨z0, ⟨x0, ⟨x1, x2⟩, xk⟩⟩ := x
          obtain ⟨zy, ⟨y0, ⟨y1, y2⟩, yk⟩⟩ := y
          dsimp only at q0 q1 q2 q3 q4 s0 s1 s2 s3 s4 hsc
          have HSC := Aside0.mk hsc
          have hbl := World.block_lt_of_cell? wr _ q0
          have hbl2 := World.block_lt_of_cell? wr _ s0
          have r1 : (z0 != z0) = false := by simp
          clear hsc hlt
          go_upto_region 13 with (fail)
          refine start_ (n := 29) (S := fun w' => w'.cell? ⟨g2, 3, none⟩ = some (.slice (some ad) n03 c0_3) ∧ w'.cell? ⟨g2 + 1, 3, none⟩ = some (.slice (some bd) n03 c1_3) ∧ w'.cell? (ad.add (i * 5)) = some (.bool z0) ∧ w'.cell? ⟨(ad.add (i * 5)).block, (ad.add (i * 5)).off + 1, none⟩ = some (.int .i64 x0) ∧ w'.cell? ⟨(ad.add (i * 5)).block, (ad.add (i * 5)).off + 2, none⟩ = some (.string x1) ∧ w'.cell? ⟨(ad.add (i * 5)).block, (ad.add (i * 5)).off + 3, none⟩ = some (.string x2) ∧ w'.cell? ⟨(ad.add (i * 5)).block, (ad.add (i * 5)).off + 4, none⟩ = some (.slice A3 m3 k3) ∧ w'.cell? (bd.add (i * 5)) = some (.bool z0) ∧ w'.cell? ⟨(bd.add (i * 5)).block, (bd.add (i * 5)).off + 1, none⟩ = some (.int .i64 y0) ∧ w'.cell? ⟨(bd.add (i * 5)).block, (bd.add (i * 5)).off + 2, none⟩ = some (.string y1) ∧ w'.cell? ⟨(bd.add (i * 5)).block, (bd.add (i * 5)).off + 3, none⟩ = some (.string y2) ∧ w'.cell? ⟨(bd.add (i * 5)).block, (bd.add (i * 5)).off + 4, none⟩ = some (.slice B3 p3 b3)) (ds := [26]) #[false, false, false, false, false, false, false, false, false, false, false, false, false, false, false, false, false, false, false, false, false, false, false, false, false, false, false, false, false] (by kernel_rfl) rfl rfl ⟨c23, c33, q0, q1, q2, q3, q4, s0, s1, s2, s3, s4⟩ (fun hHeld => ?_)
          refine pure_ (i := 0) (N := some 99) (v := ?_) (a' := ?_) #[true, false, false, false, false, false, false, false, false, false, false, false, false, false, false, false, false, false, false, false, false, false, false, false, false, false, false, false, false] rfl rfl (by kernel_rfl) (fun _ _ _ h => h) (Or.inl ⟨by rfl, ?_⟩) ?_ ?_
          rotate_left
          · intro w'
            go_simp
            with_reducible rfl
          rotate_left
          · simp only [Act.put, List.setIfInBounds_toArray, List.set_cons_zero, List.set_cons_succ, i64_w, i32_w]
            rfl
          refine pure_ (i := 2) (N := some 101) (v := ?_) (a' := ?_) #[true, false, true, false, false, false, false, false, false, false, false, false, false, false, false, false, false, false, false, false, false, false, false, false, false, false, false, false, false] rfl rfl (by kernel_rfl) (fun _ _ _ h => h) (Or.inl ⟨by rfl, ?_⟩) ?_ ?_
          rotate_left
          · intro w'
            go_simp
            with_reducible rfl
          rotate_left
          · simp only [Act.put, List.setIfInBounds_toArray, List.set_cons_zero, List.set_cons_succ, i64_w, i32_w]
            rfl
          refine pure_ (i := 6) (N := some 105) (v := ?_) (a' := ?_) #[true, false, true, false, false, false, true, false, false, false, false, false, false, false, false, false, false, false, false, false, false, false, false, false, false, false, false, false, false] rfl rfl (by kernel_rfl) (fun _ _ _ h => h) (Or.inl ⟨by rfl, ?_⟩) ?_ ?_
          rotate_left
          · intro w'
            go_simp
            with_reducible rfl
          rotate_left
          · simp only [Act.put, List.setIfInBounds_toArray, List.set_cons_zero, List.set_cons_succ, i64_w, i32_w]
            rfl
          refine pure_ (i := 8) (N := some 107) (v := ?_) (a' := ?_) #[true, false, true, false, false, false, true, false, true, false, false, false, false, false, false, false, false, false, false, false, false, false, false, false, false, false, false, false, false] rfl rfl (by kernel_rfl) (fun _ _ _ h => h) (Or.inl ⟨by rfl, ?_⟩) ?_ ?_
          rotate_left
          · intro w'
            go_simp
            with_reducible rfl
          rotate_left
          · simp only [Act.put, List.setIfInBounds_toArray, List.set_cons_zero, List.set_cons_succ, i64_w, i32_w]
            rfl
          refine take_ (i := 1) (N := some 100) (v := ?_) (a' := ?_) #[true, true, true, false, false, false, true, false, true, false, false, false, false, false, false, false, false, false, false, false, false, false, false, false, false, false, false, false, false] rfl rfl (by kernel_rfl) (fun _ _ _ h => h) (Or.inl ⟨by rfl, ?_⟩) hHeld ?_ ?_
          rotate_left
          · rintro w' ⟨s0, s1, s2, s3, s4, s5, s6, s7, s8, s9, s10, s11⟩
            go_simp
            with_reducible rfl
          rotate_left
          · simp only [Act.put, List.setIfInBounds_toArray, List.set_cons_zero, List.set_cons_succ, i64_w, i32_w]
            rfl
          refine pure_ (i := 3) (N := some 102) (v := ?_) (a' := ?_) #[true, true, true, true, false, false, true, false, true, false, false, false, false, false, false, false, false, false, false, false, false, false, false, false, false, false, false, false, false] rfl rfl (by kernel_rfl) (fun _ _ _ h => h) (Or.inl ⟨by rfl, ?_⟩) ?_ ?_
          rotate_left
          · intro w'
            go_simp
            with_reducible rfl
          rotate_left
          · simp only [Act.put, List.setIfInBounds_toArray, List.set_cons_zero, List.set_cons_succ, i64_w, i32_w]
            rfl
          refine pure_ (i := 4) (N := some 103) (v := ?_) (a' := ?_) #[true, true, true, true, true, false, true, false, true, false, false, false, false, false, false, false, false, false, false, false, false, false, false, false, false, false, false, false, false] rfl rfl (by kernel_rfl) (fun _ _ _ h => h) (Or.inl ⟨by rfl, ?_⟩) ?_ ?_
          rotate_left
          · intro w'
            go_simp
            with_reducible rfl
          rotate_left
          · simp only [Act.put, List.setIfInBounds_toArray, List.set_cons_zero, List.set_cons_succ, i64_w, i32_w]
            rfl
          refine take_ (i := 5) (N := some 104) (v := ?_) (a' := ?_) #[true, true, true, true, true, true, true, false, true, false, false, false, false, false, false, false, false, false, false, false, false, false, false, false, false, false, false, false, false] rfl rfl (by kernel_rfl) (fun _ _ _ h => h) (Or.inl ⟨by rfl, ?_⟩) hHeld ?_ ?_
          rotate_left
          · rintro w' ⟨s0, s1, s2, s3, s4, s5, s6, s7, s8, s9, s10, s11⟩
            go_simp
            with_reducible rfl
          rotate_left
          · simp only [Act.put, List.setIfInBounds_toArray, List.set_cons_zero, List.set_cons_succ, i64_w, i32_w]
            rfl
          refine take_ (i := 7) (N := some 106) (v := ?_) (a' := ?_) #[true, true, true, true, true, true, true, true, true, false, false, false, false, false, false, false, false, false, false, false, false, false, false, false, false, false, false, false, false] rfl rfl (by kernel_rfl) (fun _ _ _ h => h) (Or.inl ⟨by rfl, ?_⟩) hHeld ?_ ?_
          rotate_left
          · rintro w' ⟨s0, s1, s2, s3, s4, s5, s6, s7, s8, s9, s10, s11⟩
            go_simp
            with_reducible rfl
          rotate_left
          · simp only [Act.put, List.setIfInBounds_toArray, List.set_cons_zero, List.set_cons_succ, i64_w, i32_w]
            rfl
          refine pure_ (i := 9) (N := some 108) (v := ?_) (a' := ?_) #[true, true, true, true, true, true, true, true, true, true, false, false, false, false, false, false, false, false, false, false, false, false, false, false, false, false, false, false, false] rfl rfl (by kernel_rfl) (fun _ _ _ h => h) (Or.inl ⟨by rfl, ?_⟩) ?_ ?_
          rotate_left
          · intro w'
            go_simp
            with_reducible rfl
          rotate_left
          · simp only [Act.put, List.setIfInBounds_toArray, List.set_cons_zero, List.set_cons_succ, i64_w, i32_w]
            rfl
          refine pure_ (i := 10) (N := some 109) (v := ?_) (a' := ?_) #[true, true, true, true, true, true, true, true, true, true, true, false, false, false, false, false, false, false, false, false, false, false, false, false, false, false, false, false, false] rfl rfl (by kernel_rfl) (fun _ _ _ h => h) (Or.inl ⟨by rfl, ?_⟩) ?_ ?_
          rotate_left
          · intro w'
            go_simp
            with_reducible rfl
          rotate_left
          · simp only [Act.put, List.setIfInBounds_toArray, List.set_cons_zero, List.set_cons_succ, i64_w, i32_w]
            rfl
          refine take_ (i := 11) (N := some 110) (v := ?_) (a' := ?_) #[true, true, true, true, true, true, true, true, true, true, true, true, false, false, false, false, false, false, false, false, false, false, false, false, false, false, false, false, false] rfl rfl (by kernel_rfl) (fun _ _ _ h => h) (Or.inl ⟨by rfl, ?_⟩) hHeld ?_ ?_
          rotate_left
          · rintro w' ⟨s0, s1, s2, s3, s4, s5, s6, s7, s8, s9, s10, s11⟩
            go_simp
            with_reducible rfl
          rotate_left
          · simp only [Act.put, List.setIfInBounds_toArray, List.set_cons_zero, List.set_cons_succ, i64_w, i32_w]
            rfl
          refine pure_ (i := 12) (N := some 111) (v := ?_) (a' := ?_) #[true, true, true, true, true, true, true, true, true, true, true, true, true, false, false, false, false, false, false, false, false, false, false, false, false, false, false, false, false] rfl rfl (by kernel_rfl) (fun _ _ _ h => h) (Or.inl ⟨by rfl, ?_⟩) ?_ ?_
          rotate_left
          · intro w'
            go_simp
            with_reducible rfl
          rotate_left
          · simp only [Act.put, List.setIfInBounds_toArray, List.set_cons_zero, List.set_cons_succ, i64_w, i32_w]
            rfl
          refine pure_ (i := 13) (N := some 112) (v := ?_) (a' := ?_) #[true, true, true, true, true, true, true, true, true, true, true, true, true, true, false, false, false, false, false, false, false, false, false, false, false, false, false, false, false] rfl rfl (by kernel_rfl) (fun _ _ _ h => h) (Or.inl ⟨by rfl, ?_⟩) ?_ ?_
          rotate_left
          · intro w'
            go_simp
            with_reducible rfl
          rotate_left
          · simp only [Act.put, List.setIfInBounds_toArray, List.set_cons_zero, List.set_cons_succ, i64_w, i32_w]
            rfl
          refine pure_ (i := 14) (N := some 113) (v := ?_) (a' := ?_) #[true, true, true, true, true, true, true, true, true, true, true, true, true, true, true, false, false, false, false, false, false, false, false, false, false, false, false, false, false] rfl rfl (by kernel_rfl) (fun _ _ _ h => h) (Or.inl ⟨by rfl, ?_⟩) ?_ ?_
          rotate_left
          · intro w'
            go_simp
            with_reducible rfl
          rotate_left
          · simp only [Act.put, List.setIfInBounds_toArray, List.set_cons_zero, List.set_cons_succ, i64_w, i32_w]
            rfl
          refine pure_ (i := 16) (N := some 115) (v := ?_) (a' := ?_) #[true, true, true, true, true, true, true, true, true, true, true, true, true, true, true, false, true, false, false, false, false, false, false, false, false, false, false, false, false] rfl rfl (by kernel_rfl) (fun _ _ _ h => h) (Or.inl ⟨by rfl, ?_⟩) ?_ ?_
          rotate_left
          · intro w'
            go_simp
            with_reducible rfl
          rotate_left
          · simp only [Act.put, List.setIfInBounds_toArray, List.set_cons_zero, List.set_cons_succ, i64_w, i32_w]
            rfl
          refine pure_ (i := 20) (N := some 119) (v := ?_) (a' := ?_) #[true, true, true, true, true, true, true, true, true, true, true, true, true, true, true, false, true, false, false, false, true, false, false, false, false, false, false, false, false] rfl rfl (by kernel_rfl) (fun _ _ _ h => h) (Or.inl ⟨by rfl, ?_⟩) ?_ ?_
          rotate_left
          · intro w'
            go_simp
            with_reducible rfl
          rotate_left
          · simp only [Act.put, List.setIfInBounds_toArray, List.set_cons_zero, List.set_cons_succ, i64_w, i32_w]
            rfl
          refine pure_ (i := 22) (N := some 121) (v := ?_) (a' := ?_) #[true, true, true, true, true, true, true, true, true, true, true, true, true, true, true, false, true, false, false, false, true, false, true, false, false, false, false, false, false] rfl rfl (by kernel_rfl) (fun _ _ _ h => h) (Or.inl ⟨by rfl, ?_⟩) ?_ ?_
          rotate_left
          · intro w'
            go_simp
            with_reducible rfl
          rotate_left
          · simp only [Act.put, List.setIfInBounds_toArray, List.set_cons_zero, List.set_cons_succ, i64_w, i32_w]
            rfl
          refine take_ (i := 15) (N := some 114) (v := ?_) (a' := ?_) #[true, true, true, true, true, true, true, true, true, true, true, true, true, true, true, true, true, false, false, false, true, false, true, false, false, false, false, false, false] rfl rfl (by kernel_rfl) (fun _ _ _ h => h) (Or.inl ⟨by rfl, ?_⟩) hHeld ?_ ?_
          rotate_left
          · rintro w' ⟨s0, s1, s2, s3, s4, s5, s6, s7, s8, s9, s10, s11⟩
            go_simp
            with_reducible rfl
          rotate_left
          · simp only [Act.put, List.setIfInBounds_toArray, List.set_cons_zero, List.set_cons_succ, i64_w, i32_w]
            rfl
          refine pure_ (i := 17) (N := some 116) (v := ?_) (a' := ?_) #[true, true, true, true, true, true, true, true, true, true, true, true, true, true, true, true, true, true, false, false, true, false, true, false, false, false, false, false, false] rfl rfl (by kernel_rfl) (fun _ _ _ h => h) (Or.inl ⟨by rfl, ?_⟩) ?_ ?_
          rotate_left
          · intro w'
            go_simp
            with_reducible rfl
          rotate_left
          · simp only [Act.put, List.setIfInBounds_toArray, List.set_cons_zero, List.set_cons_succ, i64_w, i32_w]
            rfl
          refine pure_ (i := 18) (N := some 117) (v := ?_) (a' := ?_) #[true, true, true, true, true, true, true, true, true, true, true, true, true, true, true, true, true, true, true, false, true, false, true, false, false, false, false, false, false] rfl rfl (by kernel_rfl) (fun _ _ _ h => h) (Or.inl ⟨by rfl, ?_⟩) ?_ ?_
          rotate_left
          · intro w'
            go_simp
            with_reducible rfl
          rotate_left
          · simp only [Act.put, List.setIfInBounds_toArray, List.set_cons_zero, List.set_cons_succ, i64_w, i32_w]
            rfl
          refine take_ (i := 19) (N := some 118) (v := ?_) (a' := ?_) #[true, true, true, true, true, true, true, true, true, true, true, true, true, true, true, true, true, true, true, true, true, false, true, false, false, false, false, false, false] rfl rfl (by kernel_rfl) (fun _ _ _ h => h) (Or.inl ⟨by rfl, ?_⟩) hHeld ?_ ?_
          rotate_left
          · rintro w' ⟨s0, s1, s2, s3, s4, s5, s6, s7, s8, s9, s10, s11⟩
            go_simp
            with_reducible rfl
          rotate_left
          · simp only [Act.put, List.setIfInBounds_toArray, List.set_cons_zero, List.set_cons_succ, i64_w, i32_w]
            rfl
          refine take_ (i := 21) (N := some 120) (v := ?_) (a' := ?_) #[true, true, true, true, true, true, true, true, true, true, true, true, true, true, true, true, true, true, true, true, true, true, true, false, false, false, false, false, false] rfl rfl (by kernel_rfl) (fun _ _ _ h => h) (Or.inl ⟨by rfl, ?_⟩) hHeld ?_ ?_
          rotate_left
          · rintro w' ⟨s0, s1, s2, s3, s4, s5, s6, s7, s8, s9, s10, s11⟩
            go_simp
            with_reducible rfl
          rotate_left
          · simp only [Act.put, List.setIfInBounds_toArray, List.set_cons_zero, List.set_cons_succ, i64_w, i32_w]
            rfl
          refine pure_ (i := 23) (N := some 122) (v := ?_) (a' := ?_) #[true, true, true, true, true, true, true, true, true, true, true, true, true, true, true, true, true, true, true, true, true, true, true, true, false, false, false, false, false] rfl rfl (by kernel_rfl) (fun _ _ _ h => h) (Or.inl ⟨by rfl, ?_⟩) ?_ ?_
          rotate_left
          · intro w'
            go_simp
            with_reducible rfl
          rotate_left
          · simp only [Act.put, List.setIfInBounds_toArray, List.set_cons_zero, List.set_cons_succ, i64_w, i32_w]
            rfl
          refine pure_ (i := 24) (N := some 123) (v := ?_) (a' := ?_) #[true, true, true, true, true, true, true, true, true, true, true, true, true, true, true, true, true, true, true, true, true, true, true, true, true, false, false, false, false] rfl rfl (by kernel_rfl) (fun _ _ _ h => h) (Or.inl ⟨by rfl, ?_⟩) ?_ ?_
          rotate_left
          · intro w'
            go_simp
            with_reducible rfl
          rotate_left
          · simp only [Act.put, List.setIfInBounds_toArray, List.set_cons_zero, List.set_cons_succ, i64_w, i32_w]
            rfl
          refine take_ (i := 25) (N := some 124) (v := ?_) (a' := ?_) #[true, true, true, true, true, true, true, true, true, true, true, true, true, true, true, true, true, true, true, true, true, true, true, true, true, true, false, false, false] rfl rfl (by kernel_rfl) (fun _ _ _ h => h) (Or.inl ⟨by rfl, ?_⟩) hHeld ?_ ?_
          rotate_left
          · rintro w' ⟨s0, s1, s2, s3, s4, s5, s6, s7, s8, s9, s10, s11⟩
            go_simp
            with_reducible rfl
          rotate_left
          · simp only [Act.put, List.setIfInBounds_toArray, List.set_cons_zero, List.set_cons_succ, i64_w, i32_w]
            rfl
          refine last_ (i := 26) (N := some 125) #[true, true, true, true, true, true, true, true, true, true, true, true, true, true, true, true, true, true, true, true, true, true, true, true, true, true, true, false, false] rfl rfl (by kernel_rfl) (by decide) (fun K hK => ?_)
          refine goesS_ Tryd.func33 (by kernel_rfl) rfl #[.agg #[.int .i64 x0, .string x1, .string x2, .slice A3 m3 k3], .agg #[.int .i64 y0, .string y1, .string y2, .slice B3 p3 b3]] (by rfl) rfl rfl (by simp only [List.map_toArray, List.map_cons, List.map_nil]; rfl) ?_
          refine HSC.out.mono ?_
          rintro e w5 ⟨rfl, hb⟩
          refine ⟨_, rfl, ?_⟩
          have HB5 := Aside0.mk hb
          clear hb
          refine hK.out _ _ ?_
          clear hK K
          refine norm_ (a' := ?_) ?_ ?_
          rotate_left
          · show Act.put _ (some 125) _ = _
            simp only [Act.put, List.setIfInBounds_toArray, List.set_cons_zero, List.set_cons_succ, i64_w, i32_w]
            rfl
          refine pure_ (i := 27) (N := some 126) (v := ?_) (a' := ?_) #[true, true, true, true, true, true, true, true, true, true, true, true, true, true, true, true, true, true, true, true, true, true, true, true, true, true, true, true, false] rfl rfl (by kernel_rfl) (fun _ _ _ h => h) (Or.inl ⟨by rfl, ?_⟩) ?_ ?_
          rotate_left
          · intro w'
            go_simp
            with_reducible rfl
          rotate_left
          · simp only [Act.put, List.setIfInBounds_toArray, List.set_cons_zero, List.set_cons_succ, i64_w, i32_w]
            rfl
          refine pure_ (i := 28) (N := some 127) (v := ?_) (a' := ?_) #[true, true, true, true, true, true, true, true, true, true, true, true, true, true, true, true, true, true, true, true, true, true, true, true, true, true, true, true, true] rfl rfl (by kernel_rfl) (fun _ _ _ h => h) (Or.inl ⟨by rfl, ?_⟩) ?_ ?_
          rotate_left
          · intro w'
            go_simp
            with_reducible rfl
          rotate_left
          · simp only [Act.put, List.setIfInBounds_toArray, List.set_cons_zero, List.set_cons_succ, i64_w, i32_w]
            rfl
          refine done_ (by kernel_rfl) ?_

          go_wp2
          go_roundg (n03 - (i + 1))
          case measure => have := HIG.out; omega
          case rel => exact ⟨i + 1, by simp, ⟨by omega⟩, ⟨Nat.le_refl _⟩, ⟨(below_drew HBR.out).trans (HB5.out.mono HBR.out.size)⟩⟩
        · have l1 : decide (i < n03) = false := decide_eq_false hlt
          have l2 : decide ((i : Int) < (n03 : Int)) = false := decide_eq_false (by omega)
          clear hlt
          go_wp2
          go_ret
          exact ⟨rfl, HBW.out⟩
end Go.Proofs.YtngedmioeodmfaaDoor.Ps
namespace Go.Proofs.YtngedmioeodmfaaDoor.Pr
open Go.RowKit Go.Proofs.YtngedmioeodmfaaDoorW.PrintWords Go.Proofs.YtngedmioeodmfaaDoorW.PrintLast Go.Proofs.YtngedmioeodmfaaDoorW.PrintMore
attribute [local go_sem] max2_int min2_int max_two min_two max_three min_three max_four min_four   -- for this text's walks alone
set_option linter.unusedVariables false
set_option linter.unusedSimpArgs false
def parapetref19_SamePolicy.f (k : Nat) (l0_0 : List ByteArray) (l0_1 : List (S44)) (a0_2 : ByteArray) (l0_3 : List (S51)) (a0_4 : Bool) (l1_0 : List ByteArray) (l1_1 : List (S44)) (a1_2 : ByteArray) (l1_3 : List (S51)) (a1_4 : Bool) : Option (Bool) :=
  if Go.Proofs.YtngedmioeodmfaaDoor.Ps.alike k l0_0 l0_1 a0_2 l0_3 a0_4 l1_0 l1_1 a1_2 l1_3 a1_4 = true then some true else none
theorem parapetref19_SamePolicy.mono : ∀ a0 a1 a2 a3 a4 a5 a6 a7 a8 a9 k, LeO (parapetref19_SamePolicy.f k a0 a1 a2 a3 a4 a5 a6 a7 a8 a9) (parapetref19_SamePolicy.f (k + 1) a0 a1 a2 a3 a4 a5 a6 a7 a8 a9) := by
  intro a0 a1 a2 a3 a4 a5 a6 a7 a8 a9 k r h
  unfold parapetref19_SamePolicy.f at h ⊢
  by_cases hk : Go.Proofs.YtngedmioeodmfaaDoor.Ps.alike k a0 a1 a2 a3 a4 a5 a6 a7 a8 a9 = true
  · rw [if_pos hk] at h
    rw [if_pos (Go.Proofs.YtngedmioeodmfaaDoor.Ps.alike_mono hk)]
    exact h
  · rw [if_neg hk] at h; cases h
theorem parapetref19_SamePolicy.calls (k : Nat) (A0_0 : Option Addr) (c0_0 : Nat) (l0_0 : List ByteArray) (A0_1 : Option Addr) (c0_1 : Nat) (l0_1 : List (S44)) (a0_2 : ByteArray) (A0_3 : Option Addr) (c0_3 : Nat) (l0_3 : List (S51)) (a0_4 : Bool)
    (A1_0 : Option Addr) (c1_0 : Nat) (l1_0 : List ByteArray) (A1_1 : Option Addr) (c1_1 : Nat) (l1_1 : List (S44)) (a1_2 : ByteArray) (A1_3 : Option Addr) (c1_3 : Nat) (l1_3 : List (S51)) (a1_4 : Bool) (r : Bool) (w : World)
    (hr0_0 : Kd.C Kd.string w A0_0 l0_0.length l0_0) (hc0_0 : l0_0.length ≤ c0_0) (hr0_1 : Kd.C k44 w A0_1 l0_1.length l0_1) (hc0_1 : l0_1.length ≤ c0_1) (hr0_3 : Kd.C k51 w A0_3 l0_3.length l0_3) (hc0_3 : l0_3.length ≤ c0_3)
    (hr1_0 : Kd.C Kd.string w A1_0 l1_0.length l1_0) (hc1_0 : l1_0.length ≤ c1_0) (hr1_1 : Kd.C k44 w A1_1 l1_1.length l1_1) (hc1_1 : l1_1.length ≤ c1_1) (hr1_3 : Kd.C k51 w A1_3 l1_3.length l1_3) (hc1_3 : l1_3.length ≤ c1_3)
    (h : parapetref19_SamePolicy.f k l0_0 l0_1 a0_2 l0_3 a0_4 l1_0 l1_1 a1_2 l1_3 a1_4 = some r) :
    Calls Tryd.prog 14 #[.agg #[.slice A0_0 l0_0.length c0_0, .slice A0_1 l0_1.length c0_1, .string a0_2, .slice A0_3 l0_3.length c0_3, .bool a0_4], .agg #[.slice A1_0 l1_0.length c1_0, .slice A1_1 l1_1.length c1_1, .string a1_2, .slice A1_3 l1_3.length c1_3, .bool a1_4]] w fun e w' => e = .returned (.bool r) ∧ Below w.heap.size w w' := by
  unfold parapetref19_SamePolicy.f at h
  by_cases hk : Go.Proofs.YtngedmioeodmfaaDoor.Ps.alike k l0_0 l0_1 a0_2 l0_3 a0_4 l1_0 l1_1 a1_2 l1_3 a1_4 = true
  · rw [if_pos hk] at h
    obtain rfl := Option.some.inj h
    have hk2 := Go.Proofs.YtngedmioeodmfaaDoor.Ps.alike_iff.1 hk
    exact Go.Proofs.YtngedmioeodmfaaDoor.Ps.same_calls k A0_0 c0_0 l0_0 A0_1 c0_1 l0_1 a0_2 A0_3 c0_3 l0_3 a0_4 A1_0 c1_0 l1_0 A1_1 c1_1 l1_1 a1_2 A1_3 c1_3 l1_3 a1_4 w hr0_0 hc0_0 hr0_1 hc0_1 hr0_3 hc0_3 hr1_0 hc1_0 hr1_1 hc1_1 hr1_3 hc1_3 hk2.1 hk2.2.1 hk2.2.2
  · rw [if_neg hk] at h; cases h
end Go.Proofs.YtngedmioeodmfaaDoor.Pr
namespace Go.Proofs.YtngedmioeodmfaaDoor.Pu
open Go.RowKit Go.Proofs.YtngedmioeodmfaaDoor.Pr Go.Proofs.YtngedmioeodmfaaDoorW.PrintWords Go.Proofs.YtngedmioeodmfaaDoor.Lx
open Go.Proofs.YtngedmioeodmfaaDoor.Ps hiding Tk
set_option linter.unusedVariables false
set_option linter.unusedSimpArgs false
mutual
def sizeC : S49 → Nat
  | ⟨_, _, l⟩ => 1 + sizeL l
def sizeL : List (S49) → Nat
  | [] => 0
  | c :: l => sizeC c + sizeL l
end
theorem sizeC_eq (c : Cd) : sizeC c = 1 + sizeL c.f2 := by cases c; rw [sizeC]
theorem sizeL_app : ∀ a b : List Cd, sizeL (a ++ b) = sizeL a + sizeL b
  | [], b => by rw [List.nil_append, sizeL]; omega
  | c :: a, b => by rw [List.cons_append, sizeL, sizeL, sizeL_app a b]; omega
theorem sizeL_len : ∀ l : List Cd, l.length ≤ sizeL l
  | [] => Nat.zero_le _
  | c :: l => by rw [sizeL, List.length_cons, sizeC_eq]; have := sizeL_len l; omega
theorem size_mem : ∀ {l : List Cd} {c : Cd}, c ∈ l → sizeC c ≤ sizeL l
  | d :: l, c, h => by
    rw [sizeL]
    rcases List.mem_cons.1 h with rfl | h
    · omega
    · have := size_mem h; omega
section
variable {T : List Tk} {e : Int}
def Sized (f : Nat → Res Cd) : Prop := ∀ p c q, f p = .ok (c, q) → sizeC c + p ≤ q
theorem kidsL_size {one : Nat → Res Cd} (h : Sized one) {w : ByteArray} : ∀ (f : Nat) (acc : List Cd) (p : Nat) (l : List Cd) (q : Nat), kidsL T e one w f acc p = .ok (l, q) → sizeL l + p + l.length ≤ sizeL acc + q + acc.length
  | 0, acc, p, l, q, hr => by cases hr; omega
  | f + 1, acc, p, l, q, hr => by
    rw [kidsL] at hr
    split at hr
    · cases h1 : one (p + 1) with
      | error x => rw [h1] at hr; cases hr
      | ok x =>
        obtain ⟨c, q1⟩ := x
        rw [h1] at hr
        have := h _ _ _ h1
        have := kidsL_size h f _ _ _ _ hr
        rw [sizeL_app, List.length_append, List.length_singleton, sizeL, sizeL] at this
        omega
    · cases hr; omega
theorem kidsL_more {one : Nat → Res Cd} {w : ByteArray} : ∀ {f : Nat} {acc : List Cd} {p : Nat} {l : List Cd} {q : Nat}, kidsL T e one w f acc p = .ok (l, q) → acc.length ≤ l.length
  | 0, acc, p, l, q, hr => by cases hr; exact Nat.le_refl _
  | f + 1, acc, p, l, q, hr => by
    rw [kidsL] at hr
    split at hr
    · cases h1 : one (p + 1) with
      | error x => rw [h1] at hr; cases hr
      | ok x =>
        obtain ⟨c, q1⟩ := x
        rw [h1] at hr
        have := kidsL_more hr
        rw [List.length_append] at this
        omega
    · cases hr; exact Nat.le_refl _
theorem kidsP_size {one : Nat → Res Cd} (h : Sized one) {w : ByteArray} {kind : Int} : Sized (kidsP T e kind w one) := by
  intro p c q hr
  rw [kidsP] at hr
  cases h1 : one p with
  | error x => rw [h1] at hr; cases hr
  | ok x =>
    obtain ⟨c1, q1⟩ := x
    rw [h1] at hr
    have hs := h _ _ _ h1
    simp only at hr
    cases hk : kidsL T e one w (T.length + 1 - q1) [c1] q1 with
    | error x => rw [hk] at hr; cases hr
    | ok y =>
      obtain ⟨l, q2⟩ := y
      rw [hk] at hr
      have hl := kidsL_size h _ _ _ _ _ hk
      simp only [sizeL, List.length_singleton] at hl
      simp only at hr
      split at hr
      · rename_i h1l
        have h3 := Except.ok.inj hr; simp only [Prod.mk.injEq] at h3
        obtain ⟨x, rfl⟩ : ∃ x, l = [x] := List.length_eq_one_iff.1 h1l
        rw [← h3.1, ← h3.2]
        simp only [sizeL, List.length_singleton] at hl
        show sizeC x + p ≤ q2
        omega
      · rename_i h1l
        have h3 := Except.ok.inj hr; simp only [Prod.mk.injEq] at h3
        rw [← h3.1, ← h3.2, cond0, sizeC]
        have hge : 1 ≤ l.length := by
          have := kidsL_more hk
          simpa using this
        omega
theorem atomP_size : Sized (atomP T e) := by
  intro p c q h
  have hg := atomP_gt h
  have : sizeC c = 1 := by
    rw [atomP] at h
    cases h1 : wordP T e atomWords p with
    | error x => rw [h1] at h; cases h
    | ok x =>
      obtain ⟨w, q1⟩ := x
      rw [h1] at h
      simp only at h
      unfold atomK at h
      have hT : ∀ {f : ByteArray → ByteArray} {r : Res ByteArray}, atomT w f r = .ok (c, q) → sizeC c = 1 := by
        intro f r hr
        cases r with
        | error x => cases hr
        | ok x => obtain ⟨t, q3⟩ := x; simp only [atomT] at hr; have h3 := Except.ok.inj hr; simp only [Prod.mk.injEq] at h3; rw [← h3.1, sizeC, sizeL]
      split at h
      · have h3 := Except.ok.inj h; simp only [Prod.mk.injEq] at h3; rw [← h3.1, cond0, sizeC, sizeL]
      split at h
      · have h3 := Except.ok.inj h; simp only [Prod.mk.injEq] at h3; rw [← h3.1, cond0, sizeC, sizeL]
      split at h
      · exact hT h
      split at h
      · exact hT h
      split at h
      · exact hT h
      · have h3 := Except.ok.inj h; simp only [Prod.mk.injEq] at h3; rw [← h3.1, sizeC, sizeL]
  omega
theorem notN_size : ∀ n, Sized (notN T e n)
  | 0 => by
    intro p c q h
    rw [notN] at h
    split at h
    · cases h
    split at h
    · cases h
    · exact atomP_size _ _ _ h
  | n + 1 => by
    intro p c q h
    rw [notN] at h
    split at h
    · obtain ⟨c1, q1, h1, h2⟩ := wrapNot_ok h
      simp only [Prod.mk.injEq] at h2
      have := notN_size n _ _ _ h1
      rw [h2.1, h2.2, cond0, sizeC, sizeL, sizeL]; omega
    split at h
    · obtain ⟨c1, q1, h1, h2⟩ := closeP_ok h
      have := kidsP_size (kidsP_size (notN_size n)) _ _ _ h1
      cases ht : takeP T e 4 q1 with
      | error x => rw [ht] at h2; cases h2
      | ok x =>
        obtain ⟨t, q2⟩ := x
        have := takeP_mono ht
        rw [ht] at h2
        simp only [closeK] at h2
        have h4 := Except.ok.inj h2; simp only [Prod.mk.injEq] at h4
        rw [← h4.1]; omega
    · exact atomP_size _ _ _ h
theorem condP_size : Sized (condP T e) := kidsP_size (kidsP_size (notN_size 30))
end
theorem texts_l (l : List ByteArray) (hl : l.length ≤ 1000000) : ∀ (m i : Nat), i + m = l.length → Ev (fun k => parapetref19_SameTexts.l0 k l l (i : Int)) true
  | 0, i, h => by
    refine Ev.step (f := fun _ => some true) (fun k => by rw [parapetref19_SameTexts.l0, if_neg (by omega)]) (Ev.const fun _ => rfl)
  | m + 1, i, h => by
    refine Ev.step (fun k => ?_) (texts_l l hl m (i + 1) (by omega))
    rw [parapetref19_SameTexts.l0, if_pos (by omega), if_pos (by omega), if_pos (by omega), if_pos rfl, show wrap64 ((i : Int) + 1) = ((i + 1 : Nat) : Int) by unfold wrap64; omega]
theorem texts_same (l : List ByteArray) (hl : l.length ≤ 1000000) : Ev (fun k => parapetref19_SameTexts.f k l l) true := by
  unfold parapetref19_SameTexts.f
  simp only [if_true]
  exact texts_l l hl l.length 0 (by omega)
def sameC (k : Nat) (c : Cd) : Option Bool := parapetref19_SameCond.f k c.f0 c.f1.f0 c.f1.f1 c.f2 c.f0 c.f1.f0 c.f1.f1 c.f2
theorem rd_mem {l : List Cd} {i : Nat} (h : i < l.length) : rd_T49 l (i : Int) ∈ l := by
  have : rd_T49 l (i : Int) = l[i] := by simp [rd_T49, h]
  rw [this]; exact List.getElem_mem h
theorem cond_same : ∀ (n : Nat) (c : Cd), sizeC c ≤ n → sizeC c ≤ 1000000 → Ev (fun k => sameC k c) true
  | 0, c, h, _ => by rw [sizeC_eq] at h; omega
  | n + 1, c, h, hb => by
    rw [sizeC_eq] at h hb
    have hlen := sizeL_len c.f2
    have loop : ∀ (m i : Nat), i + m = c.f2.length → Ev (fun k => parapetref19_SameCond.l0 k i c.f0 c.f1.f0 c.f1.f1 c.f2 c.f0 c.f1.f0 c.f1.f1 c.f2) true := by
      intro m
      induction m with
      | zero =>
        intro i hi
        refine Ev.step (f := fun _ => some true) (fun k => by rw [parapetref19_SameCond.l0, if_neg (by omega)]) (Ev.const fun _ => rfl)
      | succ m ih =>
        intro i hi
        have hm := size_mem (rd_mem (l := c.f2) (i := i) (by omega))
        refine Ev.step (fun k => ?_) (Ev.bind (cond_same n (rd_T49 c.f2 (i : Int)) (by omega) (by omega)) (f := fun k t => if t = true then parapetref19_SameCond.l0 k ((i + 1 : Nat) : Int) c.f0 c.f1.f0 c.f1.f1 c.f2 c.f0 c.f1.f0 c.f1.f1 c.f2 else some false) ?_)
        · rw [parapetref19_SameCond.l0, if_pos (by omega), if_pos (by omega), if_pos (by omega), show wrap64 ((i : Int) + 1) = ((i + 1 : Nat) : Int) by unfold wrap64; omega]
          rfl
        · simp only [if_true]; exact ih (i + 1) (by omega)
    unfold sameC
    refine Ev.step (f := fun k => parapetref19_SameCond.j0 k false c.f0 c.f1.f0 c.f1.f1 c.f2 c.f0 c.f1.f0 c.f1.f1 c.f2) (fun k => ?_) ?_
    · rw [parapetref19_SameCond.f, if_pos rfl]
      simp
    · exact Ev.step (fun k => by rw [parapetref19_SameCond.j0, if_neg (by simp)]; rfl) (loop c.f2.length 0 (by omega))
/-- What was read is of a size that may be. -/
structure SmallP (st : Pst) : Prop where
  c : st.csp.length ≤ 1000000
  s : st.shares.length ≤ 1000000
  r : st.rules.length ≤ 1000000
  sm : ∀ h ∈ st.shares, h.f1.length ≤ 1000000 ∧ h.f2.length ≤ 1000000
  rc : ∀ x ∈ st.rules, sizeC x.f1 ≤ 1000000
theorem Ev.all {β : Type} (l : List β) (g : β → Nat → Option Bool) (h : ∀ x ∈ l, Ev (g x) true) : ∃ K, ∀ k, K ≤ k → ∀ x ∈ l, g x k = some true := by
  induction l with
  | nil => exact ⟨0, fun k _ x hx => by cases hx⟩
  | cons a l ih =>
    obtain ⟨K1, h1⟩ := h a (List.mem_cons_self ..)
    obtain ⟨K2, h2⟩ := ih (fun x hx => h x (List.mem_cons_of_mem _ hx))
    refine ⟨max K1 K2, fun k hk x hx => ?_⟩
    rcases List.mem_cons.1 hx with rfl | hx
    · exact h1 k (by omega)
    · exact h2 k (by omega) x hx
theorem policy_same {st : Pst} (h : SmallP st) : Ev (fun k => parapetref19_SamePolicy.f k st.csp st.shares st.mixed st.rules st.allow st.csp st.shares st.mixed st.rules st.allow) true := by
  obtain ⟨K1, h1⟩ := texts_same st.csp h.c
  obtain ⟨K2, h2⟩ := Ev.all st.shares (fun x k => parapetref19_SameTexts.f k x.f1 x.f1) (fun x hx => texts_same x.f1 (h.sm x hx).1)
  obtain ⟨K3, h3⟩ := Ev.all st.shares (fun x k => parapetref19_SameTexts.f k x.f2 x.f2) (fun x hx => texts_same x.f2 (h.sm x hx).2)
  obtain ⟨K4, h4⟩ := Ev.all st.rules (fun x k => sameC k x.f1) (fun x hx => cond_same _ x.f1 (Nat.le_refl _) (h.rc x hx))
  refine ⟨max (max K1 K2) (max K3 K4), fun k hk => ?_⟩
  show (if _ then _ else _) = _
  rw [if_pos]
  rw [alike_iff]
  refine ⟨h.s, h.r, h1 k (by omega), rfl, rfl, rfl, rfl, fun i hi => ?_, fun i hi => ?_⟩
  · have hm : rd_T44 st.shares (i : Int) ∈ st.shares := by
      have : rd_T44 st.shares (i : Int) = st.shares[i] := by simp [rd_T44, hi]
      rw [this]; exact List.getElem_mem hi
    simp only [shSame, Bool.and_eq_true, decide_eq_true_eq]
    exact ⟨trivial, trivial, h2 k (by omega) _ hm, h3 k (by omega) _ hm⟩
  · have hm : rd_T51 st.rules (i : Int) ∈ st.rules := by
      have : rd_T51 st.rules (i : Int) = st.rules[i] := by simp [rd_T51, hi]
      rw [this]; exact List.getElem_mem hi
    simp only [rlSame, Bool.and_eq_true, decide_eq_true_eq]
    exact ⟨trivial, h4 k (by omega) _ hm⟩
end Go.Proofs.YtngedmioeodmfaaDoor.Pu
namespace Go.Proofs.YtngedmioeodmfaaDoor.Pu
open Go.RowKit Go.Proofs.YtngedmioeodmfaaDoor.Pr Go.Proofs.YtngedmioeodmfaaDoorW.PrintWords Go.Proofs.YtngedmioeodmfaaDoorW.PrintLast Go.Proofs.YtngedmioeodmfaaDoorW.PrintMore Go.Proofs.YtngedmioeodmfaaDoor.Lx
open Go.Proofs.YtngedmioeodmfaaDoor.Ps hiding Tk
set_option linter.unusedVariables false
set_option linter.unusedSimpArgs false
/-- Texts with one between. -/
def joinB (l : List ByteArray) (sep : ByteArray) : ByteArray := ⟨(Go.Lib.join (l.map (·.data.toList)) sep.data.toList).toArray⟩
theorem joinB_one (x sep : ByteArray) : joinB [x] sep = x := by
  unfold joinB
  rw [List.map_cons, List.map_nil, Go.Lib.join_one, Go.Lib.mk_data]
theorem joinB_size (l : List ByteArray) (sep : ByteArray) : (joinB l sep).size = (Go.Lib.join (l.map (·.data.toList)) sep.data.toList).length := by
  simp [joinB, ByteArray.size]
theorem join_calls {v : Value} (l : List ByteArray) (sep : ByteArray) (w : World) {base : Nat} {ok : Nat → Prop} (hR : Kd.string.R 9 w base ok v l) (h0 : 0 < l.length) (hl : l.length ≤ 1000000) (hz : (joinB l sep).size ≤ 140737488355328) :
    Calls Tryd.prog 41 #[v, .string sep] w fun e w' => e = .returned (.string (joinB l sep)) ∧ Below w.heap.size w w' := by
  obtain ⟨g, cap, rfl, hb, hlt, _⟩ := Kd.R_form hR h0
  have hr := Kd.R_reads' hR
  refine Tryd.strings_Join g 0 cap l sep w (fun j x hx => ?_) hlt (by omega) hr.2.1 (by rw [← joinB_size]; exact hz)
  obtain ⟨hj, hjx⟩ := List.getElem?_eq_some_iff.1 hx
  obtain ⟨ad, hA, hc⟩ := (Kd.reads_of_C (d := ByteArray.empty) hr.2.2).at_ (j : Int) (by omega) (by omega)
  obtain rfl : (⟨g, 0, none⟩ : Addr) = ad := Option.some.inj hA
  have e1 : rdOf ByteArray.empty l (j : Int) = x := by simp [rdOf, hj, hjx]
  rw [e1] at hc
  simpa [add_plain] using hc
def quoteB (s : ByteArray) : ByteArray := strOfNums (quoteL (bytesOf s))
theorem quote_calls (s : ByteArray) (hs : s.size ≤ 1000000) (w : World) : Calls Tryd.prog 38 #[.string s] w fun e w' => e = .returned (.string (quoteB s)) ∧ Below w.heap.size w w' := by
  obtain ⟨k, hk⟩ := quote_ev s hs
  exact lex_Quote.calls k s _ w (hk k (Nat.le_refl _))
def bAnd : ByteArray := ⟨#[32, 97, 110, 100, 32]⟩
def bOr : ByteArray := ⟨#[32, 111, 114, 32]⟩
def bNot : ByteArray := ⟨#[110, 111, 116, 32]⟩
def bOpen : ByteArray := ⟨#[40]⟩
def bShut : ByteArray := ⟨#[41]⟩
def bSp : ByteArray := ⟨#[32]⟩
/-- A text in brackets, where its condition must be. -/
def amongB (k : Int) (t : ByteArray) : ByteArray := if k = 6 ∨ k = 5 then bOpen ++ t ++ bShut else t
mutual
/-- A condition's text. -/
def condT : S49 → ByteArray
  | ⟨k, a, l⟩ => if k = 1 then wTrue else if k = 2 then wFalse else if k = 4 then bNot ++ joinB (amongsT l) bAnd else if k = 5 then joinB (amongsT l) bAnd else if k = 6 then joinB (amongsT l) bOr
    else if a.f0 = wHost ∨ a.f0 = wPath then a.f0 ++ bSp ++ quoteB a.f1 else if a.f0 = wMethod ∨ a.f0 = wDest ∨ a.f0 = wScheme ∨ a.f0 = wHeader then a.f0 ++ bSp ++ a.f1 else a.f0
def amongsT : List (S49) → List ByteArray
  | [] => []
  | c :: l => amongB c.f0 (condT c) :: amongsT l
end
theorem amongsT_map (l : List Cd) : amongsT l = l.map fun c => amongB c.f0 (condT c) := by
  induction l with
  | nil => rfl
  | cons c l ih => rw [amongsT, ih]; rfl
theorem condT_eq (c : Cd) : condT c = if c.f0 = 1 then wTrue else if c.f0 = 2 then wFalse else if c.f0 = 4 then bNot ++ joinB (amongsT c.f2) bAnd else if c.f0 = 5 then joinB (amongsT c.f2) bAnd else if c.f0 = 6 then joinB (amongsT c.f2) bOr
    else if c.f1.f0 = wHost ∨ c.f1.f0 = wPath then c.f1.f0 ++ bSp ++ quoteB c.f1.f1 else if c.f1.f0 = wMethod ∨ c.f1.f0 = wDest ∨ c.f1.f0 = wScheme ∨ c.f1.f0 = wHeader then c.f1.f0 ++ bSp ++ c.f1.f1 else c.f1.f0 := by
  cases c; rw [condT]
end Go.Proofs.YtngedmioeodmfaaDoor.Pu
namespace Go.Proofs.YtngedmioeodmfaaDoor.Pu
open Go.RowKit Go.Proofs.YtngedmioeodmfaaDoor.Pr Go.Proofs.YtngedmioeodmfaaDoorW.PrintWords Go.Proofs.YtngedmioeodmfaaDoorW.PrintLast Go.Proofs.YtngedmioeodmfaaDoorW.PrintMore Go.Proofs.YtngedmioeodmfaaDoor.Lx
open Go.Proofs.YtngedmioeodmfaaDoor.Ps hiding Tk
set_option linter.unusedVariables false
set_option linter.unusedSimpArgs false
theorem info_str2 : (Tryd.prog.info? 9).map (fun i => (i.zero, i.size, i.bytes)) = some (some (.string ⟨#[]⟩), Kd.string.sz, 16) := by kernel_rfl
def cdV (c : Cd) (A : Option Addr) (c3 : Nat) : Value := .agg #[.int .i64 c.f0, .string c.f1.f0, .string c.f1.f1, .slice A c.f2.length c3]
/-- A condition's text is told right, wherever its kids lie. -/
def TxC (c : Cd) : Prop := ∀ (A : Option Addr) (c3 : Nat) (w : World), k49.C w A c.f2.length c.f2 → c.f2.length ≤ c3 → Calls Tryd.prog 40 #[cdV c A c3] w fun e w' => e = .returned (.string (condT c)) ∧ Below w.heap.size w w'
set_option maxHeartbeats 16000000
set_option maxRecDepth 100000
theorem among_calls (c : Cd) (hc : TxC c) (hz : (condT c).size ≤ 1000000000) (A : Option Addr) (c3 : Nat) (w : World) (hC : k49.C w A c.f2.length c.f2) (hl : c.f2.length ≤ c3) :
    Calls Tryd.prog 79 #[cdV c A c3] w fun e w' => e = .returned (.string (amongB c.f0 (condT c))) ∧ Below w.heap.size w w' := by
  obtain ⟨n, hn⟩ : ∃ n, n = c.f2.length := ⟨_, rfl⟩
  have h1 := hc A c3 (w.alloc (.cells #[.int .i64 c.f0, .string c.f1.f0, .string c.f1.f1, .slice A c.f2.length c3] 49)) (Kd.C_alloc hC _) hl
  unfold cdV at h1 ⊢
  rw [← hn] at h1 ⊢
  obtain ⟨k, hk⟩ : ∃ k, k = c.f0 := ⟨_, rfl⟩
  obtain ⟨t, ht⟩ : ∃ t, t = condT c := ⟨_, rfl⟩
  rw [← hk, ← ht] at h1 ⊢
  rw [← ht] at hz
  obtain ⟨a0, ha0⟩ : ∃ a, a = c.f1.f0 := ⟨_, rfl⟩
  obtain ⟨a1, ha1⟩ : ∃ a, a = c.f1.f1 := ⟨_, rfl⟩
  rw [← ha0, ← ha1] at h1 ⊢
  obtain ⟨w1, hw1⟩ : ∃ w1, w1 = w.alloc (.cells #[.int .i64 k, .string a0, .string a1, .slice A n c3] 49) := ⟨_, rfl⟩
  rw [← hw1] at h1
  have HX : Aside0 (w1.heap[w.heap.size]? = some (.cells #[.int .i64 k, .string a0, .string a1, .slice A n c3] 49 (0, 0))) := ⟨by rw [hw1]; exact blk_new _ _⟩
  have HB1 : Aside0 (Below w.heap.size w w1) := ⟨by rw [hw1]; exact below_alloc (Below.refl _ _) _⟩
  have H1 := Aside0.mk h1
  have HW1 := Aside0.mk hw1
  have t0 : w1.cell? ⟨w.heap.size, 0, none⟩ = some (.int .i64 k) := blk_cell HX.out 0
  clear h1 hw1 hn hk ht ha0 ha1 hC hl hc
  by_cases h6 : k = 6
  · have l6 : (k == (6 : Int)) = true := by simp [h6]
    have hs : amongB k t = bOpen ++ t ++ bShut := by rw [amongB, if_pos (.inl h6)]
    rw [hs]
    clear h6 hs
    go_enter Tryd.func79, Tryd.ntmps79
    go_upto_region 1 with (fail)
    rw [← HW1.out]
    go_wp2_with (refine wpList_load_row rfl 49 _ rfl w.heap.size rfl 49 #[.int .i64 k, .string a0, .string a1, .slice A n c3] (0, 0) _ HX.out Tryd.underlying49 rfl size_cd ?_)
    refine H1.out.mono ?_
    rintro e w2 ⟨rfl, hb⟩
    dsimp only
    have HB2 : Aside0 (Below w.heap.size w w2) := ⟨HB1.out.trans (hb.mono HB1.out.size)⟩
    clear hb
    go_wp2
    go_ret
    exact ⟨rfl, HB2.out⟩
  · have l6 : (k == (6 : Int)) = false := by simp [h6]
    by_cases h5 : k = 5
    · have l5 : (k == (5 : Int)) = true := by simp [h5]
      have hs : amongB k t = bOpen ++ t ++ bShut := by rw [amongB, if_pos (.inr h5)]
      rw [hs]
      clear h6 h5 hs
      go_enter Tryd.func79, Tryd.ntmps79
      go_upto_region 1 with (fail)
      rw [← HW1.out]
      go_wp2_with (refine wpList_load_row rfl 49 _ rfl w.heap.size rfl 49 #[.int .i64 k, .string a0, .string a1, .slice A n c3] (0, 0) _ HX.out Tryd.underlying49 rfl size_cd ?_)
      refine H1.out.mono ?_
      rintro e w2 ⟨rfl, hb⟩
      dsimp only
      have HB2 : Aside0 (Below w.heap.size w w2) := ⟨HB1.out.trans (hb.mono HB1.out.size)⟩
      clear hb
      go_wp2
      go_ret
      exact ⟨rfl, HB2.out⟩
    · have l5 : (k == (5 : Int)) = false := by simp [h5]
      have hs : amongB k t = t := by rw [amongB, if_neg (fun h => h.elim h6 h5)]
      rw [hs]
      clear h6 h5 hs
      go_enter Tryd.func79, Tryd.ntmps79
      go_upto_region 1 with (fail)
      rw [← HW1.out]
      go_wp2_with (refine wpList_load_row rfl 49 _ rfl w.heap.size rfl 49 #[.int .i64 k, .string a0, .string a1, .slice A n c3] (0, 0) _ HX.out Tryd.underlying49 rfl size_cd ?_)
      refine H1.out.mono ?_
      rintro e w2 ⟨rfl, hb⟩
      dsimp only
      have HB2 : Aside0 (Below w.heap.size w w2) := ⟨HB1.out.trans (hb.mono HB1.out.size)⟩
      clear hb
      go_wp2
      go_ret
      exact ⟨rfl, HB2.out⟩
theorem amongsT_len (l : List Cd) : (amongsT l).length = l.length := by rw [amongsT_map, List.length_map]
theorem amongsT_next {l : List Cd} {i : Nat} (h : i < l.length) : (amongsT l).take (i + 1) = (amongsT l).take i ++ [amongB l[i].f0 (condT l[i])] := by
  rw [List.take_add_one, amongsT_map, List.getElem?_map, List.getElem?_eq_getElem h]; rfl
theorem joined_calls (l : List Cd) (hall : ∀ c ∈ l, TxC c ∧ (condT c).size ≤ 1000000000) (h0 : 0 < l.length) (hn : l.length ≤ 1000000) (word : ByteArray) (hwd : word.size ≤ 1000) (hz : (joinB (amongsT l) (bSp ++ word ++ bSp)).size ≤ 140737488355328) (A : Option Addr) (n cap : Nat) (w : World) (hC : k49.C w A l.length l) (hnl : n = l.length) (hcap : n ≤ cap) :
    Calls Tryd.prog 64 #[.slice A n cap, .string word] w fun e w' => e = .returned (.string (joinB (amongsT l) (bSp ++ word ++ bSp))) ∧ Below w.heap.size w w' := by
  have HAL := Aside0.mk hall
  have HC := Aside0.mk hC
  have HN := Aside0.mk hnl
  have HL := Aside0.mk hn
  have HZ := Aside0.mk hz
  have H0 := Aside0.mk h0
  clear hall hC hnl hn hz h0
  go_enter Tryd.func64, Tryd.ntmps64
  go_wp2
  go_loopg [5, 10] l.length (fun gk v5 v10 wr => ∃ (i : Nat), v10 = .int .i64 i ∧ Aside0 (i ≤ l.length) ∧ Aside0 (l.length - i ≤ gk) ∧ Aside0 (Kd.string.R 9 wr w.heap.size (fun _ => True) v5 ((amongsT l).take i)) ∧ Aside0 (Below w.heap.size w wr))
  case atStart => exact ⟨0, rfl, ⟨Nat.zero_le _⟩, ⟨Nat.sub_le _ _⟩, ⟨Kd.R_nil _ _ _ _ _⟩, ⟨Below.refl _ _⟩⟩
  case round =>
    obtain ⟨i, rfl, HI, HGK, HR, HB⟩ := hrel
    by_cases hi : i < n
    · have l1 : decide (i < n) = true := decide_eq_true hi
      have l2 : decide ((i : Int) < (n : Int)) = true := decide_eq_true (by omega)
      have l3 : (i : Int) < (n : Int) := by omega
      have HIL : Aside0 (i < l.length) := ⟨by rw [← HN.out]; exact hi⟩
      have hib : (i : Int) ≤ 1000000 := by have := HL.out; have := HIL.out; omega
      obtain ⟨ad, A3, c3, hA, q0, q1, q2, q3, hl3, hC3⟩ := at_T49 HC.out (i : Int) (by omega) (by have := HIL.out; omega)
      have hA2 : A = some ad := hA
      subst hA2
      obtain ⟨x, hx⟩ : ∃ x, x = rd_T49 l (i : Int) := ⟨_, rfl⟩
      have HX : Aside0 (x = l[i]'HIL.out) := ⟨by rw [hx]; have := HIL.out; simp [rd_T49, this]⟩
      rw [← hx] at q0 q1 q2 q3 hl3 hC3
      simp only [Int.toNat_natCast] at q0 q1 q2 q3
      replace q0 := (HB.out.cell (World.block_lt_of_cell? w _ q0)).trans q0
      replace q1 := (HB.out.cell (World.block_lt_of_cell? w _ q1)).trans q1
      replace q2 := (HB.out.cell (World.block_lt_of_cell? w _ q2)).trans q2
      replace q3 := (HB.out.cell (World.block_lt_of_cell? w _ q3)).trans q3
      have hbl := World.block_lt_of_cell? wr _ q0
      obtain ⟨m, hm⟩ : ∃ m, m = x.f2.length := ⟨_, rfl⟩
      rw [← hm] at q3
      obtain ⟨wb, hwb⟩ : ∃ wb, wb = (wr.alloc (.cells #[.int .i64 0, .string ⟨#[]⟩, .string ⟨#[]⟩, .slice none 0 0] 49)).setRow wr.heap.size #[.int .i64 x.f0, .string x.f1.f0, .string x.f1.f1, .slice A3 m c3] := ⟨_, rfl⟩
      have HBB : Aside0 (Below wr.heap.size wr wb) := ⟨by rw [hwb]; exact below_setRow (below_alloc (Below.refl _ _) _) (Nat.le_refl _) _⟩
      have HXX : Aside0 (wb.heap[wr.heap.size]? = some (.cells #[.int .i64 x.f0, .string x.f1.f0, .string x.f1.f1, .slice A3 m c3] 49 (0, 0))) := ⟨by rw [hwb]; exact setRow_heap _ _ _ _ _ _ (blk_new wr (.cells #[.int .i64 0, .string ⟨#[]⟩, .string ⟨#[]⟩, .slice none 0 0] 49))⟩
      have hmem : x ∈ l := by rw [HX.out]; exact List.getElem_mem _
      have h5 := among_calls x (HAL.out x hmem).1 (HAL.out x hmem).2 A3 c3 wb (Kd.C_below hC3 (HB.out.trans (HBB.out.mono HB.out.size))) hl3
      unfold cdV at h5
      rw [← hm] at h5
      have H5 := Aside0.mk h5
      have HWB := Aside0.mk hwb
      clear hwb h5 hx hA hC3 hl3 hm hmem hi
      obtain ⟨x0, hx0⟩ : ∃ x0, x0 = x.f0 := ⟨_, rfl⟩
      obtain ⟨x1, hx1⟩ : ∃ x1, x1 = x.f1.f0 := ⟨_, rfl⟩
      obtain ⟨x2, hx2⟩ : ∃ x2, x2 = x.f1.f1 := ⟨_, rfl⟩
      obtain ⟨tx, htx⟩ : ∃ tx, tx = amongB x.f0 (condT x) := ⟨_, rfl⟩
      rw [← htx, ← hx0, ← hx1, ← hx2] at H5
      rw [← hx0, ← hx1, ← hx2] at HXX HWB
      rw [← hx0] at q0
      rw [← hx1] at q1
      rw [← hx2] at q2
      have HTX : Aside0 ((amongsT l).take (i + 1) = (amongsT l).take i ++ [tx]) := ⟨by rw [amongsT_next HIL.out, htx, HX.out]⟩
      clear hx0 hx1 hx2 htx
      go_upto_region 5 with (refine wpList_store_row rfl 49 _ _ rfl wr.heap.size #[.int .i64 x0, .string x1, .string x2, .slice A3 m c3] rfl rfl 49 #[.int .i64 0, .string ⟨#[]⟩, .string ⟨#[]⟩, .slice none 0 0] (blk_new _ _) size_cd rfl (by simp [Value.oneCell']) ?_)
      rw [← HWB.out]
      clear HWB q0 q1 q2 q3 hbl
      go_wp2_with (refine wpList_load_row rfl 49 _ rfl wr.heap.size rfl 49 #[.int .i64 x0, .string x1, .string x2, .slice A3 m c3] (0, 0) _ HXX.out Tryd.underlying49 rfl size_cd ?_)
      refine H5.out.mono ?_
      rintro e w6 ⟨rfl, hb6⟩
      dsimp only
      have HB6 : Aside0 (Below w.heap.size w w6) := ⟨HB.out.trans ((HBB.out.trans (hb6.mono HBB.out.size)).mono HB.out.size)⟩
      have HR6 : Aside0 (Kd.string.R 9 w6 w.heap.size (fun _ => True) u5 ((amongsT l).take i)) := ⟨Kd.R_below (Kd.R_below HR.out HBB.out) hb6⟩
      have hlb : (((amongsT l).take i).length + 1) * 16 ≤ 140737488355328 := by rw [List.length_take, amongsT_len]; have := HL.out; omega
      clear hb6 HB HR HBB HXX H5
      go_wp2_with (at_builtin; refine Kd.R_append Kd.string (w0 := w) w.heap.size rfl (.tmp 14) (.tmp 17) 23 9 (.string ⟨#[]⟩) 16 rfl Tryd.underlying23 info_str2 rfl (by decide) (by decide) u5 ((amongsT l).take i) tx [.string tx] (fun _ => True) (fun _ => False) rfl rfl rfl (fun _ hk => hk.elim) (fun _ _ => trivial) HR6.out HB6.out HB6.out.size hlb ?_)
      intro v7 w7 hO7 hB7 hg7 hat7
      rw [← HTX.out] at hO7
      have HO7 := Aside0.mk hO7
      have HB7 := Aside0.mk hB7
      clear hO7 hB7 hg7 hat7 hlb
      go_wp2
      go_roundg (l.length - (i + 1))
      case measure => have := HGK.out; have := HIL.out; omega
      case rel => exact ⟨i + 1, by first | rfl | go_num, ⟨HIL.out⟩, ⟨Nat.le_refl _⟩, HO7, HB7⟩
    · have l1 : decide (i < n) = false := decide_eq_false hi
      have l2 : decide ((i : Int) < (n : Int)) = false := decide_eq_false (by omega)
      have l3 : ¬ (i : Int) < (n : Int) := by omega
      have HR1 : Aside0 (Kd.string.R 9 wr w.heap.size (fun _ => True) u5 (amongsT l)) := ⟨by
        have h := HR.out
        rwa [List.take_of_length_le (by rw [amongsT_len]; have := HN.out; omega)] at h⟩
      have HJ := Aside0.mk (join_calls (amongsT l) (bSp ++ word ++ bSp) wr HR1.out (by rw [amongsT_len]; exact H0.out) (by rw [amongsT_len]; exact HL.out) HZ.out)
      clear hi HR
      go_wp2_with fail
      refine HJ.out.mono ?_
      rintro e w2 ⟨rfl, hb⟩
      dsimp only
      have HB2 : Aside0 (Below w.heap.size w w2) := ⟨HB.out.trans (hb.mono HB.out.size)⟩
      clear hb
      go_wp2
      go_ret
      exact ⟨rfl, HB2.out⟩
end Go.Proofs.YtngedmioeodmfaaDoor.Pu
namespace Go.Proofs.YtngedmioeodmfaaDoor.Pu
open Go.RowKit Go.Proofs.YtngedmioeodmfaaDoor.Pr Go.Proofs.YtngedmioeodmfaaDoorW.PrintWords Go.Proofs.YtngedmioeodmfaaDoorW.PrintLast Go.Proofs.YtngedmioeodmfaaDoorW.PrintMore Go.Proofs.YtngedmioeodmfaaDoor.Lx
open Go.Proofs.YtngedmioeodmfaaDoor.Ps hiding Tk
set_option linter.unusedVariables false
set_option linter.unusedSimpArgs false
/-- A condition whose text fits. -/
inductive OkT : Cd → Prop
  | mk (c : Cd) (hk : ∀ k ∈ c.f2, OkT k) (h0 : c.f0 = 4 ∨ c.f0 = 5 ∨ c.f0 = 6 → 0 < c.f2.length) (hl : c.f2.length ≤ 1000000) (ha : c.f1.f0.size ≤ 1000000) (hb : c.f1.f1.size ≤ 1000000) (hz : (condT c).size ≤ 1000000000) : OkT c
theorem OkT.size {c : Cd} (h : OkT c) : (condT c).size ≤ 1000000000 := by cases h; assumption
theorem and_join : bSp ++ (⟨#[97, 110, 100]⟩ : ByteArray) ++ bSp = bAnd := by decide +kernel
theorem or_join : bSp ++ (⟨#[111, 114]⟩ : ByteArray) ++ bSp = bOr := by decide +kernel
set_option maxHeartbeats 16000000
set_option maxRecDepth 100000
theorem condition_calls {c : Cd} (h : OkT c) : TxC c := by
  induction h with
  | mk c hkk h0 hl ha hb hz ih =>
  intro A c3 w hC hcap
  have hall : ∀ k ∈ c.f2, TxC k ∧ (condT k).size ≤ 1000000000 := fun k hk => ⟨ih k hk, (hkk k hk).size⟩
  have hE := condT_eq c
  obtain ⟨n, hn⟩ : ∃ n, n = c.f2.length := ⟨_, rfl⟩
  obtain ⟨l, hll⟩ : ∃ l, l = c.f2 := ⟨_, rfl⟩
  obtain ⟨t, ht⟩ : ∃ t, t = condT c := ⟨_, rfl⟩
  unfold cdV
  rw [← hn]
  rw [← hll] at hn hC h0 hl hall hE hcap
  rw [← hn] at hcap
  rw [← ht] at hE hz ⊢
  obtain ⟨k, hk⟩ : ∃ k, k = c.f0 := ⟨_, rfl⟩
  obtain ⟨a0, ha0⟩ : ∃ a, a = c.f1.f0 := ⟨_, rfl⟩
  obtain ⟨a1, ha1⟩ : ∃ a, a = c.f1.f1 := ⟨_, rfl⟩
  rw [← hk, ← ha0, ← ha1] at hE ⊢
  rw [← ha0] at ha
  rw [← ha1] at hb
  rw [← hk] at h0
  clear ht hll hk ha0 ha1 hkk ih
  obtain ⟨w1, hw1⟩ : ∃ w1, w1 = w.alloc (.cells #[.int .i64 k, .string a0, .string a1, .slice A n c3] 49) := ⟨_, rfl⟩
  have HX : Aside0 (w1.heap[w.heap.size]? = some (.cells #[.int .i64 k, .string a0, .string a1, .slice A n c3] 49 (0, 0))) := ⟨by rw [hw1]; exact blk_new _ _⟩
  have HB1 : Aside0 (Below w.heap.size w w1) := ⟨by rw [hw1]; exact below_alloc (Below.refl _ _) _⟩
  have HC1 : Aside0 (k49.C w1 A l.length l) := ⟨by rw [hw1]; exact Kd.C_alloc hC _⟩
  have HW1 := Aside0.mk hw1
  have HE := Aside0.mk hE
  have H0 := Aside0.mk h0
  have HL := Aside0.mk hl
  have HALL := Aside0.mk hall
  have HN := Aside0.mk hn
  have HZ := Aside0.mk hz
  have HWS : w.heap.size < w1.heap.size := blk_lt HX.out
  have t0 : w1.cell? ⟨w.heap.size, 0, none⟩ = some (.int .i64 k) := blk_cell HX.out 0
  have t1 : w1.cell? ⟨w.heap.size, 1, none⟩ = some (.string a0) := blk_cell HX.out 1
  have t2 : w1.cell? ⟨w.heap.size, 2, none⟩ = some (.string a1) := blk_cell HX.out 2
  have t3 : w1.cell? ⟨w.heap.size, 3, none⟩ = some (.slice A n c3) := blk_cell HX.out 3
  clear hw1 hE h0 hl hall hn hz hC
  by_cases hk : k = 1
  · have HT : Aside0 (t = wTrue) := ⟨by have h := HE.out; subst hk; simpa using h⟩
    subst hk
    go_enter Tryd.func40, Tryd.ntmps40
    go_upto_region 1 with (fail)
    rw [← HW1.out]
    go_wp2
    go_ret
    exact ⟨by rw [HT.out]; rfl, HB1.out⟩
  · have l1 : (k == (1 : Int)) = false := by simp [hk]
    have HK1 := Aside0.mk hk
    clear hk
    by_cases hk : k = 2
    · have HT : Aside0 (t = wFalse) := ⟨by have h := HE.out; subst hk; simpa using h⟩
      subst hk
      go_enter Tryd.func40, Tryd.ntmps40
      go_upto_region 1 with (fail)
      rw [← HW1.out]
      go_wp2
      go_ret
      exact ⟨by rw [HT.out]; rfl, HB1.out⟩
    · have l2 : (k == (2 : Int)) = false := by simp [hk]
      have HK2 := Aside0.mk hk
      clear hk
      by_cases hk : k = 4
      · have HT : Aside0 (t = bNot ++ joinB (amongsT l) bAnd) := ⟨by have h := HE.out; subst hk; simpa using h⟩
        have hne : 0 < l.length := H0.out (by simp [hk])
        have HZJ : Aside0 ((joinB (amongsT l) bAnd).size ≤ 1000000000) := ⟨by
          have h := HZ.out
          rw [HT.out] at h
          rw [ByteArray.size_append] at h; omega⟩
        have HJ : Aside0 (Calls Tryd.prog 64 #[.slice A n c3, .string ⟨#[97, 110, 100]⟩] w1 fun e w' => e = .returned (.string (joinB (amongsT l) bAnd)) ∧ Below w1.heap.size w1 w') := ⟨by
          have h := joined_calls l HALL.out hne HL.out ⟨#[97, 110, 100]⟩ (by decide) (by rw [and_join]; have := HZJ.out; omega) A n c3 w1 HC1.out HN.out hcap
          rw [and_join] at h
          exact h⟩
        clear hne
        subst hk
        go_enter Tryd.func40, Tryd.ntmps40
        go_upto_region 1 with (fail)
        rw [← HW1.out]
        go_wp2_with fail
        refine HJ.out.mono ?_
        rintro e w2 ⟨rfl, hb2⟩
        dsimp only
        have HB2 : Aside0 (Below w.heap.size w w2) := ⟨HB1.out.trans (hb2.mono HB1.out.size)⟩
        clear hb2
        obtain ⟨j, hj⟩ : ∃ j, j = joinB (amongsT l) bAnd := ⟨_, rfl⟩
        rw [← hj] at HT HZJ ⊢
        have hjs := HZJ.out
        clear hj
        go_wp2
        go_ret
        exact ⟨by rw [HT.out]; rfl, HB2.out⟩
      · have l4 : (k == (4 : Int)) = false := by simp [hk]
        have HK4 := Aside0.mk hk
        clear hk
        by_cases hk : k = 5
        · have HT : Aside0 (t = joinB (amongsT l) bAnd) := ⟨by have h := HE.out; subst hk; simpa using h⟩
          have hne : 0 < l.length := H0.out (by simp [hk])
          have HZJ : Aside0 ((joinB (amongsT l) bAnd).size ≤ 1000000000) := ⟨by
            have h := HZ.out
            rw [HT.out] at h
            exact h⟩
          have HJ : Aside0 (Calls Tryd.prog 64 #[.slice A n c3, .string ⟨#[97, 110, 100]⟩] w1 fun e w' => e = .returned (.string (joinB (amongsT l) bAnd)) ∧ Below w1.heap.size w1 w') := ⟨by
            have h := joined_calls l HALL.out hne HL.out ⟨#[97, 110, 100]⟩ (by decide) (by rw [and_join]; have := HZJ.out; omega) A n c3 w1 HC1.out HN.out hcap
            rw [and_join] at h
            exact h⟩
          clear hne
          subst hk
          go_enter Tryd.func40, Tryd.ntmps40
          go_upto_region 1 with (fail)
          rw [← HW1.out]
          go_wp2_with fail
          refine HJ.out.mono ?_
          rintro e w2 ⟨rfl, hb2⟩
          dsimp only
          have HB2 : Aside0 (Below w.heap.size w w2) := ⟨HB1.out.trans (hb2.mono HB1.out.size)⟩
          clear hb2
          obtain ⟨j, hj⟩ : ∃ j, j = joinB (amongsT l) bAnd := ⟨_, rfl⟩
          rw [← hj] at HT HZJ ⊢
          have hjs := HZJ.out
          clear hj
          go_wp2
          go_ret
          exact ⟨by rw [HT.out]; rfl, HB2.out⟩
        · have l5 : (k == (5 : Int)) = false := by simp [hk]
          have HK5 := Aside0.mk hk
          clear hk
          by_cases hk : k = 6
          · have HT : Aside0 (t = joinB (amongsT l) bOr) := ⟨by have h := HE.out; subst hk; simpa using h⟩
            have hne : 0 < l.length := H0.out (by simp [hk])
            have HZJ : Aside0 ((joinB (amongsT l) bOr).size ≤ 1000000000) := ⟨by
              have h := HZ.out
              rw [HT.out] at h
              exact h⟩
            have HJ : Aside0 (Calls Tryd.prog 64 #[.slice A n c3, .string ⟨#[111, 114]⟩] w1 fun e w' => e = .returned (.string (joinB (amongsT l) bOr)) ∧ Below w1.heap.size w1 w') := ⟨by
              have h := joined_calls l HALL.out hne HL.out ⟨#[111, 114]⟩ (by decide) (by rw [or_join]; have := HZJ.out; omega) A n c3 w1 HC1.out HN.out hcap
              rw [or_join] at h
              exact h⟩
            clear hne
            subst hk
            go_enter Tryd.func40, Tryd.ntmps40
            go_upto_region 1 with (fail)
            rw [← HW1.out]
            go_wp2_with fail
            refine HJ.out.mono ?_
            rintro e w2 ⟨rfl, hb2⟩
            dsimp only
            have HB2 : Aside0 (Below w.heap.size w w2) := ⟨HB1.out.trans (hb2.mono HB1.out.size)⟩
            clear hb2
            obtain ⟨j, hj⟩ : ∃ j, j = joinB (amongsT l) bOr := ⟨_, rfl⟩
            rw [← hj] at HT HZJ ⊢
            have hjs := HZJ.out
            clear hj
            go_wp2
            go_ret
            exact ⟨by rw [HT.out]; rfl, HB2.out⟩
          · have l6 : (k == (6 : Int)) = false := by simp [hk]
            have HK6 := Aside0.mk hk
            clear hk
            have HE2 : Aside0 (t = if a0 = wHost ∨ a0 = wPath then a0 ++ bSp ++ quoteB a1 else if a0 = wMethod ∨ a0 = wDest ∨ a0 = wScheme ∨ a0 = wHeader then a0 ++ bSp ++ a1 else a0) := ⟨by
              have h := HE.out
              rwa [if_neg HK1.out, if_neg HK2.out, if_neg HK4.out, if_neg HK5.out, if_neg HK6.out] at h⟩
            clear HE H0 HK1 HK2 HK4 HK5 HK6 t3
            obtain ⟨wa, hwa⟩ : ∃ wa, wa = (w1.alloc (.cells #[.string ⟨#[]⟩, .string ⟨#[]⟩] 46)).setRow w1.heap.size #[.string a0, .string a1] := ⟨_, rfl⟩
            have HBA : Aside0 (Below w.heap.size w wa) := ⟨by rw [hwa]; exact HB1.out.trans ((below_setRow (below_alloc (Below.refl _ _) _) (Nat.le_refl _) _).mono HB1.out.size)⟩
            have HXA : Aside0 (wa.heap[w1.heap.size]? = some (.cells #[.string a0, .string a1] 46 (0, 0))) := ⟨by rw [hwa]; exact setRow_heap _ _ _ _ _ _ (blk_new w1 (.cells #[.string ⟨#[]⟩, .string ⟨#[]⟩] 46))⟩
            have HWA := Aside0.mk hwa
            have HQ := quote_calls a1 hb
            clear hwa
            by_cases hw0 : a0 = wHost
            · have s0 : (a0.toList == [104, 111, 115, 116]) = true := (eq_word (w := a0) (a := wHost) (by decide +kernel)).trans (decide_eq_true hw0)
              have HT : Aside0 (t = a0 ++ bSp ++ quoteB a1) := ⟨by have h := HE2.out; rwa [if_pos (by simp [hw0])] at h⟩
              clear hw0
              have HZQ : Aside0 ((quoteB a1).size ≤ 1000000000) := ⟨by have h := HZ.out; rw [HT.out, ByteArray.size_append] at h; omega⟩
              go_enter Tryd.func40, Tryd.ntmps40
              go_upto_region 1 with (fail)
              rw [← HW1.out]
              go_upto_region 13 with (refine wpList_store_row rfl 46 _ _ rfl w1.heap.size #[.string a0, .string a1] rfl rfl 46 #[.string ⟨#[]⟩, .string ⟨#[]⟩] (blk_new _ _) size_at rfl (by simp [Value.oneCell']) ?_)
              rw [← HWA.out]
              have u0 : wa.cell? ⟨w1.heap.size, 0, none⟩ = some (.string a0) := blk_cell HXA.out 0
              have u1 : wa.cell? ⟨w1.heap.size, 1, none⟩ = some (.string a1) := blk_cell HXA.out 1
              clear t0 t1 t2
              have HZQ2 := HZQ.out
              go_upto_region 17 with (fail)
              have d0 : wa.drew.cell? ⟨w1.heap.size, 0, none⟩ = some (.string a0) := u0
              have d1 : wa.drew.cell? ⟨w1.heap.size, 1, none⟩ = some (.string a1) := u1
              clear u0 u1
              have HQD := Aside0.mk (HQ wa.drew)
              clear HQ
              refine start_ (n := 8) (S := fun w' => w'.cell? ⟨w1.heap.size, 0, none⟩ = some (.string a0) ∧ w'.cell? ⟨w1.heap.size, 1, none⟩ = some (.string a1)) (ds := []) #[false, false, false, false, false, false, false, false] (by kernel_rfl) rfl rfl ⟨d0, d1⟩ (fun hHeld => ?_)
              refine pure_ (i := 0) (N := some 35) (v := ?_) (a' := ?_) #[true, false, false, false, false, false, false, false] rfl rfl (by kernel_rfl) (fun _ _ _ h => h) (Or.inl ⟨by rfl, ?_⟩) ?_ ?_
              rotate_left
              · intro w'
                go_simp
                with_reducible rfl
              rotate_left
              · simp only [Act.put, List.setIfInBounds_toArray, List.set_cons_zero, List.set_cons_succ, i64_w, i32_w]
                rfl
              refine pure_ (i := 3) (N := some 38) (v := ?_) (a' := ?_) #[true, false, false, true, false, false, false, false] rfl rfl (by kernel_rfl) (fun _ _ _ h => h) (Or.inl ⟨by rfl, ?_⟩) ?_ ?_
              rotate_left
              · intro w'
                go_simp
                with_reducible rfl
              rotate_left
              · simp only [Act.put, List.setIfInBounds_toArray, List.set_cons_zero, List.set_cons_succ, i64_w, i32_w]
                rfl
              refine take_ (i := 1) (N := some 36) (v := ?_) (a' := ?_) #[true, true, false, true, false, false, false, false] rfl rfl (by kernel_rfl) (fun _ _ _ h => h) (Or.inl ⟨by rfl, ?_⟩) hHeld ?_ ?_
              rotate_left
              · rintro w' ⟨s0, s1⟩
                go_simp
                with_reducible rfl
              rotate_left
              · simp only [Act.put, List.setIfInBounds_toArray, List.set_cons_zero, List.set_cons_succ, i64_w, i32_w]
                rfl
              refine pure_ (i := 2) (N := some 37) (v := ?_) (a' := ?_) #[true, true, true, true, false, false, false, false] rfl rfl (by kernel_rfl) (fun _ _ _ h => h) (Or.inl ⟨by rfl, ?_⟩) ?_ ?_
              rotate_left
              · intro w'
                go_simp
                rw [if_neg (by omega)]
              rotate_left
              · simp only [Act.put, List.setIfInBounds_toArray, List.set_cons_zero, List.set_cons_succ, i64_w, i32_w]
                rfl
              refine take_ (i := 4) (N := some 39) (v := ?_) (a' := ?_) #[true, true, true, true, true, false, false, false] rfl rfl (by kernel_rfl) (fun _ _ _ h => h) (Or.inl ⟨by rfl, ?_⟩) hHeld ?_ ?_
              rotate_left
              · rintro w' ⟨s0, s1⟩
                go_simp
                with_reducible rfl
              rotate_left
              · simp only [Act.put, List.setIfInBounds_toArray, List.set_cons_zero, List.set_cons_succ, i64_w, i32_w]
                rfl
              refine one_ (i := 5) (N := some 40) #[true, true, true, true, true, true, false, false] rfl rfl (by kernel_rfl) (by decide) (fun K hK => ?_)
              refine goes_ Tryd.func38 (by kernel_rfl) rfl #[.string a1] (by rfl) rfl rfl (by simp only [List.map_toArray, List.map_cons, List.map_nil]; rfl) ?_
              refine HQD.out.mono ?_
              rintro e w6 ⟨rfl, hb6⟩
              refine ⟨_, rfl, ?_⟩
              have HB6 : Aside0 (Below w.heap.size w w6) := ⟨(below_drew HBA.out).trans (hb6.mono HBA.out.size)⟩
              have HX6 : Aside0 (w6.heap[w1.heap.size]? = some (.cells #[.string a0, .string a1] 46 (0, 0))) := ⟨blk_below (show wa.drew.heap[w1.heap.size]? = _ from HXA.out) hb6⟩
              clear hb6
              refine hK.out _ _ ⟨(blk_cell HX6.out 0), (blk_cell HX6.out 1)⟩ (fun hHeld => ?_)
              clear hK K
              refine norm_ (a' := ?_) ?_ ?_
              rotate_left
              · show Act.put _ (some 40) _ = _
                simp only [Act.put, List.setIfInBounds_toArray, List.set_cons_zero, List.set_cons_succ, i64_w, i32_w]
                rfl
              refine pure_ (i := 6) (N := some 41) (v := ?_) (a' := ?_) #[true, true, true, true, true, true, true, false] rfl rfl (by kernel_rfl) (fun _ _ _ h => h) (Or.inl ⟨by rfl, ?_⟩) ?_ ?_
              rotate_left
              · intro w'
                go_simp
                rw [if_neg (by omega)]
              rotate_left
              · simp only [Act.put, List.setIfInBounds_toArray, List.set_cons_zero, List.set_cons_succ, i64_w, i32_w]
                rfl
              refine pure_ (i := 7) (N := some 2) (v := ?_) (a' := ?_) #[true, true, true, true, true, true, true, true] rfl rfl (by kernel_rfl) (fun _ _ _ h => h) (Or.inl ⟨by rfl, ?_⟩) ?_ ?_
              rotate_left
              · intro w'
                go_simp
                with_reducible rfl
              rotate_left
              · simp only [Act.put, List.setIfInBounds_toArray, List.set_cons_zero, List.set_cons_succ, i64_w, i32_w]
                rfl
              refine done_ (by kernel_rfl) ?_

              go_wp2
              go_ret
              exact ⟨by rw [HT.out]; rfl, HB6.out⟩
            · have s0 : (a0.toList == [104, 111, 115, 116]) = false := (eq_word (w := a0) (a := wHost) (by decide +kernel)).trans (decide_eq_false hw0)
              have HW0N := Aside0.mk hw0
              clear hw0
              by_cases hw1 : a0 = wPath
              · have s1 : (a0.toList == [112, 97, 116, 104]) = true := (eq_word (w := a0) (a := wPath) (by decide +kernel)).trans (decide_eq_true hw1)
                have HT : Aside0 (t = a0 ++ bSp ++ quoteB a1) := ⟨by have h := HE2.out; rwa [if_pos (by simp [hw1])] at h⟩
                clear hw1 HW0N
                have HZQ : Aside0 ((quoteB a1).size ≤ 1000000000) := ⟨by have h := HZ.out; rw [HT.out, ByteArray.size_append] at h; omega⟩
                go_enter Tryd.func40, Tryd.ntmps40
                go_upto_region 1 with (fail)
                rw [← HW1.out]
                go_upto_region 13 with (refine wpList_store_row rfl 46 _ _ rfl w1.heap.size #[.string a0, .string a1] rfl rfl 46 #[.string ⟨#[]⟩, .string ⟨#[]⟩] (blk_new _ _) size_at rfl (by simp [Value.oneCell']) ?_)
                rw [← HWA.out]
                have u0 : wa.cell? ⟨w1.heap.size, 0, none⟩ = some (.string a0) := blk_cell HXA.out 0
                have u1 : wa.cell? ⟨w1.heap.size, 1, none⟩ = some (.string a1) := blk_cell HXA.out 1
                clear t0 t1 t2
                have HZQ2 := HZQ.out
                go_upto_region 17 with (fail)
                have d0 : wa.drew.cell? ⟨w1.heap.size, 0, none⟩ = some (.string a0) := u0
                have d1 : wa.drew.cell? ⟨w1.heap.size, 1, none⟩ = some (.string a1) := u1
                clear u0 u1
                have HQD := Aside0.mk (HQ wa.drew)
                clear HQ
                refine start_ (n := 8) (S := fun w' => w'.cell? ⟨w1.heap.size, 0, none⟩ = some (.string a0) ∧ w'.cell? ⟨w1.heap.size, 1, none⟩ = some (.string a1)) (ds := []) #[false, false, false, false, false, false, false, false] (by kernel_rfl) rfl rfl ⟨d0, d1⟩ (fun hHeld => ?_)
                refine pure_ (i := 0) (N := some 35) (v := ?_) (a' := ?_) #[true, false, false, false, false, false, false, false] rfl rfl (by kernel_rfl) (fun _ _ _ h => h) (Or.inl ⟨by rfl, ?_⟩) ?_ ?_
                rotate_left
                · intro w'
                  go_simp
                  with_reducible rfl
                rotate_left
                · simp only [Act.put, List.setIfInBounds_toArray, List.set_cons_zero, List.set_cons_succ, i64_w, i32_w]
                  rfl
                refine pure_ (i := 3) (N := some 38) (v := ?_) (a' := ?_) #[true, false, false, true, false, false, false, false] rfl rfl (by kernel_rfl) (fun _ _ _ h => h) (Or.inl ⟨by rfl, ?_⟩) ?_ ?_
                rotate_left
                · intro w'
                  go_simp
                  with_reducible rfl
                rotate_left
                · simp only [Act.put, List.setIfInBounds_toArray, List.set_cons_zero, List.set_cons_succ, i64_w, i32_w]
                  rfl
                refine take_ (i := 1) (N := some 36) (v := ?_) (a' := ?_) #[true, true, false, true, false, false, false, false] rfl rfl (by kernel_rfl) (fun _ _ _ h => h) (Or.inl ⟨by rfl, ?_⟩) hHeld ?_ ?_
                rotate_left
                · rintro w' ⟨s0, s1⟩
                  go_simp
                  with_reducible rfl
                rotate_left
                · simp only [Act.put, List.setIfInBounds_toArray, List.set_cons_zero, List.set_cons_succ, i64_w, i32_w]
                  rfl
                refine pure_ (i := 2) (N := some 37) (v := ?_) (a' := ?_) #[true, true, true, true, false, false, false, false] rfl rfl (by kernel_rfl) (fun _ _ _ h => h) (Or.inl ⟨by rfl, ?_⟩) ?_ ?_
                rotate_left
                · intro w'
                  go_simp
                  rw [if_neg (by omega)]
                rotate_left
                · simp only [Act.put, List.setIfInBounds_toArray, List.set_cons_zero, List.set_cons_succ, i64_w, i32_w]
                  rfl
                refine take_ (i := 4) (N := some 39) (v := ?_) (a' := ?_) #[true, true, true, true, true, false, false, false] rfl rfl (by kernel_rfl) (fun _ _ _ h => h) (Or.inl ⟨by rfl, ?_⟩) hHeld ?_ ?_
                rotate_left
                · rintro w' ⟨s0, s1⟩
                  go_simp
                  with_reducible rfl
                rotate_left
                · simp only [Act.put, List.setIfInBounds_toArray, List.set_cons_zero, List.set_cons_succ, i64_w, i32_w]
                  rfl
                refine one_ (i := 5) (N := some 40) #[true, true, true, true, true, true, false, false] rfl rfl (by kernel_rfl) (by decide) (fun K hK => ?_)
                refine goes_ Tryd.func38 (by kernel_rfl) rfl #[.string a1] (by rfl) rfl rfl (by simp only [List.map_toArray, List.map_cons, List.map_nil]; rfl) ?_
                refine HQD.out.mono ?_
                rintro e w6 ⟨rfl, hb6⟩
                refine ⟨_, rfl, ?_⟩
                have HB6 : Aside0 (Below w.heap.size w w6) := ⟨(below_drew HBA.out).trans (hb6.mono HBA.out.size)⟩
                have HX6 : Aside0 (w6.heap[w1.heap.size]? = some (.cells #[.string a0, .string a1] 46 (0, 0))) := ⟨blk_below (show wa.drew.heap[w1.heap.size]? = _ from HXA.out) hb6⟩
                clear hb6
                refine hK.out _ _ ⟨(blk_cell HX6.out 0), (blk_cell HX6.out 1)⟩ (fun hHeld => ?_)
                clear hK K
                refine norm_ (a' := ?_) ?_ ?_
                rotate_left
                · show Act.put _ (some 40) _ = _
                  simp only [Act.put, List.setIfInBounds_toArray, List.set_cons_zero, List.set_cons_succ, i64_w, i32_w]
                  rfl
                refine pure_ (i := 6) (N := some 41) (v := ?_) (a' := ?_) #[true, true, true, true, true, true, true, false] rfl rfl (by kernel_rfl) (fun _ _ _ h => h) (Or.inl ⟨by rfl, ?_⟩) ?_ ?_
                rotate_left
                · intro w'
                  go_simp
                  rw [if_neg (by omega)]
                rotate_left
                · simp only [Act.put, List.setIfInBounds_toArray, List.set_cons_zero, List.set_cons_succ, i64_w, i32_w]
                  rfl
                refine pure_ (i := 7) (N := some 2) (v := ?_) (a' := ?_) #[true, true, true, true, true, true, true, true] rfl rfl (by kernel_rfl) (fun _ _ _ h => h) (Or.inl ⟨by rfl, ?_⟩) ?_ ?_
                rotate_left
                · intro w'
                  go_simp
                  with_reducible rfl
                rotate_left
                · simp only [Act.put, List.setIfInBounds_toArray, List.set_cons_zero, List.set_cons_succ, i64_w, i32_w]
                  rfl
                refine done_ (by kernel_rfl) ?_

                go_wp2
                go_ret
                exact ⟨by rw [HT.out]; rfl, HB6.out⟩
              · have s1 : (a0.toList == [112, 97, 116, 104]) = false := (eq_word (w := a0) (a := wPath) (by decide +kernel)).trans (decide_eq_false hw1)
                have HW1N := Aside0.mk hw1
                clear hw1
                by_cases hw2 : a0 = wMethod
                · have s2 : (a0.toList == [109, 101, 116, 104, 111, 100]) = true := (eq_word (w := a0) (a := wMethod) (by decide +kernel)).trans (decide_eq_true hw2)
                  have HT : Aside0 (t = a0 ++ bSp ++ a1) := ⟨by have h := HE2.out; rwa [if_neg (fun h => h.elim HW0N.out HW1N.out), if_pos (by simp [hw2])] at h⟩
                  clear hw2
                  go_enter Tryd.func40, Tryd.ntmps40
                  go_upto_region 1 with (fail)
                  rw [← HW1.out]
                  go_upto_region 13 with (refine wpList_store_row rfl 46 _ _ rfl w1.heap.size #[.string a0, .string a1] rfl rfl 46 #[.string ⟨#[]⟩, .string ⟨#[]⟩] (blk_new _ _) size_at rfl (by simp [Value.oneCell']) ?_)
                  rw [← HWA.out]
                  have u0 : wa.cell? ⟨w1.heap.size, 0, none⟩ = some (.string a0) := blk_cell HXA.out 0
                  have u1 : wa.cell? ⟨w1.heap.size, 1, none⟩ = some (.string a1) := blk_cell HXA.out 1
                  clear t0 t1 t2
                  go_wp2
                  go_ret
                  exact ⟨by rw [HT.out]; rfl, HBA.out⟩
                · have s2 : (a0.toList == [109, 101, 116, 104, 111, 100]) = false := (eq_word (w := a0) (a := wMethod) (by decide +kernel)).trans (decide_eq_false hw2)
                  have HW2N := Aside0.mk hw2
                  clear hw2
                  by_cases hw3 : a0 = wDest
                  · have s3 : (a0.toList == [100, 101, 115, 116]) = true := (eq_word (w := a0) (a := wDest) (by decide +kernel)).trans (decide_eq_true hw3)
                    have HT : Aside0 (t = a0 ++ bSp ++ a1) := ⟨by have h := HE2.out; rwa [if_neg (fun h => h.elim HW0N.out HW1N.out), if_pos (by simp [hw3])] at h⟩
                    clear hw3
                    go_enter Tryd.func40, Tryd.ntmps40
                    go_upto_region 1 with (fail)
                    rw [← HW1.out]
                    go_upto_region 13 with (refine wpList_store_row rfl 46 _ _ rfl w1.heap.size #[.string a0, .string a1] rfl rfl 46 #[.string ⟨#[]⟩, .string ⟨#[]⟩] (blk_new _ _) size_at rfl (by simp [Value.oneCell']) ?_)
                    rw [← HWA.out]
                    have u0 : wa.cell? ⟨w1.heap.size, 0, none⟩ = some (.string a0) := blk_cell HXA.out 0
                    have u1 : wa.cell? ⟨w1.heap.size, 1, none⟩ = some (.string a1) := blk_cell HXA.out 1
                    clear t0 t1 t2
                    go_wp2
                    go_ret
                    exact ⟨by rw [HT.out]; rfl, HBA.out⟩
                  · have s3 : (a0.toList == [100, 101, 115, 116]) = false := (eq_word (w := a0) (a := wDest) (by decide +kernel)).trans (decide_eq_false hw3)
                    have HW3N := Aside0.mk hw3
                    clear hw3
                    by_cases hw4 : a0 = wScheme
                    · have s4 : (a0.toList == [115, 99, 104, 101, 109, 101]) = true := (eq_word (w := a0) (a := wScheme) (by decide +kernel)).trans (decide_eq_true hw4)
                      have HT : Aside0 (t = a0 ++ bSp ++ a1) := ⟨by have h := HE2.out; rwa [if_neg (fun h => h.elim HW0N.out HW1N.out), if_pos (by simp [hw4])] at h⟩
                      clear hw4
                      go_enter Tryd.func40, Tryd.ntmps40
                      go_upto_region 1 with (fail)
                      rw [← HW1.out]
                      go_upto_region 13 with (refine wpList_store_row rfl 46 _ _ rfl w1.heap.size #[.string a0, .string a1] rfl rfl 46 #[.string ⟨#[]⟩, .string ⟨#[]⟩] (blk_new _ _) size_at rfl (by simp [Value.oneCell']) ?_)
                      rw [← HWA.out]
                      have u0 : wa.cell? ⟨w1.heap.size, 0, none⟩ = some (.string a0) := blk_cell HXA.out 0
                      have u1 : wa.cell? ⟨w1.heap.size, 1, none⟩ = some (.string a1) := blk_cell HXA.out 1
                      clear t0 t1 t2
                      go_wp2
                      go_ret
                      exact ⟨by rw [HT.out]; rfl, HBA.out⟩
                    · have s4 : (a0.toList == [115, 99, 104, 101, 109, 101]) = false := (eq_word (w := a0) (a := wScheme) (by decide +kernel)).trans (decide_eq_false hw4)
                      have HW4N := Aside0.mk hw4
                      clear hw4
                      by_cases hw5 : a0 = wHeader
                      · have s5 : (a0.toList == [104, 101, 97, 100, 101, 114]) = true := (eq_word (w := a0) (a := wHeader) (by decide +kernel)).trans (decide_eq_true hw5)
                        have HT : Aside0 (t = a0 ++ bSp ++ a1) := ⟨by have h := HE2.out; rwa [if_neg (fun h => h.elim HW0N.out HW1N.out), if_pos (by simp [hw5])] at h⟩
                        clear hw5
                        go_enter Tryd.func40, Tryd.ntmps40
                        go_upto_region 1 with (fail)
                        rw [← HW1.out]
                        go_upto_region 13 with (refine wpList_store_row rfl 46 _ _ rfl w1.heap.size #[.string a0, .string a1] rfl rfl 46 #[.string ⟨#[]⟩, .string ⟨#[]⟩] (blk_new _ _) size_at rfl (by simp [Value.oneCell']) ?_)
                        rw [← HWA.out]
                        have u0 : wa.cell? ⟨w1.heap.size, 0, none⟩ = some (.string a0) := blk_cell HXA.out 0
                        have u1 : wa.cell? ⟨w1.heap.size, 1, none⟩ = some (.string a1) := blk_cell HXA.out 1
                        clear t0 t1 t2
                        go_wp2
                        go_ret
                        exact ⟨by rw [HT.out]; rfl, HBA.out⟩
                      · have s5 : (a0.toList == [104, 101, 97, 100, 101, 114]) = false := (eq_word (w := a0) (a := wHeader) (by decide +kernel)).trans (decide_eq_false hw5)
                        have HW5N := Aside0.mk hw5
                        clear hw5
                        have HT : Aside0 (t = a0) := ⟨by
                          have h := HE2.out
                          rwa [if_neg (fun h => h.elim HW0N.out HW1N.out), if_neg (fun h => h.elim HW2N.out fun h => h.elim HW3N.out fun h => h.elim HW4N.out HW5N.out)] at h⟩
                        go_enter Tryd.func40, Tryd.ntmps40
                        go_upto_region 1 with (fail)
                        rw [← HW1.out]
                        go_upto_region 13 with (refine wpList_store_row rfl 46 _ _ rfl w1.heap.size #[.string a0, .string a1] rfl rfl 46 #[.string ⟨#[]⟩, .string ⟨#[]⟩] (blk_new _ _) size_at rfl (by simp [Value.oneCell']) ?_)
                        rw [← HWA.out]
                        have u0 : wa.cell? ⟨w1.heap.size, 0, none⟩ = some (.string a0) := blk_cell HXA.out 0
                        have u1 : wa.cell? ⟨w1.heap.size, 1, none⟩ = some (.string a1) := blk_cell HXA.out 1
                        clear t0 t1 t2
                        go_wp2
                        go_ret
                        exact ⟨by rw [HT.out]; rfl, HBA.out⟩
end Go.Proofs.YtngedmioeodmfaaDoor.Pu
namespace Go.Proofs.YtngedmioeodmfaaDoor.Pu
open Go.RowKit Go.Proofs.YtngedmioeodmfaaDoor.Pr Go.Proofs.YtngedmioeodmfaaDoorW.PrintWords Go.Proofs.YtngedmioeodmfaaDoorW.PrintLast Go.Proofs.YtngedmioeodmfaaDoorW.PrintMore Go.Proofs.YtngedmioeodmfaaDoor.Lx
open Go.Proofs.YtngedmioeodmfaaDoor.Ps hiding Tk
set_option linter.unusedVariables false
set_option linter.unusedSimpArgs false
def bCsp : ByteArray := ⟨#[99, 115, 112, 32]⟩
def bShare : ByteArray := ⟨#[115, 104, 97, 114, 101, 32]⟩
def bMeth : ByteArray := ⟨#[32, 109, 101, 116, 104, 111, 100, 32]⟩
def bHead : ByteArray := ⟨#[32, 104, 101, 97, 100, 101, 114, 32]⟩
def bCred : ByteArray := ⟨#[32, 99, 114, 101, 100, 115]⟩
def bMix : ByteArray := ⟨#[109, 105, 120, 101, 100, 32]⟩
def bDef : ByteArray := ⟨#[100, 101, 102, 97, 117, 108, 116, 32]⟩
def bIf : ByteArray := ⟨#[32, 105, 102, 32]⟩
def bSemi : ByteArray := ⟨#[59, 10]⟩
def sayB (b : Bool) : ByteArray := if b then wAllow else wDeny
def addAll (pre a : ByteArray) (l : List ByteArray) : ByteArray := l.foldl (fun a m => a ++ (pre ++ m)) a
def cspT (s : ByteArray) : ByteArray := bCsp ++ quoteB s
def shareT (s : S44) : ByteArray :=
  let x := addAll bHead (addAll bMeth (bShare ++ quoteB s.f0) s.f1) s.f2
  if s.f3 then x ++ bCred else x
def ruleT (r : S51) : ByteArray := sayB r.f0 ++ bIf ++ condT r.f1
def linesT (csp : List ByteArray) (sh : List (S44)) (mixed : ByteArray) (rules : List (S51)) (allow : Bool) : List ByteArray :=
  csp.map cspT ++ sh.map shareT ++ [bMix ++ mixed] ++ rules.map ruleT ++ [bDef ++ sayB allow]
def polText (csp : List ByteArray) (sh : List (S44)) (mixed : ByteArray) (rules : List (S51)) (allow : Bool) : ByteArray := joinB (linesT csp sh mixed rules allow) bSemi ++ bSemi
/-- A policy whose text fits. -/
structure OkP (csp : List ByteArray) (sh : List (S44)) (mixed : ByteArray) (rules : List (S51)) (allow : Bool) : Prop where
  cl : csp.length ≤ 100000
  cs : ∀ s ∈ csp, s.size ≤ 1000000 ∧ (quoteB s).size ≤ 10000000
  sl : sh.length ≤ 100000
  ss : ∀ s ∈ sh, s.f0.size ≤ 1000000 ∧ (quoteB s.f0).size ≤ 10000000
  sm : ∀ s ∈ sh, s.f1.length ≤ 1000000 ∧ ∀ m ∈ s.f1, m.size ≤ 1000000
  sn : ∀ s ∈ sh, s.f2.length ≤ 1000000 ∧ ∀ m ∈ s.f2, m.size ≤ 1000000
  mx : mixed.size ≤ 1000000
  rl : rules.length ≤ 100000
  rr : ∀ r ∈ rules, OkT r.f1
  zz : (joinB (linesT csp sh mixed rules allow) bSemi).size ≤ 100000000000000
theorem take_map {α β : Type} (f : α → β) (l : List α) {i : Nat} (h : i < l.length) : (l.map f).take (i + 1) = (l.map f).take i ++ [f l[i]] := by
  rw [List.take_add_one, List.getElem?_map, List.getElem?_eq_getElem h]; rfl
theorem addAll_next (pre a : ByteArray) (l : List ByteArray) {i : Nat} (h : i < l.length) : addAll pre a (l.take (i + 1)) = addAll pre a (l.take i) ++ (pre ++ l[i]) := by
  simp only [addAll, List.take_add_one, List.getElem?_eq_getElem h, Option.toList_some, List.foldl_append, List.foldl_cons, List.foldl_nil]
theorem rd_str {l : List ByteArray} {i : Nat} (h : i < l.length) : rdOf ByteArray.empty l (i : Int) = l[i] := by simp [rdOf, h]
/-- A call of a function value, in a region. -/
theorem goesV_ {P : Program} {ops : Array Oper} {Q : Exit → Act → World → Prop} {oi : Oper} {N : Option Tmp} {a : Act} {w : World} {K : Act → World → Prop} {f : FuncId} {fn : Func} {x : Operand} {as_ : Array Operand} {ts : Array TypeId} (hf : P.funcs[f]? = some fn) (hname : (fn.name == "runtime.NumGoroutine") = false) (hb : fn.body.isSome = true) (args : Array Value)
    (hw : Region.wanted oi (yielded ops a.tmps) = true) (hN : oi.dst = N) (hop : oi.op = .call { callee := .value x, args := as_, argTypes := ts }) (hx : a.eval x = a.eval (.func f)) (hargs : as_.map a.eval = args)
    (h : Calls P f args w fun e w' => ∃ v, e = .returned v ∧ K (a.put N v) w') : if Region.wanted oi (yielded ops a.tmps) = true then Oper.wp P oi a w K Q else K (a.put N undef) w := by
  refine call_ f args hw hN ?_ h
  have he := enters_ hf hname hb args w
  have hx2 : a.eval x = .func (.func f) #[] #[] := hx
  unfold execOp
  simp [hop, resolve, Deferred.ofValue, invoke, hx2, hargs, he]
theorem size_rule : (Tryd.prog.info? 51).map (·.size) = some 5 := by kernel_rfl
theorem says_calls (b : Bool) (w : World) : Calls Tryd.prog 39 #[.bool b] w fun e w' => e = .returned (.string (sayB b)) ∧ Below w.heap.size w w' := by
  cases b
  · go_enter Tryd.func39, Tryd.ntmps39
    go_wp2
    go_ret
    exact ⟨rfl, Below.refl _ _⟩
  · go_enter Tryd.func39, Tryd.ntmps39
    go_wp2
    go_ret
    exact ⟨rfl, Below.refl _ _⟩
end Go.Proofs.YtngedmioeodmfaaDoor.Pu
namespace Go.Proofs.YtngedmioeodmfaaDoor.Pu
open Go.RowKit Go.Proofs.YtngedmioeodmfaaDoor.Pr Go.Proofs.YtngedmioeodmfaaDoorW.PrintWords Go.Proofs.YtngedmioeodmfaaDoor.Lx
open Go.Proofs.YtngedmioeodmfaaDoor.Ps hiding Tk
set_option linter.unusedVariables false
set_option linter.unusedSimpArgs false
/-- A piece that reads by itself. -/
def Cp (l : List Int) (ks : List Ky) : Prop := ∃ ts, Lx1 l ts ∧ ts.map key = ks ∧ V l
/-- A piece that reads where no letter stands behind it. -/
def Rd (l : List Int) (ks : List Ky) : Prop := ∀ (c : Int) (r : List Int) (kr : List Ky), pWord c = false → Cp (c :: r) kr → Cp (l ++ c :: r) (ks ++ kr)
theorem Cp.nil : Cp [] [] := ⟨[], Lx1.nil, rfl, V_nil⟩
theorem Cp.app {a b : List Int} {ka kb : List Ky} : Cp a ka → Cp b kb → Cp (a ++ b) (ka ++ kb)
  | ⟨ta, ha, ka', va⟩, ⟨tb, hb, kb', vb⟩ => ⟨_, ha.app hb, by rw [List.map_append, key_up, ka', kb'], V_app va vb⟩
theorem Cp.rd {a : List Int} {ka : List Ky} (h : Cp a ka) : Rd a ka := fun _ _ _ _ hr => h.app hr
theorem Cp.then_ {a b : List Int} {ka kb : List Ky} (h : Cp a ka) (hb : Rd b kb) : Rd (a ++ b) (ka ++ kb) := fun c r kr hc hr => by
  rw [List.append_assoc, List.append_assoc]; exact h.app (hb c r kr hc hr)
theorem Rd.then_ {a b : List Int} {c : Int} {ka kb : List Ky} (h : Rd a ka) (hc : pWord c = false) (hb : Rd (c :: b) kb) : Rd (a ++ c :: b) (ka ++ kb) := fun d r kr hd hr => by
  rw [List.append_assoc, List.append_assoc]
  exact h c (b ++ d :: r) (kb ++ kr) hc (hb d r kr hd hr)
theorem Rd.end_ {a b : List Int} {c : Int} {ka kb : List Ky} (h : Rd a ka) (hc : pWord c = false) (hb : Cp (c :: b) kb) : Cp (a ++ c :: b) (ka ++ kb) := h c b kb hc hb
/-- A word's text. -/
def WordT (w : ByteArray) : Prop := (∃ c l, bytesOf w = c :: l ∧ pBlank c = false ∧ c ≠ 35 ∧ pLetter c = true ∧ ∀ x ∈ l, pWord x = true) ∧ w.size ≤ 3000
/-- A quoted text. -/
def StrT (s : ByteArray) : Prop := (∀ x ∈ bytesOf s, x ≠ 10) ∧ V (bytesOf s) ∧ s.size ≤ 3000
theorem WordT.asc {w : ByteArray} (h : WordT w) : V (bytesOf w) := by
  obtain ⟨⟨c, l, h2, h3, h4, h5, h6⟩, _⟩ := h
  have hrg := bytesOf_range w
  rw [h2] at hrg ⊢
  apply V_ascii
  intro x hx
  have hr := hrg x hx
  rcases List.mem_cons.1 hx with rfl | hx
  · obtain ⟨q, hq⟩ : ∃ q : Fin 256, (q.val : Int) = x := ⟨⟨x.toNat, by omega⟩, by simp; omega⟩
    have := letter_word q (by rw [hq]; exact h5)
    rw [hq] at this
    exact word_lt hr this
  · exact word_lt hr (h6 x hx)
theorem rd_word {w : ByteArray} (h : WordT w) : Rd (bytesOf w) [(1, w)] := by
  intro c r kr hc hr
  have hva := h.asc
  obtain ⟨⟨d, l, hb, h1, h2, h3, h4⟩, _⟩ := h
  obtain ⟨ts, hl, hk, hv⟩ := hr
  have hw : rs 0 .sk [] (bytesOf w) = .go (.wd 0 (bytesOf w)) [] := by
    rw [hb, rs]
    have e1 : step 0 d .sk [] = .go (.wd 0 [d]) [] := by simp [step, st1, h1, h2, h3]
    rw [e1]
    have := rs_wordrow 0 [] l 1 [d] h4
    simpa using this
  refine ⟨_, Lx1.word hw hc hl, ?_, V_app hva hv⟩
  rw [List.map_cons, key_up, hk, str_bytesOf]
  rfl
theorem cp_quote {s : ByteArray} (h : StrT s) : Cp (quoteL (bytesOf s)) [(2, s)] := by
  refine ⟨_, rs_quote 0 [] (bytesOf s) h.1, ?_, V_quoteL h.2.1⟩
  rw [str_bytesOf]
  rfl
theorem bytes_quote (s : ByteArray) : bytesOf (quoteB s) = quoteL (bytesOf s) := by
  exact bytesOf_str _ (quoteL_rng (bytesOf_range s))
/-- What a condition's text is made of. -/
inductive Shape : Cd → Prop
  | true_ : Shape (cond0 1 [])
  | false_ : Shape (cond0 2 [])
  | bare (w : ByteArray) (hw : w ∈ [wSame, wTrusted, wCreds, wCors]) : Shape ⟨3, ⟨w, ⟨#[]⟩⟩, []⟩
  | wordA (w t : ByteArray) (hw : w ∈ [wMethod, wDest, wScheme, wHeader]) (ht : WordT t) (hlow : w ≠ wMethod → lowB t = t) : Shape ⟨3, ⟨w, t⟩, []⟩
  | strA (w t : ByteArray) (hw : w ∈ [wHost, wPath]) (ht : StrT t) : Shape ⟨3, ⟨w, t⟩, []⟩
  | not_ (c : Cd) (h : Shape c) : Shape (cond0 4 [c])
  | many (k : Int) (hk : k = 5 ∨ k = 6) (l : List Cd) (hl : 2 ≤ l.length) (h : ∀ c ∈ l, Shape c) : Shape (cond0 k l)
def sepK (w : ByteArray) : List (List Ky) → List Ky
  | [] => []
  | [x] => x
  | x :: y :: l => x ++ (1, w) :: sepK w (y :: l)
def amongK (k : Int) (x : List Ky) : List Ky := if k = 6 ∨ k = 5 then (3, ⟨#[40]⟩) :: (x ++ [(4, ⟨#[41]⟩)]) else x
mutual
def cdK : Cd → List Ky
  | ⟨k, a, l⟩ => if k = 1 then [(1, wTrue)] else if k = 2 then [(1, wFalse)] else if k = 4 then (1, wNot) :: sepK wAnd (cdsK l) else if k = 5 then sepK wAnd (cdsK l) else if k = 6 then sepK wOr (cdsK l)
    else if a.f0 = wHost ∨ a.f0 = wPath then [(1, a.f0), (2, a.f1)] else if a.f0 = wMethod ∨ a.f0 = wDest ∨ a.f0 = wScheme ∨ a.f0 = wHeader then [(1, a.f0), (1, a.f1)] else [(1, a.f0)]
def cdsK : List Cd → List (List Ky)
  | [] => []
  | c :: l => amongK c.f0 (cdK c) :: cdsK l
end
theorem join_two (x y : ByteArray) (l : List ByteArray) (sep : ByteArray) : bytesOf (joinB (x :: y :: l) sep) = bytesOf x ++ (bytesOf sep ++ bytesOf (joinB (y :: l) sep)) := by
  rw [← bytesOf_app, ← bytesOf_app]
  congr 1
/-- Pieces joined read one by one. -/
theorem rd_join {w : ByteArray} {c : Int} {sep : List Int} {sepB : ByteArray} (hs : bytesOf sepB = c :: sep) (hc : pWord c = false) (hsep : Cp (c :: sep) [(1, w)]) : ∀ (xs : List ByteArray) (ks : List (List Ky)), 0 < xs.length → xs.length = ks.length →
    (∀ i (h : i < xs.length) (h' : i < ks.length), Rd (bytesOf xs[i]) ks[i]) → Rd (bytesOf (joinB xs sepB)) (sepK w ks)
  | [], _, h, _, _ => absurd h (Nat.lt_irrefl 0)
  | [x], [], _, h, _ => by cases h
  | [x], [k], _, _, h => by rw [joinB_one]; exact h 0 (Nat.zero_lt_one) (Nat.zero_lt_one)
  | [x], _ :: _ :: _, _, h, _ => by simp at h
  | x :: y :: l, [], _, h, _ => by cases h
  | x :: y :: l, [k], _, h, _ => by simp at h
  | x :: y :: l, k :: m :: ks, _, he, h => by
    have ih := rd_join hs hc hsep (y :: l) (m :: ks) (Nat.succ_pos _) (by simpa using he) (fun i hi hi' => h (i + 1) (Nat.succ_lt_succ hi) (Nat.succ_lt_succ hi'))
    rw [join_two, hs]
    exact (h 0 (Nat.succ_pos _) (Nat.succ_pos _)).then_ hc (hsep.then_ ih)
theorem cdK_eq (c : Cd) : cdK c = if c.f0 = 1 then [(1, wTrue)] else if c.f0 = 2 then [(1, wFalse)] else if c.f0 = 4 then (1, wNot) :: sepK wAnd (cdsK c.f2) else if c.f0 = 5 then sepK wAnd (cdsK c.f2) else if c.f0 = 6 then sepK wOr (cdsK c.f2)
    else if c.f1.f0 = wHost ∨ c.f1.f0 = wPath then [(1, c.f1.f0), (2, c.f1.f1)] else if c.f1.f0 = wMethod ∨ c.f1.f0 = wDest ∨ c.f1.f0 = wScheme ∨ c.f1.f0 = wHeader then [(1, c.f1.f0), (1, c.f1.f1)] else [(1, c.f1.f0)] := by
  cases c; rw [cdK]
theorem cdsK_map (l : List Cd) : cdsK l = l.map fun c => amongK c.f0 (cdK c) := by
  induction l with
  | nil => rfl
  | cons c l ih => rw [cdsK, ih]; rfl
theorem cp_open : Cp [40] [(3, ⟨#[40]⟩)] := ⟨[⟨3, 0, ⟨#[40]⟩⟩], by unfold Lx1; kernel_rfl, rfl, V_ascii _ (by decide)⟩
theorem cp_shut : Cp [41] [(4, ⟨#[41]⟩)] := ⟨[⟨4, 0, ⟨#[41]⟩⟩], by unfold Lx1; kernel_rfl, rfl, V_ascii _ (by decide)⟩
theorem cp_and : Cp [32, 97, 110, 100, 32] [(1, wAnd)] := ⟨[⟨1, 1, wAnd⟩], by unfold Lx1; kernel_rfl, rfl, V_ascii _ (by decide)⟩
theorem cp_or : Cp [32, 111, 114, 32] [(1, wOr)] := ⟨[⟨1, 1, wOr⟩], by unfold Lx1; kernel_rfl, rfl, V_ascii _ (by decide)⟩
theorem cp_not : Cp [110, 111, 116, 32] [(1, wNot)] := ⟨[⟨1, 0, wNot⟩], by unfold Lx1; kernel_rfl, rfl, V_ascii _ (by decide)⟩
theorem cp_sp : Cp [32] [] := ⟨[], by unfold Lx1; kernel_rfl, rfl, V_ascii _ (by decide)⟩
theorem rd_among {k : Int} {x : ByteArray} {ks : List Ky} (h : Rd (bytesOf x) ks) : Rd (bytesOf (amongB k x)) (amongK k ks) := by
  unfold amongB amongK
  split
  · rw [bytesOf_app, bytesOf_app]
    have e1 : bytesOf bOpen = [40] := by decide +kernel
    have e2 : bytesOf bShut = [41] := by decide +kernel
    rw [e1, e2, List.append_assoc]
    exact cp_open.then_ (h.then_ (by decide +kernel) cp_shut.rd)
  · exact h
theorem word_known {w : ByteArray} (h : w ∈ [wTrue, wFalse, wSame, wTrusted, wCreds, wCors, wMethod, wDest, wScheme, wHeader, wHost, wPath]) : WordT w := by
  have hd : ∀ (w : ByteArray), (match bytesOf w with
    | [] => false
    | c :: l => !pBlank c && decide (c ≠ 35) && pLetter c && l.all pWord) = true → w.size ≤ 3000 → WordT w := by
    intro w h hz
    rcases hb : bytesOf w with _ | ⟨c, l⟩
    · rw [hb] at h; cases h
    · rw [hb] at h
      simp only [Bool.and_eq_true, Bool.not_eq_true', decide_eq_true_eq, List.all_eq_true] at h
      exact ⟨⟨c, l, hb, h.1.1.1, h.1.1.2, h.1.2, h.2⟩, hz⟩
  simp only [List.mem_cons, List.mem_nil_iff, or_false] at h
  rcases h with rfl | rfl | rfl | rfl | rfl | rfl | rfl | rfl | rfl | rfl | rfl | rfl <;> exact hd _ (by decide +kernel) (by decide +kernel)
end Go.Proofs.YtngedmioeodmfaaDoor.Pu
namespace Go.Proofs.YtngedmioeodmfaaDoor.Pu
open Go.RowKit Go.Proofs.YtngedmioeodmfaaDoor.Pr Go.Proofs.YtngedmioeodmfaaDoorW.PrintWords Go.Proofs.YtngedmioeodmfaaDoor.Lx
open Go.Proofs.YtngedmioeodmfaaDoor.Ps hiding Tk
set_option linter.unusedVariables false
set_option linter.unusedSimpArgs false
theorem rd_kids {w : ByteArray} {c : Int} {sep : List Int} {sepB : ByteArray} (hs : bytesOf sepB = c :: sep) (hc : pWord c = false) (hsep : Cp (c :: sep) [(1, w)]) {l : List Cd} (h0 : 0 < l.length) (h : ∀ k ∈ l, Rd (bytesOf (condT k)) (cdK k)) :
    Rd (bytesOf (joinB (amongsT l) sepB)) (sepK w (cdsK l)) := by
  refine rd_join hs hc hsep _ _ (by rw [amongsT_map, List.length_map]; exact h0) (by rw [amongsT_map, cdsK_map, List.length_map, List.length_map]) (fun i hi hi' => ?_)
  simp only [amongsT_map, cdsK_map, List.getElem_map]
  exact rd_among (h _ (List.getElem_mem _))
theorem b_and : bytesOf bAnd = 32 :: [97, 110, 100, 32] := by decide +kernel
theorem b_or : bytesOf bOr = 32 :: [111, 114, 32] := by decide +kernel
theorem rd_cd {c : Cd} (h : Shape c) : Rd (bytesOf (condT c)) (cdK c) := by
  induction h with
  | true_ =>
    rw [show condT (cond0 1 []) = wTrue from by rw [condT_eq]; rfl, show cdK (cond0 1 []) = [(1, wTrue)] from by rw [cdK_eq]; rfl]
    exact rd_word (word_known (by simp))
  | false_ =>
    rw [show condT (cond0 2 []) = wFalse from by rw [condT_eq]; rfl, show cdK (cond0 2 []) = [(1, wFalse)] from by rw [cdK_eq]; rfl]
    exact rd_word (word_known (by simp))
  | bare w hw =>
    have e1 : condT ⟨3, ⟨w, ⟨#[]⟩⟩, []⟩ = w := by
      rw [condT_eq]
      simp only [List.mem_cons, List.mem_nil_iff, or_false] at hw
      rcases hw with rfl | rfl | rfl | rfl <;> decide +kernel
    have e2 : cdK ⟨3, ⟨w, ⟨#[]⟩⟩, []⟩ = [(1, w)] := by
      rw [cdK_eq]
      simp only [List.mem_cons, List.mem_nil_iff, or_false] at hw
      rcases hw with rfl | rfl | rfl | rfl <;> decide +kernel
    rw [e1, e2]
    exact rd_word (word_known (by simp only [List.mem_cons, List.mem_nil_iff, or_false] at hw ⊢; rcases hw with rfl | rfl | rfl | rfl <;> simp))
  | wordA w t hw ht _ =>
    have hn : ¬ (w = wHost ∨ w = wPath) := by
      simp only [List.mem_cons, List.mem_nil_iff, or_false] at hw
      rcases hw with rfl | rfl | rfl | rfl <;> decide +kernel
    have hy : w = wMethod ∨ w = wDest ∨ w = wScheme ∨ w = wHeader := by simpa using hw
    have e1 : condT ⟨3, ⟨w, t⟩, []⟩ = w ++ bSp ++ t := by
      rw [condT_eq]
      rw [if_neg (show ¬ (3 : Int) = 1 by decide), if_neg (show ¬ (3 : Int) = 2 by decide), if_neg (show ¬ (3 : Int) = 4 by decide), if_neg (show ¬ (3 : Int) = 5 by decide), if_neg (show ¬ (3 : Int) = 6 by decide), if_neg hn, if_pos hy]
    have e2 : cdK ⟨3, ⟨w, t⟩, []⟩ = [(1, w)] ++ ([] ++ [(1, t)]) := by
      rw [cdK_eq]
      rw [if_neg (show ¬ (3 : Int) = 1 by decide), if_neg (show ¬ (3 : Int) = 2 by decide), if_neg (show ¬ (3 : Int) = 4 by decide), if_neg (show ¬ (3 : Int) = 5 by decide), if_neg (show ¬ (3 : Int) = 6 by decide), if_neg hn, if_pos hy]
      rfl
    rw [e1, e2, bytesOf_app, bytesOf_app, show bytesOf bSp = [32] from by decide +kernel, List.append_assoc]
    exact (rd_word (word_known (by rcases hy with rfl | rfl | rfl | rfl <;> simp))).then_ (by decide +kernel) (cp_sp.then_ (rd_word ht))
  | strA w t hw ht =>
    have hy : w = wHost ∨ w = wPath := by simpa using hw
    have e1 : condT ⟨3, ⟨w, t⟩, []⟩ = w ++ bSp ++ quoteB t := by
      rw [condT_eq]
      rw [if_neg (show ¬ (3 : Int) = 1 by decide), if_neg (show ¬ (3 : Int) = 2 by decide), if_neg (show ¬ (3 : Int) = 4 by decide), if_neg (show ¬ (3 : Int) = 5 by decide), if_neg (show ¬ (3 : Int) = 6 by decide), if_pos hy]
    have e2 : cdK ⟨3, ⟨w, t⟩, []⟩ = [(1, w)] ++ ([] ++ [(2, t)]) := by
      rw [cdK_eq]
      rw [if_neg (show ¬ (3 : Int) = 1 by decide), if_neg (show ¬ (3 : Int) = 2 by decide), if_neg (show ¬ (3 : Int) = 4 by decide), if_neg (show ¬ (3 : Int) = 5 by decide), if_neg (show ¬ (3 : Int) = 6 by decide), if_pos hy]
      rfl
    rw [e1, e2, bytesOf_app, bytesOf_app, bytes_quote, show bytesOf bSp = [32] from by decide +kernel, List.append_assoc]
    exact (rd_word (word_known (by rcases hy with rfl | rfl <;> simp))).then_ (by decide +kernel) (cp_sp.then_ (cp_quote ht).rd)
  | not_ c hc ih =>
    rw [condT_eq, cdK_eq]
    show Rd (bytesOf (bNot ++ joinB (amongsT [c]) bAnd)) ((1, wNot) :: sepK wAnd (cdsK [c]))
    rw [bytesOf_app, show bytesOf bNot = [110, 111, 116, 32] from by decide +kernel]
    exact cp_not.then_ (rd_kids b_and (by decide +kernel) cp_and (Nat.zero_lt_one) (fun k hk => by rw [List.mem_singleton] at hk; subst hk; exact ih))
  | many k hk l hl h ih =>
    rw [condT_eq, cdK_eq]
    rcases hk with rfl | rfl
    · exact rd_kids b_and (by decide +kernel) cp_and (Nat.lt_of_lt_of_le (by decide : 0 < 2) hl) ih
    · exact rd_kids b_or (by decide +kernel) cp_or (Nat.lt_of_lt_of_le (by decide : 0 < 2) hl) ih
end Go.Proofs.YtngedmioeodmfaaDoor.Pu
namespace Go.Proofs.YtngedmioeodmfaaDoor.Pu
open Go.RowKit Go.Proofs.YtngedmioeodmfaaDoor.Pr Go.Proofs.YtngedmioeodmfaaDoorW.PrintWords Go.Proofs.YtngedmioeodmfaaDoor.Lx
open Go.Proofs.YtngedmioeodmfaaDoor.Ps hiding Tk
set_option linter.unusedVariables false
set_option linter.unusedSimpArgs false
/-- Too big is what it says. -/
def E2 {α : Type} (r : Res α) : Prop := ∃ a, r = .error (2, a)
theorem sepK_cons (w : ByteArray) (x : List Ky) : ∀ l : List (List Ky), sepK w (x :: l) = x ++ l.flatMap fun y => (1, w) :: y
  | [] => by rw [sepK]; simp
  | y :: l => by rw [sepK, sepK_cons w y l, List.flatMap_cons]; simp
theorem kidsL_run {T : List Tk} {e : Int} {one : Nat → Res Cd} {w : ByteArray} {G : List Ky → Prop} (hG : ∀ m, G ((1, w) :: m)) : ∀ (l : List Cd) (f p : Nat) (acc : List Cd) (ws : List Ky), l.length < f →
    G ws → (∀ c ∈ l, ∀ q vs, G vs → KA T q (amongK c.f0 (cdK c) ++ vs) → one q = .ok (c, q + (amongK c.f0 (cdK c)).length) ∨ E2 (one q)) →
    KA T p ((cdsK l).flatMap (fun y => (1, w) :: y) ++ ws) → isP T e [w] (p + ((cdsK l).flatMap fun y => (1, w) :: y).length) = false →
    kidsL T e one w f acc p = .ok (acc ++ l, p + ((cdsK l).flatMap fun y => (1, w) :: y).length) ∨ E2 (kidsL T e one w f acc p)
  | [], f + 1, p, acc, ws, _, _, _, _, hi => by
    left
    have hi : isP T e [w] p = false := hi
    rw [kidsL, hi, if_neg (by decide)]
    simp [cdsK]
  | c :: l, f + 1, p, acc, ws, hf, hg, h1, hk, hi => by
    have hg2 : G ((cdsK l).flatMap (fun y => (1, w) :: y) ++ ws) := by
      cases l with
      | nil => exact hg
      | cons d l => rw [cdsK, List.flatMap_cons]; exact hG _
    have hk2 : KA T p ((1, w) :: (amongK c.f0 (cdK c) ++ ((cdsK l).flatMap (fun y => (1, w) :: y) ++ ws))) := by simpa [cdsK] using hk
    have hip : isP T e [w] p = true := by rw [hk2.is]; simp [memB]
    rw [kidsL, hip, if_pos rfl]
    rcases h1 c (List.mem_cons_self ..) (p + 1) _ hg2 hk2.next with ho | ⟨a, ho⟩
    · rw [ho]
      dsimp only
      have hl : p + ((cdsK (c :: l)).flatMap fun y => (1, w) :: y).length = p + 1 + (amongK c.f0 (cdK c)).length + ((cdsK l).flatMap fun y => (1, w) :: y).length := by
        rw [cdsK, List.flatMap_cons, List.length_append, List.length_cons]; omega
      rw [hl] at hi ⊢
      rcases kidsL_run hG l f _ (acc ++ [c]) ws (by simpa using hf) hg (fun d hd => h1 d (List.mem_cons_of_mem _ hd)) hk2.next.drop hi with h | h
      · left; rw [h, List.append_assoc]; rfl
      · exact .inr h
    · right; exact ⟨a, by rw [ho]⟩
theorem cdsK_len (l : List Cd) : (cdsK l).length = l.length := by rw [cdsK_map, List.length_map]
/-- Kids, where there are at least two. -/
theorem kidsP_many {T : List Tk} {e : Int} {one : Nat → Res Cd} {w : ByteArray} {kind : Int} {c : Cd} {l : List Cd} (h0 : 0 < l.length) {p : Nat} {ws : List Ky} {G : List Ky → Prop} (hG : ∀ m, G ((1, w) :: m)) (hg : G ws)
    (h1 : ∀ d ∈ c :: l, ∀ q vs, G vs → KA T q (amongK d.f0 (cdK d) ++ vs) → one q = .ok (d, q + (amongK d.f0 (cdK d)).length) ∨ E2 (one q))
    (hk : KA T p (sepK w (cdsK (c :: l)) ++ ws)) (hi : isP T e [w] (p + (sepK w (cdsK (c :: l))).length) = false) :
    kidsP T e kind w one p = .ok (cond0 kind (c :: l), p + (sepK w (cdsK (c :: l))).length) ∨ E2 (kidsP T e kind w one p) := by
  have hs : sepK w (cdsK (c :: l)) = amongK c.f0 (cdK c) ++ (cdsK l).flatMap fun y => (1, w) :: y := by rw [cdsK, sepK_cons]
  rw [hs] at hk hi ⊢
  rw [List.append_assoc] at hk
  rw [List.length_append, ← Nat.add_assoc] at hi ⊢
  unfold kidsP
  have hg2 : G ((cdsK l).flatMap (fun y => (1, w) :: y) ++ ws) := by
    cases l with
    | nil => exact hg
    | cons d l => rw [cdsK, List.flatMap_cons]; exact hG _
  rcases h1 c (List.mem_cons_self ..) p _ hg2 hk with ho | ⟨a, ho⟩
  · rw [ho]
    dsimp only
    have hd := hk.drop
    have hlen : l.length < T.length + 1 - (p + (amongK c.f0 (cdK c)).length) := by
      have h3 : l.length ≤ ((cdsK l).flatMap fun y => (1, w) :: y).length := by
        rw [← cdsK_len l]
        generalize cdsK l = m
        induction m with
        | nil => exact Nat.zero_le _
        | cons y m ih => rw [List.flatMap_cons, List.length_append, List.length_cons, List.length_cons]; omega
      have h4 := hd.weak.len
      omega
    rcases kidsL_run hG l _ _ [c] ws hlen hg (fun d hd => h1 d (List.mem_cons_of_mem _ hd)) hd hi with h | ⟨a, h⟩
    · left
      rw [h]
      dsimp only
      rw [if_neg (by rw [List.length_append, List.length_singleton]; omega)]
      rfl
    · right; exact ⟨a, by rw [h]⟩
  · right; exact ⟨a, by rw [ho]⟩
theorem atom_str {T : List Tk} {e : Int} {p : Nat} {ws : List Ky} {w t : ByteArray} (h : KA T p ((1, w) :: (2, t) :: ws)) (hw : w ∈ [wHost, wPath]) : atomP T e p = .ok (⟨3, ⟨w, t⟩, []⟩, p + 2) := by
  unfold atomP
  rw [h.word (by simp only [List.mem_cons, List.mem_nil_iff, or_false] at hw; rcases hw with rfl | rfl <;> decide +kernel)]
  dsimp only
  unfold atomK
  rw [h.next.take]
  simp only [List.mem_cons, List.mem_nil_iff, or_false] at hw
  rcases hw with rfl | rfl
  · rw [if_neg (by decide +kernel), if_neg (by decide +kernel), if_neg (by decide +kernel), if_neg (by decide +kernel), if_pos (.inl rfl)]; rfl
  · rw [if_neg (by decide +kernel), if_neg (by decide +kernel), if_neg (by decide +kernel), if_neg (by decide +kernel), if_pos (.inr rfl)]; rfl
theorem atom_word {T : List Tk} {e : Int} {p : Nat} {ws : List Ky} {w t : ByteArray} (h : KA T p ((1, w) :: (1, t) :: ws)) (hw : w ∈ [wMethod, wDest, wScheme, wHeader]) (hl : w ≠ wMethod → lowB t = t) : atomP T e p = .ok (⟨3, ⟨w, t⟩, []⟩, p + 2) := by
  unfold atomP
  rw [h.word (by simp only [List.mem_cons, List.mem_nil_iff, or_false] at hw; rcases hw with rfl | rfl | rfl | rfl <;> decide +kernel)]
  dsimp only
  unfold atomK
  rw [h.next.take]
  simp only [List.mem_cons, List.mem_nil_iff, or_false] at hw
  by_cases hm : w = wMethod
  · subst hm
    rw [if_neg (by decide +kernel), if_neg (by decide +kernel), if_pos rfl]; rfl
  · have hy : w = wDest ∨ w = wScheme ∨ w = wHeader := hw.resolve_left hm
    rw [if_neg (by rcases hy with rfl | rfl | rfl <;> decide +kernel), if_neg (by rcases hy with rfl | rfl | rfl <;> decide +kernel), if_neg hm, if_pos hy]
    show Except.ok ((⟨3, ⟨w, lowB t⟩, []⟩ : Cd), _) = _
    rw [hl hm]
theorem amongK_low {k : Int} (h : k ≠ 5) (h6 : k ≠ 6) (x : List Ky) : amongK k x = x := by
  unfold amongK; rw [if_neg (fun hh => hh.elim h6 h)]
/-- What stands where a 'not' may begin. -/
def NotOk (T : List Tk) (e : Int) (c : Cd) : Prop := ∀ n p ws, KA T p (amongK c.f0 (cdK c) ++ ws) → notN T e n p = .ok (c, p + (amongK c.f0 (cdK c)).length) ∨ E2 (notN T e n p)
theorem notN_atom {T : List Tk} {e : Int} {p : Nat} {ws : List Ky} {w : ByteArray} (h : KA T p ((1, w) :: ws)) (hw : w ≠ wNot) (n : Nat) : notN T e n p = atomP T e p := by
  have hi : isP T e [wNot] p = false := by rw [h.is]; simp [memB, hw]
  have h3 : ¬ (nxt T e p).f0 = 3 := by rw [(h.head e).2.1]; exact (by decide : ¬ (1 : Int) = 3)
  cases n <;> rw [notN, hi, if_neg (by decide), if_neg h3]
theorem isP_far {T : List Tk} {e : Int} {p : Nat} {k : Int} {x : ByteArray} {ws : List Ky} (h : KA T p ((k, x) :: ws)) (hk : k ≠ 1) (l : List ByteArray) : isP T e l p = false := by
  rw [h.is, decide_eq_false hk]; rfl
/-- Brackets' inside, read by 'or'. -/
theorem or_many {T : List Tk} {e : Int} {n p : Nat} {k : Int} (hk : k = 5 ∨ k = 6) {l : List Cd} (hl : 2 ≤ l.length) (h : ∀ c ∈ l, NotOk T e c) {y : Int} {x : ByteArray} {ws : List Ky} (hy : y ≠ 1)
    (hK : KA T p (cdK (cond0 k l) ++ (y, x) :: ws)) : orP T e (notN T e n) p = .ok (cond0 k l, p + (cdK (cond0 k l)).length) ∨ E2 (orP T e (notN T e n) p) := by
  obtain ⟨c, l', rfl⟩ : ∃ c l', l = c :: l' := by cases l with
    | nil => simp at hl
    | cons c l' => exact ⟨c, l', rfl⟩
  have h0 : 0 < l'.length := by simp only [List.length_cons] at hl; omega
  rcases hk with rfl | rfl
  · have e1 : cdK (cond0 5 (c :: l')) = sepK wAnd (cdsK (c :: l')) := by rw [cdK_eq]; rfl
    rw [e1] at hK ⊢
    unfold orP
    rcases kidsP_many (T := T) (e := e) (one := notN T e n) (w := wAnd) (kind := 5) (G := fun _ => True) h0 (fun _ => trivial) trivial (fun d hd q vs _ hq => h d hd n q vs hq) hK (isP_far hK.drop hy _) with ho | ⟨a, ho⟩
    · left; exact kids_one ho (isP_far hK.drop hy _)
    · right; exact ⟨a, kids_err ho⟩
  · have e1 : cdK (cond0 6 (c :: l')) = sepK wOr (cdsK (c :: l')) := by rw [cdK_eq]; rfl
    rw [e1] at hK ⊢
    unfold orP
    refine kidsP_many (G := fun vs => ∃ k x m, vs = (k, x) :: m ∧ ¬ (k = 1 ∧ x = wAnd)) h0 (fun m => ⟨1, wOr, m, rfl, fun hh => absurd hh.2 (by decide +kernel)⟩) ⟨y, x, ws, rfl, fun hh => hy hh.1⟩ (fun d hd q vs hv hq => ?_) hK (isP_far hK.drop hy _)
    obtain ⟨k, u, m, rfl, hu⟩ := hv
    have hn : isP T e [wAnd] (q + (amongK d.f0 (cdK d)).length) = false := by
      rw [hq.drop.is]
      by_cases h1 : k = 1
      · have : u ≠ wAnd := fun h2 => hu ⟨h1, h2⟩
        simp [memB, this]
      · simp [h1]
    rcases h d hd n q _ hq with ho | ⟨a, ho⟩
    · left; exact kids_one ho hn
    · right; exact ⟨a, kids_err ho⟩
theorem e2_err {α : Type} {a : Int} : E2 (.error (2, a) : Res α) := ⟨a, rfl⟩
theorem shape_of {c : Cd} (h : Shape c) : (c.f0 = 5 ∨ c.f0 = 6) ∧ 2 ≤ c.f2.length ∧ (∀ d ∈ c.f2, Shape d) ∧ c = cond0 c.f0 c.f2 ∨ c.f0 ≠ 5 ∧ c.f0 ≠ 6 := by
  cases h with
  | true_ => right; exact ⟨by decide, by decide⟩
  | false_ => right; exact ⟨by decide, by decide⟩
  | bare w hw => right; exact ⟨(by decide : (3 : Int) ≠ 5), (by decide : (3 : Int) ≠ 6)⟩
  | wordA w t hw ht hlow => right; exact ⟨(by decide : (3 : Int) ≠ 5), (by decide : (3 : Int) ≠ 6)⟩
  | strA w t hw ht => right; exact ⟨(by decide : (3 : Int) ≠ 5), (by decide : (3 : Int) ≠ 6)⟩
  | not_ c h => right; exact ⟨(by decide : (4 : Int) ≠ 5), (by decide : (4 : Int) ≠ 6)⟩
  | many k hk l hl h => left; exact ⟨hk, hl, h, rfl⟩
theorem not_ok {T : List Tk} {e : Int} {c : Cd} (hs : Shape c) : NotOk T e c := by
  induction hs with
  | true_ =>
    intro n p ws h
    have e1 : amongK (cond0 1 []).f0 (cdK (cond0 1 [])) = [(1, wTrue)] := by rw [amongK_low (by decide) (by decide), cdK_eq]; rfl
    rw [e1] at h ⊢
    left; exact not_atom h (by simp) n
  | false_ =>
    intro n p ws h
    have e1 : amongK (cond0 2 []).f0 (cdK (cond0 2 [])) = [(1, wFalse)] := by rw [amongK_low (by decide) (by decide), cdK_eq]; rfl
    rw [e1] at h ⊢
    left; exact not_atom h (by simp) n
  | bare w hw =>
    intro n p ws h
    have e1 : amongK (⟨3, ⟨w, ⟨#[]⟩⟩, []⟩ : Cd).f0 (cdK ⟨3, ⟨w, ⟨#[]⟩⟩, []⟩) = [(1, w)] := by
      rw [amongK_low (by exact (by decide : (3 : Int) ≠ 5)) (by exact (by decide : (3 : Int) ≠ 6)), cdK_eq]
      simp only [List.mem_cons, List.mem_nil_iff, or_false] at hw
      rcases hw with rfl | rfl | rfl | rfl <;> decide +kernel
    rw [e1] at h ⊢
    left
    have h2 := not_atom (e := e) h (by simp only [oneAtoms, List.mem_cons, List.mem_nil_iff, or_false] at hw ⊢; exact .inr (.inr hw)) n
    have h3 : atomC w = ⟨3, ⟨w, ⟨#[]⟩⟩, []⟩ := by
      simp only [List.mem_cons, List.mem_nil_iff, or_false] at hw
      rcases hw with rfl | rfl | rfl | rfl <;> exact (if_neg (by decide +kernel)).trans (if_neg (by decide +kernel))
    rw [h3] at h2; exact h2
  | wordA w t hw ht hlow =>
    intro n p ws h
    have hy : w = wMethod ∨ w = wDest ∨ w = wScheme ∨ w = wHeader := by simpa using hw
    have e1 : amongK (⟨3, ⟨w, t⟩, []⟩ : Cd).f0 (cdK ⟨3, ⟨w, t⟩, []⟩) = [(1, w), (1, t)] := by
      rw [amongK_low (by exact (by decide : (3 : Int) ≠ 5)) (by exact (by decide : (3 : Int) ≠ 6)), cdK_eq]
      rw [if_neg (show ¬ (3 : Int) = 1 by decide), if_neg (show ¬ (3 : Int) = 2 by decide), if_neg (show ¬ (3 : Int) = 4 by decide), if_neg (show ¬ (3 : Int) = 5 by decide), if_neg (show ¬ (3 : Int) = 6 by decide), if_neg (show ¬ (w = wHost ∨ w = wPath) by rcases hy with rfl | rfl | rfl | rfl <;> decide +kernel), if_pos hy]
    rw [e1] at h ⊢
    left
    rw [notN_atom h (by rcases hy with rfl | rfl | rfl | rfl <;> decide +kernel)]
    exact atom_word h hw hlow
  | strA w t hw ht =>
    intro n p ws h
    have hy : w = wHost ∨ w = wPath := by simpa using hw
    have e1 : amongK (⟨3, ⟨w, t⟩, []⟩ : Cd).f0 (cdK ⟨3, ⟨w, t⟩, []⟩) = [(1, w), (2, t)] := by
      rw [amongK_low (by exact (by decide : (3 : Int) ≠ 5)) (by exact (by decide : (3 : Int) ≠ 6)), cdK_eq]
      rw [if_neg (show ¬ (3 : Int) = 1 by decide), if_neg (show ¬ (3 : Int) = 2 by decide), if_neg (show ¬ (3 : Int) = 4 by decide), if_neg (show ¬ (3 : Int) = 5 by decide), if_neg (show ¬ (3 : Int) = 6 by decide), if_pos hy]
    rw [e1] at h ⊢
    left
    rw [notN_atom h (by rcases hy with rfl | rfl <;> decide +kernel)]
    exact atom_str h hw
  | not_ c hc ih =>
    intro n p ws h
    have e1 : amongK (cond0 4 [c]).f0 (cdK (cond0 4 [c])) = (1, wNot) :: amongK c.f0 (cdK c) := by
      rw [amongK_low (by exact (by decide : (4 : Int) ≠ 5)) (by exact (by decide : (4 : Int) ≠ 6)), cdK_eq]
      show (1, wNot) :: sepK wAnd (cdsK [c]) = _
      rw [cdsK, cdsK, sepK]
    rw [e1] at h ⊢
    have h : KA T p ((1, wNot) :: (amongK c.f0 (cdK c) ++ ws)) := h
    have hi : isP T e [wNot] p = true := by rw [h.is]; decide +kernel
    cases n with
    | zero => right; rw [notN, hi, if_pos rfl]; exact e2_err
    | succ n =>
      rw [notN, hi, if_pos rfl]
      rcases ih n (p + 1) ws h.next with ho | ⟨a, ho⟩
      · left; rw [ho, List.length_cons]
        show Except.ok (cond0 4 [c], _) = _
        congr 2; omega
      · right; exact ⟨a, by rw [ho]; rfl⟩
  | many k hk l hl hl2 ih =>
    intro n p ws h
    have e1 : amongK (cond0 k l).f0 (cdK (cond0 k l)) = (3, ⟨#[40]⟩) :: (cdK (cond0 k l) ++ [(4, ⟨#[41]⟩)]) := by
      unfold amongK
      rw [if_pos (show (cond0 k l).f0 = 6 ∨ (cond0 k l).f0 = 5 from hk.symm)]
    rw [e1] at h ⊢
    have h : KA T p ((3, ⟨#[40]⟩) :: (cdK (cond0 k l) ++ (4, ⟨#[41]⟩) :: ws)) := by simpa using h
    have hi : isP T e [wNot] p = false := isP_far h (by decide) _
    have h3 : (nxt T e p).f0 = 3 := (h.head e).2.1
    cases n with
    | zero => right; rw [notN, hi, if_neg (by decide), if_pos h3]; exact e2_err
    | succ n =>
      rw [notN, hi, if_neg (by decide), if_pos h3]
      rcases or_many (n := n) hk hl ih (by decide) h.next with ho | ⟨a, ho⟩
      · left
        rw [ho]
        have hq := h.next.drop
        rw [closeP, hq.take, List.length_cons, List.length_append]
        show Except.ok (cond0 k l, _) = _
        congr 2
        simp only [List.length_singleton]; omega
      · right; exact ⟨a, by rw [ho]; rfl⟩
/-- A condition and what is no word behind it. -/
theorem cond_ok {T : List Tk} {e : Int} {c : Cd} (hs : Shape c) {p : Nat} {y : Int} {x : ByteArray} {ws : List Ky} (hy : y ≠ 1) (hK : KA T p (cdK c ++ (y, x) :: ws)) : condP T e p = .ok (c, p + (cdK c).length) ∨ E2 (condP T e p) := by
  unfold condP
  rcases shape_of hs with ⟨hk, hl, hd, he⟩ | ⟨h5, h6⟩
  · rw [he] at hK ⊢
    exact or_many hk hl (fun d hd' => not_ok (hd d hd')) hy hK
  · have h := not_ok (e := e) hs 30 p ((y, x) :: ws) (by rw [amongK_low h5 h6]; exact hK)
    rw [amongK_low h5 h6] at h
    rcases h with ho | ⟨a, ho⟩
    · left; exact or_one ho (isP_far hK.drop hy _) (isP_far hK.drop hy _)
    · right; exact ⟨a, kids_err (kids_err ho)⟩
end Go.Proofs.YtngedmioeodmfaaDoor.Pu
namespace Go.Proofs.YtngedmioeodmfaaDoor.Pu
open Go.RowKit Go.Proofs.YtngedmioeodmfaaDoor.Pr Go.Proofs.YtngedmioeodmfaaDoorW.PrintWords Go.Proofs.YtngedmioeodmfaaDoor.Lx
open Go.Proofs.YtngedmioeodmfaaDoor.Ps hiding Tk
set_option linter.unusedVariables false
set_option linter.unusedSimpArgs false
theorem cp_meth : Cp [32, 109, 101, 116, 104, 111, 100, 32] [(1, wMethod)] := ⟨[⟨1, 1, wMethod⟩], by unfold Lx1; kernel_rfl, rfl, V_ascii _ (by decide)⟩
theorem cp_head : Cp [32, 104, 101, 97, 100, 101, 114, 32] [(1, wHeader)] := ⟨[⟨1, 1, wHeader⟩], by unfold Lx1; kernel_rfl, rfl, V_ascii _ (by decide)⟩
theorem cp_csp : Cp [99, 115, 112, 32] [(1, wCsp)] := ⟨[⟨1, 0, wCsp⟩], by unfold Lx1; kernel_rfl, rfl, V_ascii _ (by decide)⟩
theorem cp_share : Cp [115, 104, 97, 114, 101, 32] [(1, wShare)] := ⟨[⟨1, 0, wShare⟩], by unfold Lx1; kernel_rfl, rfl, V_ascii _ (by decide)⟩
theorem cp_mix : Cp [109, 105, 120, 101, 100, 32] [(1, wMixed)] := ⟨[⟨1, 0, wMixed⟩], by unfold Lx1; kernel_rfl, rfl, V_ascii _ (by decide)⟩
theorem cp_def : Cp [100, 101, 102, 97, 117, 108, 116, 32] [(1, wDefault)] := ⟨[⟨1, 0, wDefault⟩], by unfold Lx1; kernel_rfl, rfl, V_ascii _ (by decide)⟩
theorem cp_if : Cp [32, 105, 102, 32] [(1, wIf)] := ⟨[⟨1, 1, wIf⟩], by unfold Lx1; kernel_rfl, rfl, V_ascii _ (by decide)⟩
theorem cp_semi : Cp [59, 10] [(5, semiB)] := ⟨[⟨5, 0, semiB⟩], by unfold Lx1; kernel_rfl, rfl, V_ascii _ (by decide)⟩
theorem b_meth : bytesOf bMeth = 32 :: [109, 101, 116, 104, 111, 100, 32] := by decide +kernel
theorem b_head : bytesOf bHead = 32 :: [104, 101, 97, 100, 101, 114, 32] := by decide +kernel
theorem b_cred : bytesOf bCred = 32 :: [99, 114, 101, 100, 115] := by decide +kernel
theorem b_csp : bytesOf bCsp = [99, 115, 112, 32] := by decide +kernel
theorem b_share : bytesOf bShare = [115, 104, 97, 114, 101, 32] := by decide +kernel
theorem b_mix : bytesOf bMix = [109, 105, 120, 101, 100, 32] := by decide +kernel
theorem b_def : bytesOf bDef = [100, 101, 102, 97, 117, 108, 116, 32] := by decide +kernel
theorem b_if : bytesOf bIf = 32 :: [105, 102, 32] := by decide +kernel
theorem b_semi : bytesOf bSemi = 59 :: [10] := by decide +kernel
def twoK (w : ByteArray) (l : List ByteArray) : List Ky := l.flatMap fun m => [(1, w), (1, m)]
theorem rd_addAll {pre w : ByteArray} {c : Int} {l1 : List Int} (hb : bytesOf pre = c :: l1) (hc : pWord c = false) (hp : Cp (c :: l1) [(1, w)]) : ∀ (l : List ByteArray) (a : ByteArray) (ka : List Ky), Rd (bytesOf a) ka → (∀ m ∈ l, WordT m) → Rd (bytesOf (addAll pre a l)) (ka ++ twoK w l)
  | [], a, ka, ha, _ => by simpa [addAll, twoK] using ha
  | m :: l, a, ka, ha, hm => by
    have h1 : Rd (bytesOf (a ++ (pre ++ m))) (ka ++ [(1, w), (1, m)]) := by
      rw [bytesOf_app, bytesOf_app, hb]
      exact ha.then_ hc (hp.then_ (rd_word (hm m (List.mem_cons_self ..))))
    have h2 := rd_addAll hb hc hp l _ _ h1 (fun x hx => hm x (List.mem_cons_of_mem _ hx))
    have e1 : addAll pre a (m :: l) = addAll pre (a ++ (pre ++ m)) l := rfl
    have e2 : ka ++ twoK w (m :: l) = ka ++ [(1, w), (1, m)] ++ twoK w l := by simp [twoK]
    rw [e1, e2]; exact h2
/-- What a share is made of. -/
structure ShareOk (s : Sh) : Prop where
  o : StrT s.f0
  m : ∀ t ∈ s.f1, WordT t
  h : ∀ t ∈ s.f2, WordT t
def cspK' (s : ByteArray) : List Ky := [(1, wCsp), (2, s)]
def credK (b : Bool) : List Ky := if b then [(1, wCreds)] else []
def shareK' (s : Sh) : List Ky := (1, wShare) :: (2, s.f0) :: (twoK wMethod s.f1 ++ (twoK wHeader s.f2 ++ credK s.f3))
def ruleK' (r : Rl) : List Ky := (1, sayB r.f0) :: (1, wIf) :: cdK r.f1
def linesK (csp : List ByteArray) (sh : List Sh) (mixed : ByteArray) (rules : List Rl) (allow : Bool) : List (List Ky) :=
  csp.map cspK' ++ sh.map shareK' ++ [[(1, wMixed), (1, mixed)]] ++ rules.map ruleK' ++ [[(1, wDefault), (1, sayB allow)]]
theorem rd_csp {s : ByteArray} (h : StrT s) : Rd (bytesOf (cspT s)) (cspK' s) := by
  rw [cspT, bytesOf_app, b_csp, bytes_quote]
  exact cp_csp.then_ (cp_quote h).rd
theorem rd_share {s : Sh} (h : ShareOk s) : Rd (bytesOf (shareT s)) (shareK' s) := by
  have h1 : Rd (bytesOf (bShare ++ quoteB s.f0)) [(1, wShare), (2, s.f0)] := by
    rw [bytesOf_app, b_share, bytes_quote]
    exact cp_share.then_ (cp_quote h.o).rd
  have h2 := rd_addAll b_head (by decide +kernel) cp_head s.f2 _ _ (rd_addAll b_meth (by decide +kernel) cp_meth s.f1 _ _ h1 h.m) h.h
  have e1 : shareK' s = [(1, wShare), (2, s.f0)] ++ twoK wMethod s.f1 ++ twoK wHeader s.f2 ++ credK s.f3 := by simp [shareK']
  rw [e1]
  unfold shareT
  dsimp only
  split
  · rename_i hf
    rw [bytesOf_app, b_cred, hf]
    exact h2.then_ (by decide +kernel) (cp_sp.then_ (rd_word (w := wCreds) (word_known (by simp))))
  · rename_i hf
    have : s.f3 = false := by simpa using hf
    rw [this]
    show Rd _ (_ ++ [])
    rw [List.append_nil]; exact h2
theorem word_more {w : ByteArray} (h : w ∈ [wAllow, wDeny, wBlock, wUpgrade]) : WordT w := by
  have hd : ∀ (w : ByteArray), (match bytesOf w with
    | [] => false
    | c :: l => !pBlank c && decide (c ≠ 35) && pLetter c && l.all pWord) = true → w.size ≤ 3000 → WordT w := by
    intro w h hz
    rcases hb : bytesOf w with _ | ⟨c, l⟩
    · rw [hb] at h; cases h
    · rw [hb] at h
      simp only [Bool.and_eq_true, Bool.not_eq_true', decide_eq_true_eq, List.all_eq_true] at h
      exact ⟨⟨c, l, hb, h.1.1.1, h.1.1.2, h.1.2, h.2⟩, hz⟩
  simp only [List.mem_cons, List.mem_nil_iff, or_false] at h
  rcases h with rfl | rfl | rfl | rfl <;> exact hd _ (by decide +kernel) (by decide +kernel)
theorem say_word (b : Bool) : WordT (sayB b) := by cases b <;> exact word_more (by simp [sayB])
theorem rd_rule {r : Rl} (h : Shape r.f1) : Rd (bytesOf (ruleT r)) (ruleK' r) := by
  rw [ruleT, bytesOf_app, bytesOf_app, b_if, List.append_assoc]
  exact (rd_word (say_word r.f0)).then_ (by decide +kernel) (cp_if.then_ (rd_cd h))
/-- What a policy is made of. -/
structure PolOk (csp : List ByteArray) (sh : List Sh) (mixed : ByteArray) (rules : List Rl) : Prop where
  c : ∀ t ∈ csp, StrT t
  s : ∀ t ∈ sh, ShareOk t
  m : mixed = wBlock ∨ mixed = wUpgrade ∨ mixed = wAllow
  r : ∀ t ∈ rules, Shape t.f1
inductive All2 {α β : Type} (R : α → β → Prop) : List α → List β → Prop
  | nil : All2 R [] []
  | cons {a : α} {b : β} {l : List α} {m : List β} (h : R a b) (ht : All2 R l m) : All2 R (a :: l) (b :: m)
/-- Lines, each read; joined they read as all. -/
theorem rd_lines {xs : List ByteArray} {ks : List (List Ky)} (h0 : 0 < xs.length) (h : All2 (fun x k => Rd (bytesOf x) k) xs ks) : Cp (bytesOf (joinB xs bSemi ++ bSemi)) (ks.flatMap fun k => k ++ [(5, semiB)]) := by
  induction h with
  | nil => cases h0
  | @cons x k xs ks hx ht ih =>
    cases ht with
    | nil =>
      rw [joinB_one, bytesOf_app, b_semi]
      have := hx.end_ (by decide +kernel) cp_semi
      simpa using this
    | @cons y m xs ks hy ht =>
      rw [bytesOf_app, join_two, List.append_assoc, List.append_assoc, ← bytesOf_app, b_semi, List.flatMap_cons, List.append_assoc]
      exact hx.end_ (by decide +kernel) (cp_semi.app (ih (Nat.succ_pos _)))
theorem forall2_app {α β : Type} {R : α → β → Prop} {a c : List α} {b d : List β} (h : All2 R a b) (h2 : All2 R c d) : All2 R (a ++ c) (b ++ d) := by
  induction h with
  | nil => exact h2
  | cons hx _ ih => exact .cons hx ih
theorem forall2_map {α β γ : Type} {R : β → γ → Prop} {f : α → β} {g : α → γ} : ∀ {l : List α}, (∀ x ∈ l, R (f x) (g x)) → All2 R (l.map f) (l.map g)
  | [], _ => .nil
  | x :: l, h => .cons (h x (List.mem_cons_self ..)) (forall2_map (fun y hy => h y (List.mem_cons_of_mem _ hy)))
theorem rd_pol {csp : List ByteArray} {sh : List Sh} {mixed : ByteArray} {rules : List Rl} (h : PolOk csp sh mixed rules) (allow : Bool) : Cp (bytesOf (polText csp sh mixed rules allow)) ((linesK csp sh mixed rules allow).flatMap fun k => k ++ [(5, semiB)]) := by
  refine rd_lines ?_ ?_
  · simp only [linesT, List.length_append, List.length_singleton]; omega
  · refine forall2_app (forall2_app (forall2_app (forall2_app (forall2_map (R := fun x k => Rd (bytesOf x) k) (fun x hx => rd_csp (h.c x hx))) (forall2_map (R := fun x k => Rd (bytesOf x) k) (fun x hx => rd_share (h.s x hx)))) (.cons ?_ .nil)) (forall2_map (R := fun x k => Rd (bytesOf x) k) (fun x hx => rd_rule (h.r x hx)))) (.cons ?_ .nil)
    · rw [bytesOf_app, b_mix]
      exact cp_mix.then_ (rd_word (word_more (by rcases h.m with e | e | e <;> simp [e])))
    · rw [bytesOf_app, b_def]
      exact cp_def.then_ (rd_word (say_word allow))
end Go.Proofs.YtngedmioeodmfaaDoor.Pu
namespace Go.Proofs.YtngedmioeodmfaaDoor.Pu
open Go.RowKit Go.Proofs.YtngedmioeodmfaaDoor.Pr Go.Proofs.YtngedmioeodmfaaDoorW.PrintWords Go.Proofs.YtngedmioeodmfaaDoor.Lx
open Go.Proofs.YtngedmioeodmfaaDoor.Ps hiding Tk
set_option linter.unusedVariables false
set_option linter.unusedSimpArgs false
theorem items_step {T : List Tk} {e : Int} {f p q : Nat} {st st' : Pst} {semi : ByteArray} {ws : List Ky} (hp : p < T.length) (h : itemP T e st p = .ok (st', q)) (hk : KA T q ((5, semi) :: ws)) : itemsP T e (f + 1) st p = itemsP T e f st' (q + 1) := by
  rw [itemsP_succ hp, h]
  simp only [itemsK]
  rw [hk.take]
  rfl
theorem items_end {T : List Tk} {e : Int} {f p : Nat} {st : Pst} (h : T.length ≤ p) : itemsP T e f st p = .ok st := by
  cases f with
  | zero => rfl
  | succ f => rw [itemsP, if_neg (by omega)]
theorem items_err {T : List Tk} {e : Int} {f p : Nat} {st : Pst} {x : Int × Int} (hp : p < T.length) (h : itemP T e st p = .error x) : itemsP T e (f + 1) st p = .error x := by
  rw [itemsP_succ hp, h]; rfl
end Go.Proofs.YtngedmioeodmfaaDoor.Pu
namespace Go.Proofs.YtngedmioeodmfaaDoor.Pu
open Go.RowKit Go.Proofs.YtngedmioeodmfaaDoor.Pr Go.Proofs.YtngedmioeodmfaaDoorW.PrintWords Go.Proofs.YtngedmioeodmfaaDoor.Lx
open Go.Proofs.YtngedmioeodmfaaDoor.Ps hiding Tk
set_option linter.unusedVariables false
set_option linter.unusedSimpArgs false
section
variable {T : List Tk} {e : Int}
theorem shareL_m : ∀ (l : List ByteArray) (f p : Nat) (s : Sh) (vs : List Ky), KA T p (twoK wMethod l ++ vs) → shareL T e (f + l.length) s p = shareL T e f ⟨s.f0, s.f1 ++ l, s.f2, s.f3⟩ (p + (twoK wMethod l).length)
  | [], f, p, s, vs, h => by simp [twoK]
  | m :: l, f, p, s, vs, h => by
    have h : KA T p ((1, wMethod) :: (1, m) :: (twoK wMethod l ++ vs)) := by simpa [twoK] using h
    have hi : isP T e [wMethod, wHeader, wCreds] p = true := by rw [h.is]; decide +kernel
    rw [List.length_cons, ← Nat.add_assoc, shareL_succ _ _ _ _ _ hi.symm, h.take, shareK, if_pos rfl, h.next.take, shareM, shareL_m l f _ _ vs h.next.next]
    have e1 : (twoK wMethod (m :: l)).length = 2 + (twoK wMethod l).length := by simp [twoK]; omega
    rw [e1]
    simp only [List.append_assoc, List.singleton_append]
    congr 1; omega
theorem shareL_h : ∀ (l : List ByteArray) (f p : Nat) (s : Sh) (vs : List Ky), KA T p (twoK wHeader l ++ vs) → shareL T e (f + l.length) s p = shareL T e f ⟨s.f0, s.f1, s.f2 ++ l, s.f3⟩ (p + (twoK wHeader l).length)
  | [], f, p, s, vs, h => by simp [twoK]
  | m :: l, f, p, s, vs, h => by
    have h : KA T p ((1, wHeader) :: (1, m) :: (twoK wHeader l ++ vs)) := by simpa [twoK] using h
    have hi : isP T e [wMethod, wHeader, wCreds] p = true := by rw [h.is]; decide +kernel
    rw [List.length_cons, ← Nat.add_assoc, shareL_succ _ _ _ _ _ hi.symm, h.take, shareK, if_neg (by decide +kernel), if_pos rfl, h.next.take, shareH, shareL_h l f _ _ vs h.next.next]
    have e1 : (twoK wHeader (m :: l)).length = 2 + (twoK wHeader l).length := by simp [twoK]; omega
    rw [e1]
    simp only [List.append_assoc, List.singleton_append]
    congr 1; omega
theorem shareL_end {f p : Nat} {s : Sh} {k : Int} {x : ByteArray} {vs : List Ky} (h : KA T p ((k, x) :: vs)) (hk : k ≠ 1) : shareL T e f s p = .ok (s, p) := by
  cases f with
  | zero => rfl
  | succ f => rw [shareL, isP_far h hk, if_neg (by decide)]
theorem two_len (w : ByteArray) : ∀ l : List ByteArray, (twoK w l).length = 2 * l.length
  | [] => rfl
  | m :: l => by
    have := two_len w l
    simp only [twoK, List.flatMap_cons, List.length_append, List.length_cons, List.length_nil] at this ⊢; omega
theorem shareP_ok {p : Nat} {s : Sh} {ws : List Ky} (h : KA T p ((2, s.f0) :: (twoK wMethod s.f1 ++ (twoK wHeader s.f2 ++ (credK s.f3 ++ (5, semiB) :: ws))))) : shareP T e p = .ok (s, p + 1 + (twoK wMethod s.f1 ++ (twoK wHeader s.f2 ++ credK s.f3)).length) := by
  obtain ⟨f0, f1, f2, f3⟩ := s
  dsimp only at h ⊢
  have h1 := h.next
  have hlen := h1.len
  rw [shareP, h.take]
  simp only [List.length_append, List.length_cons, two_len] at hlen ⊢
  obtain ⟨f, hf⟩ : ∃ f, T.length + 1 - (p + 1) = f + 1 + f2.length + f1.length := ⟨T.length + 1 - (p + 1) - 1 - f2.length - f1.length, by omega⟩
  show shareL T e (T.length + 1 - (p + 1)) ⟨f0, [], [], false⟩ (p + 1) = _
  rw [hf, shareL_m f1 _ _ _ _ h1]
  have h2 := h1.drop
  rw [shareL_h f2 _ _ _ _ h2]
  have h3 := h2.drop
  rw [two_len, two_len] at *
  simp only [List.nil_append]
  cases f3 with
  | false =>
    have h3 : KA T (p + 1 + 2 * f1.length + 2 * f2.length) ((5, semiB) :: ws) := h3
    rw [shareL_end h3 (by decide)]
    show Except.ok (_, _) = Except.ok (_, _ + (_ + (_ + 0)))
    congr 2; omega
  | true =>
    have h3 : KA T (p + 1 + 2 * f1.length + 2 * f2.length) ((1, wCreds) :: (5, semiB) :: ws) := h3
    have hi : isP T e [wMethod, wHeader, wCreds] (p + 1 + 2 * f1.length + 2 * f2.length) = true := by rw [h3.is]; decide +kernel
    rw [shareL_succ _ _ _ _ _ hi.symm, h3.take, shareK, if_neg (by decide +kernel), if_neg (by decide +kernel), shareL_end h3.next (by decide)]
    show Except.ok (_, _) = Except.ok (_, _ + (_ + (_ + 1)))
    congr 2; omega
theorem free_or {st : Pst} {p : Nat} {w : ByteArray} {ws : List Ky} (h : KA T p ((1, w) :: ws)) (hw : w ∈ [wCsp, wShare, wAllow, wDeny]) : itemP T e st p = itemK T e { st with items := st.items + 1 } w (p + 1) ∨ E2 (itemP T e st p) := by
  by_cases hi : st.items + 1 > 60
  · right
    have h1 : isP T e [wCsp, wShare, wMixed, wDefault, wAllow, wDeny] p = true := by
      rw [h.is]
      simp only [List.mem_cons, List.not_mem_nil, or_false] at hw
      rcases hw with rfl | rfl | rfl | rfl <;> decide +kernel
    have h2 : isP T e [wMixed, wDefault] p = false := by
      rw [h.is]
      simp only [List.mem_cons, List.not_mem_nil, or_false] at hw
      rcases hw with rfl | rfl | rfl | rfl <;> decide +kernel
    rw [itemP_none h1.symm h2.symm, restP, if_pos hi]
    exact e2_err
  · left; exact item_free h hw (by omega)
theorem once_or {st : Pst} {p : Nat} {w : ByteArray} {ws : List Ky} (h : KA T p ((1, w) :: ws)) (hw : w = wMixed ∨ w = wDefault) (hm : metN st w = 0) : itemP T e st p = itemK T e { raise st w with items := st.items + 1 } w (p + 1) ∨ E2 (itemP T e st p) := by
  by_cases hi : st.items + 1 > 60
  · right
    obtain ⟨h1, h2⟩ := met_ahead (e := e) h hw
    have hx : (nxt T e p).f2 = w := (h.head e).2.2.1
    have he : (⟨(nxt T e p).f0, (nxt T e p).f1, w⟩ : Tk) = nxt T e p := by rw [← hx]
    have hri : (raise st w).items = st.items := by unfold raise; split <;> rfl
    rw [itemP_once h1 h2 he hw, if_neg (by omega), restP, hri, if_pos hi]
    exact e2_err
  · left; exact item_once h hw hm (by omega)
end
/-- One line, read. -/
def Stp (ks : List Ky) (st st' : Pst) : Prop := ∀ (T : List Tk) (e : Int) (p : Nat) (ws : List Ky), KA T p (ks ++ (5, semiB) :: ws) → itemP T e st p = .ok (st', p + ks.length) ∨ E2 (itemP T e st p)
inductive Chain : List (List Ky) → Pst → Pst → Prop
  | nil (st : Pst) : Chain [] st st
  | cons {ks : List Ky} {L : List (List Ky)} {st st1 st2 : Pst} (h : Stp ks st st1) (ht : Chain L st1 st2) : Chain (ks :: L) st st2
theorem Chain.app {a b : List (List Ky)} {s t u : Pst} (h : Chain a s t) (h2 : Chain b t u) : Chain (a ++ b) s u := by
  induction h with
  | nil => exact h2
  | cons hx _ ih => exact .cons hx (ih h2)
theorem items_run {L : List (List Ky)} {st st2 : Pst} (h : Chain L st st2) : ∀ (T : List Tk) (e : Int) (f p : Nat), KA T p (L.flatMap fun k => k ++ [(5, semiB)]) → T.length ≤ p + (L.flatMap fun k => k ++ [((5 : Int), semiB)]).length → L.length ≤ f →
    itemsP T e f st p = .ok st2 ∨ ∃ a, itemsP T e f st p = .error (2, a) := by
  induction h with
  | nil st => intro T e f p hk hl hf; left; exact items_end (by simpa using hl)
  | @cons ks L st st1 st2 h ht ih =>
    intro T e f p hk hl hf
    obtain ⟨f, rfl⟩ : ∃ f', f = f' + 1 := ⟨f - 1, by simp only [List.length_cons] at hf; omega⟩
    rw [List.flatMap_cons, List.append_assoc] at hk
    have hk : KA T p (ks ++ (5, semiB) :: L.flatMap fun k => k ++ [(5, semiB)]) := hk
    have hp : p < T.length := by
      have := hk.len
      simp only [List.length_append, List.length_cons] at this; omega
    rcases h T e p _ hk with ho | ⟨a, ho⟩
    · rw [items_step hp ho hk.drop]
      refine ih T e f _ hk.drop.next ?_ (by simpa using hf)
      rw [List.flatMap_cons, List.length_append, List.length_append, List.length_singleton] at hl
      omega
    · right; exact ⟨a, items_err hp ho⟩
theorem stp_csp (s : ByteArray) (st : Pst) : Stp (cspK' s) st { st with csp := st.csp ++ [s], items := st.items + 1 } := by
  intro T e p ws h
  have h : KA T p ((1, wCsp) :: (2, s) :: (5, semiB) :: ws) := h
  rcases free_or (e := e) (st := st) h (by simp) with ho | ho
  · left; rw [ho, itemK_csp rfl, h.next.take]; rfl
  · exact .inr ho
theorem stp_share (s : Sh) (st : Pst) : Stp (shareK' s) st { st with shares := st.shares ++ [s], items := st.items + 1 } := by
  intro T e p ws h
  have h : KA T p ((1, wShare) :: (2, s.f0) :: (twoK wMethod s.f1 ++ (twoK wHeader s.f2 ++ (credK s.f3 ++ (5, semiB) :: ws)))) := by simpa [shareK'] using h
  rcases free_or (e := e) (st := st) h (by simp) with ho | ho
  · left
    rw [ho, itemK_share (by decide +kernel) rfl, shareP_ok h.next]
    show Except.ok (_, _) = Except.ok (_, p + (_ + 1 + 1))
    congr 2; omega
  · exact .inr ho
theorem stp_mixed {m : ByteArray} (hm : m = wBlock ∨ m = wUpgrade ∨ m = wAllow) {st : Pst} (h0 : st.metM = 0) : Stp [(1, wMixed), (1, m)] st { st with mixed := m, items := st.items + 1, metM := 1 } := by
  intro T e p ws h
  have h : KA T p ((1, wMixed) :: (1, m) :: (5, semiB) :: ws) := h
  rcases once_or (e := e) (st := st) h (.inl rfl) (by rw [metN, if_pos rfl]; exact h0) with ho | ho
  · left
    rw [ho, itemK_mixed (by decide +kernel) (by decide +kernel) rfl, h.next.word (by rcases hm with rfl | rfl | rfl <;> decide +kernel)]
    show Except.ok (_, _) = Except.ok (_, _)
    rw [raise, if_pos rfl, h0]
    rfl
  · exact .inr ho
theorem stp_default (b : Bool) {st : Pst} (h0 : st.metD = 0) : Stp [(1, wDefault), (1, sayB b)] st { st with allow := b, items := st.items + 1, metD := 1 } := by
  intro T e p ws h
  have h : KA T p ((1, wDefault) :: (1, sayB b) :: (5, semiB) :: ws) := h
  rcases once_or (e := e) (st := st) h (.inr rfl) (by rw [metN, if_neg (by decide +kernel)]; exact h0) with ho | ho
  · left
    rw [ho, itemK_default (by decide +kernel) (by decide +kernel) (by decide +kernel) rfl, h.next.word (by cases b <;> decide +kernel)]
    show Except.ok (_, _) = Except.ok (_, _)
    have hd : decide (sayB b = wAllow) = b := by cases b <;> decide +kernel
    rw [raise, if_neg (by decide +kernel), h0, hd]
    rfl
  · exact .inr ho
theorem stp_rule {r : Rl} (hr : Shape r.f1) (st : Pst) : Stp (ruleK' r) st { st with rules := st.rules ++ [r], items := st.items + 1 } := by
  intro T e p ws h
  have h : KA T p ((1, sayB r.f0) :: (1, wIf) :: (cdK r.f1 ++ (5, semiB) :: ws)) := h
  have hs : sayB r.f0 = wAllow ∨ sayB r.f0 = wDeny := by cases r.f0 <;> simp [sayB]
  have hn : sayB r.f0 ≠ wCsp ∧ sayB r.f0 ≠ wShare ∧ sayB r.f0 ≠ wMixed ∧ sayB r.f0 ≠ wDefault := by cases r.f0 <;> decide +kernel
  have hd : decide (sayB r.f0 = wAllow) = r.f0 := by cases r.f0 <;> decide +kernel
  rcases free_or (e := e) (st := st) h (by rcases hs with e | e <;> simp [e]) with ho | ho
  · rw [itemK_rule hn.1 hn.2.1 hn.2.2.1 hn.2.2.2, h.next.word (by decide +kernel)] at ho
    simp only [ifK] at ho
    rcases cond_ok (e := e) hr (by decide) h.next.next with hc | ⟨a, hc⟩
    · left
      rw [hc] at ho
      rw [ho]
      simp only [ruleK]
      rw [hd]
      show Except.ok (_, _) = Except.ok (_, p + ((cdK r.f1).length + 1 + 1))
      congr 2; omega
    · right
      rw [hc] at ho
      exact ⟨a, ho⟩
  · exact .inr ho
theorem chain_csp : ∀ (l c0 : List ByteArray) (sh : List Sh) (m : ByteArray) (r : List Rl) (a : Bool) (i mm md : Nat), Chain (l.map cspK') ⟨c0, sh, m, r, a, i, mm, md⟩ ⟨c0 ++ l, sh, m, r, a, i + l.length, mm, md⟩
  | [], c0, sh, m, r, a, i, mm, md => by rw [List.append_nil]; exact .nil _
  | x :: l, c0, sh, m, r, a, i, mm, md => by
    have h := chain_csp l (c0 ++ [x]) sh m r a (i + 1) mm md
    rw [List.append_assoc] at h
    rw [List.length_cons, show i + (l.length + 1) = i + 1 + l.length by omega]
    exact .cons (stp_csp x _) h
theorem chain_share : ∀ (l : List Sh) (c : List ByteArray) (sh : List Sh) (m : ByteArray) (r : List Rl) (a : Bool) (i mm md : Nat), Chain (l.map shareK') ⟨c, sh, m, r, a, i, mm, md⟩ ⟨c, sh ++ l, m, r, a, i + l.length, mm, md⟩
  | [], c, sh, m, r, a, i, mm, md => by rw [List.append_nil]; exact .nil _
  | x :: l, c, sh, m, r, a, i, mm, md => by
    have h := chain_share l c (sh ++ [x]) m r a (i + 1) mm md
    rw [List.append_assoc] at h
    rw [List.length_cons, show i + (l.length + 1) = i + 1 + l.length by omega]
    exact .cons (stp_share x _) h
theorem chain_rule : ∀ (l : List Rl) (c : List ByteArray) (sh : List Sh) (m : ByteArray) (r : List Rl) (a : Bool) (i mm md : Nat), (∀ x ∈ l, Shape x.f1) → Chain (l.map ruleK') ⟨c, sh, m, r, a, i, mm, md⟩ ⟨c, sh, m, r ++ l, a, i + l.length, mm, md⟩
  | [], c, sh, m, r, a, i, mm, md, _ => by rw [List.append_nil]; exact .nil _
  | x :: l, c, sh, m, r, a, i, mm, md, hs => by
    have h := chain_rule l c sh m (r ++ [x]) a (i + 1) mm md (fun y hy => hs y (List.mem_cons_of_mem _ hy))
    rw [List.append_assoc] at h
    rw [List.length_cons, show i + (l.length + 1) = i + 1 + l.length by omega]
    exact .cons (stp_rule (hs x (List.mem_cons_self ..)) _) h
/-- Alike in all that is told. -/
def SameF (st : Pst) (csp : List ByteArray) (sh : List Sh) (mixed : ByteArray) (rules : List Rl) (allow : Bool) : Prop := st.csp = csp ∧ st.shares = sh ∧ st.mixed = mixed ∧ st.rules = rules ∧ st.allow = allow
theorem chain_pol {csp : List ByteArray} {sh : List Sh} {mixed : ByteArray} {rules : List Rl} (h : PolOk csp sh mixed rules) (allow : Bool) : ∃ st, Chain (linesK csp sh mixed rules allow) pst0 st ∧ SameF st csp sh mixed rules allow := by
  refine ⟨_, ((((chain_csp csp [] [] wBlock [] false 0 0 0).app (chain_share sh _ [] wBlock [] false _ 0 0)).app (.cons (stp_mixed h.m rfl) (.nil _))).app (chain_rule rules _ _ _ [] _ _ _ _ h.r)).app (.cons (stp_default allow rfl) (.nil _)), ?_⟩
  exact ⟨rfl, rfl, rfl, rfl, rfl⟩
/-- What is written is read as it was, or it is too big. -/
theorem back {csp : List ByteArray} {sh : List Sh} {mixed : ByteArray} {rules : List Rl} (h : PolOk csp sh mixed rules) (allow : Bool) :
    (∃ st, polA (polText csp sh mixed rules allow) = .ok st ∧ SameF st csp sh mixed rules allow) ∨ ∃ a, polA (polText csp sh mixed rules allow) = .error (2, a) := by
  obtain ⟨x, hx⟩ : ∃ x, x = polText csp sh mixed rules allow := ⟨_, rfl⟩
  obtain ⟨ts, hl, hk, hv⟩ := rd_pol h allow
  rw [← hx] at hl hv ⊢
  by_cases hs : x.size ≤ 3000
  · rw [polA_good hs hv hl]
    obtain ⟨st, hc, hf⟩ := chain_pol h allow
    have hlen := congrArg List.length hk
    rw [List.length_map] at hlen
    have hf2 : (linesK csp sh mixed rules allow).length ≤ ts.length + 1 := by
      rw [hlen]
      generalize linesK csp sh mixed rules allow = L
      have : ∀ L : List (List Ky), L.length ≤ (L.flatMap fun k => k ++ [(5, semiB)]).length := by
        intro L
        induction L with
        | nil => exact Nat.zero_le _
        | cons a L ih => rw [List.flatMap_cons, List.length_append, List.length_append, List.length_singleton, List.length_cons]; omega
      exact Nat.le_succ_of_le (this L)
    rcases items_run hc ts x.size (ts.length + 1) 0 (KA.all hk) (by omega) hf2 with ho | ho
    · exact .inl ⟨st, ho, hf⟩
    · exact .inr ho
  · right
    have : tokM x = ([], 2, 0) := by unfold tokM; rw [if_pos (by omega)]
    exact ⟨0, by rw [polA, this]; rfl⟩
end Go.Proofs.YtngedmioeodmfaaDoor.Pu
namespace Go.Proofs.YtngedmioeodmfaaDoor.Pu
open Go.RowKit Go.Proofs.YtngedmioeodmfaaDoor.Pr Go.Proofs.YtngedmioeodmfaaDoorW.PrintWords Go.Proofs.YtngedmioeodmfaaDoor.Lx
open Go.Proofs.YtngedmioeodmfaaDoor.Ps hiding Tk
set_option linter.unusedVariables false
set_option linter.unusedSimpArgs false
structure AllP (A : ByteArray → Prop) (S : Sh → Prop) (C : Cd → Prop) (st : Pst) : Prop where
  c : ∀ t ∈ st.csp, A t
  s : ∀ h ∈ st.shares, S h
  r : ∀ x ∈ st.rules, C x.f1
  m : st.mixed = wBlock ∨ st.mixed = wUpgrade ∨ st.mixed = wAllow
  n : st.csp.length + st.shares.length + st.rules.length ≤ st.items
  i : st.items ≤ 60
section
variable {T : List Tk} {e : Int} {A : ByteArray → Prop} {S : Sh → Prop} {C : Cd → Prop}
theorem wordP_mem {ws : List ByteArray} {p : Nat} {t : ByteArray} {q : Nat} (h : wordP T e ws p = .ok (t, q)) : memB t ws = true := by
  rw [wordP] at h
  split at h
  · rename_i hi
    rw [isP, Bool.and_eq_true] at hi
    rw [takeP] at h
    split at h
    · cases h; exact hi.2
    · cases h
  · cases h
theorem itemK_all (hA : ∀ p t q, takeP T e 2 p = .ok (t, q) → A t) (hS : ∀ p h q, shareP T e p = .ok (h, q) → S h) (hC : ∀ p c q, condP T e p = .ok (c, q) → C c) {s st' : Pst} {w : ByteArray} {p q : Nat} (hc : ∀ t ∈ s.csp, A t) (hs : ∀ h ∈ s.shares, S h) (hr : ∀ x ∈ s.rules, C x.f1)
    (hm : s.mixed = wBlock ∨ s.mixed = wUpgrade ∨ s.mixed = wAllow) (hn : s.csp.length + s.shares.length + s.rules.length + 1 ≤ s.items) (hi : s.items ≤ 60) (h : itemK T e s w p = .ok (st', q)) : AllP A S C st' := by
  by_cases h0 : w = wCsp
  · rw [itemK_csp h0] at h
    cases ht : takeP T e 2 p with
    | error x => rw [ht] at h; cases h
    | ok x =>
      obtain ⟨t, q2⟩ := x
      rw [ht] at h; cases h
      exact ⟨fun t' ht' => by
        rcases List.mem_append.1 ht' with h1 | h1
        · exact hc t' h1
        · rw [List.mem_singleton.1 h1]; exact hA _ _ _ ht, hs, hr, hm, by show (s.csp ++ [t]).length + s.shares.length + s.rules.length ≤ s.items; rw [List.length_append, List.length_singleton]; omega, hi⟩
  by_cases h1 : w = wShare
  · rw [itemK_share h0 h1] at h
    cases ht : shareP T e p with
    | error x => rw [ht] at h; cases h
    | ok x =>
      obtain ⟨t, q2⟩ := x
      rw [ht] at h; cases h
      exact ⟨hc, fun t' ht' => by
        rcases List.mem_append.1 ht' with h1 | h1
        · exact hs t' h1
        · rw [List.mem_singleton.1 h1]; exact hS _ _ _ ht, hr, hm, by show s.csp.length + (s.shares ++ [t]).length + s.rules.length ≤ s.items; rw [List.length_append, List.length_singleton]; omega, hi⟩
  by_cases h2 : w = wMixed
  · rw [itemK_mixed h0 h1 h2] at h
    cases ht : wordP T e [wBlock, wUpgrade, wAllow] p with
    | error x => rw [ht] at h; cases h
    | ok x =>
      obtain ⟨t, q2⟩ := x
      rw [ht] at h; cases h
      refine ⟨hc, hs, hr, ?_, by show s.csp.length + s.shares.length + s.rules.length ≤ s.items; omega, hi⟩
      have := wordP_mem ht
      simp only [memB, List.any_cons, List.any_nil, Bool.or_eq_true, decide_eq_true_eq, Bool.or_false] at this
      exact this
  by_cases h3 : w = wDefault
  · rw [itemK_default h0 h1 h2 h3] at h
    cases ht : wordP T e [wAllow, wDeny] p with
    | error x => rw [ht] at h; cases h
    | ok x =>
      obtain ⟨t, q2⟩ := x
      rw [ht] at h; cases h
      exact ⟨hc, hs, hr, hm, by show s.csp.length + s.shares.length + s.rules.length ≤ s.items; omega, hi⟩
  · rw [itemK_rule h0 h1 h2 h3] at h
    cases ht : wordP T e [wIf] p with
    | error x => rw [ht] at h; cases h
    | ok x =>
      obtain ⟨t, q2⟩ := x
      rw [ht] at h
      simp only [ifK] at h
      cases ht2 : condP T e q2 with
      | error x => rw [ht2] at h; cases h
      | ok x =>
        obtain ⟨c, q3⟩ := x
        rw [ht2] at h; cases h
        exact ⟨hc, hs, fun x hx => by
          rcases List.mem_append.1 hx with h1 | h1
          · exact hr x h1
          · rw [List.mem_singleton.1 h1]; exact hC _ _ _ ht2, hm, by show s.csp.length + s.shares.length + (s.rules ++ [_]).length ≤ s.items; rw [List.length_append, List.length_singleton]; omega, hi⟩
theorem onceP_same {st s1 : Pst} {p : Nat} (h : onceP T e st p = .ok s1) : s1.csp = st.csp ∧ s1.shares = st.shares ∧ s1.rules = st.rules ∧ s1.mixed = st.mixed ∧ s1.items = st.items ∧ s1.allow = st.allow := by
  rw [onceP] at h
  repeat' split at h
  all_goals first | (cases h; exact ⟨rfl, rfl, rfl, rfl, rfl, rfl⟩) | cases h
theorem itemP_all (hA : ∀ p t q, takeP T e 2 p = .ok (t, q) → A t) (hS : ∀ p h q, shareP T e p = .ok (h, q) → S h) (hC : ∀ p c q, condP T e p = .ok (c, q) → C c) {st st' : Pst} {p q : Nat} (h : AllP A S C st) (hi : itemP T e st p = .ok (st', q)) : AllP A S C st' := by
  rw [itemP] at hi
  split at hi
  · split at hi
    · cases hi
    · rename_i s1 h1
      obtain ⟨e1, e2, e3, e4, e5, _⟩ := onceP_same h1
      split at hi
      · cases hi
      · rename_i hb
        split at hi
        · cases hi
        · rename_i w q2 hw
          refine itemK_all hA hS hC (s := { s1 with items := s1.items + 1 }) ?_ ?_ ?_ ?_ ?_ ?_ hi
          · show ∀ t ∈ s1.csp, A t; rw [e1]; exact h.c
          · show ∀ t ∈ s1.shares, S t; rw [e2]; exact h.s
          · show ∀ t ∈ s1.rules, C t.f1; rw [e3]; exact h.r
          · show s1.mixed = _ ∨ s1.mixed = _ ∨ s1.mixed = _; rw [e4]; exact h.m
          · show s1.csp.length + s1.shares.length + s1.rules.length + 1 ≤ s1.items + 1; rw [e1, e2, e3, e5]; have := h.n; omega
          · show s1.items + 1 ≤ 60; omega
  · cases hi
theorem itemsP_all (hA : ∀ p t q, takeP T e 2 p = .ok (t, q) → A t) (hS : ∀ p h q, shareP T e p = .ok (h, q) → S h) (hC : ∀ p c q, condP T e p = .ok (c, q) → C c) : ∀ (f : Nat) (st : Pst) (p : Nat) (st' : Pst), AllP A S C st → itemsP T e f st p = .ok st' → AllP A S C st'
  | 0, st, p, st', h, hi => by rw [itemsP] at hi; cases hi; exact h
  | f + 1, st, p, st', h, hi => by
    by_cases hp : p < T.length
    · rw [itemsP_succ hp] at hi
      cases h1 : itemP T e st p with
      | error x => rw [h1] at hi; cases hi
      | ok x =>
        obtain ⟨s1, q⟩ := x
        rw [h1] at hi
        cases h2 : takeP T e 5 q with
        | error x => rw [itemsK, h2] at hi; cases hi
        | ok x =>
          obtain ⟨t, q2⟩ := x
          rw [itemsK, h2] at hi
          exact itemsP_all hA hS hC f s1 q2 st' (itemP_all hA hS hC h h1) hi
    · rw [itemsP, if_neg hp] at hi; cases hi; exact h
theorem all0 : AllP A S C pst0 := ⟨(fun _ h => by cases h), (fun _ h => by cases h), (fun _ h => by cases h), .inl rfl, (by decide), (by decide)⟩
theorem polP_all (hA : ∀ p t q, takeP T e 2 p = .ok (t, q) → A t) (hS : ∀ p h q, shareP T e p = .ok (h, q) → S h) (hC : ∀ p c q, condP T e p = .ok (c, q) → C c) {st : Pst} (h : polP T e = .ok st) : AllP A S C st := itemsP_all hA hS hC _ _ _ _ all0 h
theorem takeP_le {k : Int} {p : Nat} {t : ByteArray} {q : Nat} (hk : k ≠ 0) (h : takeP T e k p = .ok (t, q)) : q ≤ T.length := by
  rw [takeP] at h
  split at h
  · rename_i hi
    cases h
    apply Classical.byContradiction
    intro hn
    rw [nxt, dif_neg (by omega)] at hi
    exact hk hi.symm
  · cases h
theorem shareL_len : ∀ (f : Nat) (s : Sh) (p : Nat) (s' : Sh) (q : Nat), s.f1.length ≤ p → s.f2.length ≤ p → p ≤ T.length → shareL T e f s p = .ok (s', q) → s'.f1.length ≤ q ∧ s'.f2.length ≤ q ∧ q ≤ T.length
  | 0, s, p, s', q, h1, h2, h3, h => by
    rw [shareL] at h; cases h; exact ⟨h1, h2, h3⟩
  | f + 1, s, p, s', q, h1, h2, h3, h => by
    by_cases hi : isP T e [wMethod, wHeader, wCreds] p = true
    · rw [shareL_succ _ _ _ _ _ hi.symm] at h
      cases ht : takeP T e 1 p with
      | error x => rw [ht] at h; cases h
      | ok x =>
        obtain ⟨w, q1⟩ := x
        have hq1 := takeP_mono ht
        have hl1 := takeP_le (by decide) ht
        rw [ht] at h
        simp only [shareK] at h
        split at h
        · cases ht2 : takeP T e 1 q1 with
          | error x => rw [ht2] at h; cases h
          | ok x =>
            obtain ⟨t, q2⟩ := x
            have hq2 := takeP_mono ht2
            have hl2 := takeP_le (by decide) ht2
            rw [ht2] at h
            exact shareL_len f _ _ _ _ (by show (s.f1 ++ [t]).length ≤ q2; rw [List.length_append, List.length_singleton]; omega) (by show s.f2.length ≤ q2; omega) hl2 h
        · split at h
          · cases ht2 : takeP T e 1 q1 with
            | error x => rw [ht2] at h; cases h
            | ok x =>
              obtain ⟨t, q2⟩ := x
              have hq2 := takeP_mono ht2
              have hl2 := takeP_le (by decide) ht2
              rw [ht2] at h
              exact shareL_len f _ _ _ _ (by show s.f1.length ≤ q2; omega) (by show (s.f2 ++ [t]).length ≤ q2; rw [List.length_append, List.length_singleton]; omega) hl2 h
          · exact shareL_len f _ _ _ _ (by show s.f1.length ≤ q1; omega) (by show s.f2.length ≤ q1; omega) hl1 h
    · rw [shareL, if_neg hi] at h; cases h; exact ⟨h1, h2, h3⟩
theorem shareP_len {p : Nat} {h : Sh} {q : Nat} (hs : shareP T e p = .ok (h, q)) : h.f1.length ≤ T.length ∧ h.f2.length ≤ T.length := by
  rw [shareP] at hs
  cases ht : takeP T e 2 p with
  | error x => rw [ht] at hs; cases hs
  | ok x =>
    obtain ⟨t, q1⟩ := x
    rw [ht] at hs
    have := shareL_len _ _ _ _ _ (Nat.zero_le _) (Nat.zero_le _) (takeP_le (by decide) ht) hs
    omega
theorem closeK_le {c : Cd} {q : Nat} {x : Cd × Nat} (h : closeK c (takeP T e 4 q) = .ok x) : x.2 ≤ T.length := by
  cases ht : takeP T e 4 q with
  | error y => rw [ht] at h; cases h
  | ok y => obtain ⟨t, q2⟩ := y; rw [ht] at h; cases h; exact takeP_le (by decide) ht
variable (T e) in
def Ends (f : Nat → Res Cd) : Prop := ∀ p c q, f p = .ok (c, q) → q ≤ T.length
theorem kidsL_end {one : Nat → Res Cd} (h : Ends T one) {w : ByteArray} : ∀ (f : Nat) (acc : List Cd) (p : Nat) (l : List Cd) (q : Nat), p ≤ T.length → kidsL T e one w f acc p = .ok (l, q) → q ≤ T.length
  | 0, acc, p, l, q, hp, hk => by rw [kidsL] at hk; cases hk; exact hp
  | f + 1, acc, p, l, q, hp, hk => by
    rw [kidsL] at hk
    split at hk
    · cases ho : one (p + 1) with
      | error x => rw [ho] at hk; cases hk
      | ok x =>
        obtain ⟨c, q1⟩ := x
        rw [ho] at hk
        exact kidsL_end h f _ _ _ _ (h _ _ _ ho) hk
    · cases hk; exact hp
theorem kidsP_end {one : Nat → Res Cd} (h : Ends T one) {w : ByteArray} {kind : Int} : Ends T (kidsP T e kind w one) := by
  intro p c q hk
  rw [kidsP] at hk
  cases ho : one p with
  | error x => rw [ho] at hk; cases hk
  | ok x =>
    obtain ⟨c1, q1⟩ := x
    rw [ho] at hk
    dsimp only at hk
    cases hl : kidsL T e one w (T.length + 1 - q1) [c1] q1 with
    | error x => rw [hl] at hk; cases hk
    | ok x =>
      obtain ⟨l, r⟩ := x
      rw [hl] at hk
      have := kidsL_end h _ _ _ _ _ (h _ _ _ ho) hl
      dsimp only at hk
      split at hk <;> (cases hk; exact this)
theorem wordP_le {ws : List ByteArray} {p : Nat} {t : ByteArray} {q : Nat} (h : wordP T e ws p = .ok (t, q)) : q ≤ T.length := by
  rw [wordP] at h
  split at h
  · exact takeP_le (by decide) h
  · cases h
theorem atomP_end : Ends T (atomP T e) := by
  intro p c q h
  rw [atomP] at h
  split at h
  · cases h
  · rename_i w q1 h1
    have e1 := wordP_le h1
    unfold atomK at h
    have key : ∀ {f : ByteArray → ByteArray} {k : Int}, k ≠ 0 → atomT w f (takeP T e k q1) = .ok (c, q) → q ≤ T.length := fun hk h => by
      obtain ⟨t, ht⟩ := atomT_mono h
      exact takeP_le hk ht
    repeat' split at h
    all_goals first | exact key (by decide) h | (cases h; exact e1)
theorem notN_end : ∀ n, Ends T (notN T e n)
  | 0 => by
    intro p c q h
    rw [notN] at h
    split at h
    · cases h
    · split at h
      · cases h
      · exact atomP_end _ _ _ h
  | n + 1 => by
    intro p c q h
    rw [notN] at h
    split at h
    · obtain ⟨c1, q1, h1, h2⟩ := wrapNot_ok h
      cases h2
      exact notN_end n _ _ _ h1
    · split at h
      · obtain ⟨c1, q1, h1, h2⟩ := closeP_ok h
        exact closeK_le h2
      · exact atomP_end _ _ _ h
theorem condP_end : Ends T (condP T e) := kidsP_end (kidsP_end (notN_end 30))
theorem polT_eq {n : Int} {x : List Tk × Int × Int} : polT n x = if x.2.1 = 0 then polP x.1 n else .error (x.2.1, x.2.2) := by
  obtain ⟨T, c, a⟩ := x; rfl
end
end Go.Proofs.YtngedmioeodmfaaDoor.Pu
namespace Go.Proofs.YtngedmioeodmfaaDoor.Pu
open Go.RowKit Go.Proofs.YtngedmioeodmfaaDoor.Pr Go.Proofs.YtngedmioeodmfaaDoorW.PrintWords Go.Proofs.YtngedmioeodmfaaDoor.Lx
open Go.Proofs.YtngedmioeodmfaaDoor.Ps hiding Tk
set_option linter.unusedVariables false
set_option linter.unusedSimpArgs false
theorem V_unesc : ∀ (l A : List Int), V (A ++ escL l) → V (A ++ l) := by
  intro l
  induction l with
  | nil => intro A h; exact h
  | cons c l ih =>
    intro A h
    rw [escL_cons] at h
    by_cases q : c = 34 ∨ c = 92
    · rw [if_pos q] at h
      have h1 := (V_split A 92 (c :: escL l) (by omega) (by omega)).1 h
      have h2 := (V_split [] c (escL l) (by omega) (by omega)).1 h1.2
      exact (V_split A c l (by omega) (by omega)).2 ⟨h1.1, ih [] h2.2⟩
    · rw [if_neg q] at h
      have := ih (A ++ [c]) (by simpa using h)
      simpa using this
/-- What the tokens of a text are. -/
structure TokOk (T : List Tk) : Prop where
  w : ∀ t ∈ T, t.f0 = 1 → WordT t.f2
  s : ∀ t ∈ T, t.f0 = 2 → StrT t.f2
theorem tok_ok {x : ByteArray} (hx : x.size ≤ 3000) (hv : V (bytesOf x)) {ts : List Tk} (h : sm 0 .sk [] (bytesOf x) = .good ts) : TokOk ts := by
  have hp := placed x ts h
  have hz : ∀ t ∈ ts, t.f2.size ≤ 3000 := fun t ht => by have := toks_text h t ht; omega
  refine ⟨fun t ht h1 => ?_, fun t ht h2 => ?_⟩
  · obtain ⟨ho, _⟩ := hp.all t ht
    rcases ho with ⟨_, hw⟩ | ⟨h3, _⟩ | ⟨c, hc, h3, _⟩
    · exact ⟨hw, hz t ht⟩
    · omega
    · exfalso
      rw [h1] at h3
      rcases hc with rfl | rfl | rfl <;> exact absurd h3 (by decide +kernel)
  · obtain ⟨ho, a, rest, hd⟩ := hp.all t ht
    have hvw := V_wof hv ho hd
    rcases ho with ⟨h3, _⟩ | ⟨_, hs⟩ | ⟨c, hc, h3, _⟩
    · omega
    · refine ⟨hs, ?_, hz t ht⟩
      rw [wof, if_pos h2] at hvw
      have h4 := ((V_split [] 34 _ (by omega) (by omega)).1 hvw).2
      exact V_unesc _ [] ((V_split _ 34 [] (by omega) (by omega)).1 h4).1
    · exfalso
      rw [h2] at h3
      exact opIdx_ne c h3.symm
section
variable {T : List Tk} {e : Int}
theorem take_mem {k : Int} (hk : k ≠ 0) {p : Nat} {t : ByteArray} {q : Nat} (h : takeP T e k p = .ok (t, q)) : ∃ x ∈ T, x.f0 = k ∧ x.f2 = t := by
  rw [takeP] at h
  split at h
  · rename_i hi
    by_cases hp : p < T.length
    · rw [nxt, dif_pos hp] at hi h
      cases h
      exact ⟨_, List.getElem_mem hp, hi, rfl⟩
    · rw [nxt, dif_neg hp] at hi
      exact absurd hi.symm hk
  · cases h
theorem TokOk.tw (hT : TokOk T) {p : Nat} {t : ByteArray} {q : Nat} (h : takeP T e 1 p = .ok (t, q)) : WordT t := by
  obtain ⟨x, hx, h1, rfl⟩ := take_mem (by decide) h
  exact hT.w x hx h1
theorem TokOk.ts (hT : TokOk T) {p : Nat} {t : ByteArray} {q : Nat} (h : takeP T e 2 p = .ok (t, q)) : StrT t := by
  obtain ⟨x, hx, h1, rfl⟩ := take_mem (by decide) h
  exact hT.s x hx h1
theorem low_fin : ∀ c : Fin 256, (pWord (c.val : Int) = true → pWord (low (c.val : Int)) = true) ∧ (pLetter (c.val : Int) = true → pLetter (low (c.val : Int)) = true ∧ pBlank (low (c.val : Int)) = false ∧ low (c.val : Int) ≠ 35) ∧ low (low (c.val : Int)) = low (c.val : Int) ∧ 0 ≤ low (c.val : Int) ∧ low (c.val : Int) ≤ 255 := by decide +kernel
theorem low_all {x : Int} (h : 0 ≤ x ∧ x ≤ 255) : (pWord x = true → pWord (low x) = true) ∧ (pLetter x = true → pLetter (low x) = true ∧ pBlank (low x) = false ∧ low x ≠ 35) ∧ low (low x) = low x ∧ 0 ≤ low x ∧ low x ≤ 255 := by
  obtain ⟨c, rfl⟩ : ∃ c : Fin 256, (c.val : Int) = x := ⟨⟨x.toNat, by omega⟩, by simp; omega⟩
  exact low_fin c
theorem low_rng (s : ByteArray) : ∀ x ∈ (bytesOf s).map low, 0 ≤ x ∧ x ≤ 255 := by
  intro x hx
  obtain ⟨y, hy, rfl⟩ := List.mem_map.1 hx
  exact (low_all (bytesOf_range s y hy)).2.2.2
theorem bytes_low (s : ByteArray) : bytesOf (lowB s) = (bytesOf s).map low := by
  rw [← low_str, bytesOf_str _ (low_rng s)]
theorem low_low (s : ByteArray) : lowB (lowB s) = lowB s := by
  apply bytesOf_inj
  rw [bytes_low, bytes_low, List.map_map]
  exact List.map_congr_left (fun x hx => (low_all (bytesOf_range s x hx)).2.2.1)
theorem WordT.low {w : ByteArray} (h : WordT w) : WordT (lowB w) := by
  have hz : (lowB w).size ≤ 3000 := by
    rw [← bytesOf_length, bytes_low, List.length_map, bytesOf_length]; exact h.2
  obtain ⟨⟨c, l, hb, h1, h2, h3, h4⟩, _⟩ := h
  have hrg := bytesOf_range w
  rw [hb] at hrg
  have hc := (low_all (hrg c (List.mem_cons_self ..))).2.1 h3
  refine ⟨⟨Ps.low c, l.map Ps.low, by rw [bytes_low, hb]; rfl, hc.2.1, hc.2.2, hc.1, fun x hx => ?_⟩, hz⟩
  obtain ⟨y, hy, rfl⟩ := List.mem_map.1 hx
  exact (low_all (hrg y (List.mem_cons_of_mem _ hy))).1 (h4 y hy)
def Shp (f : Nat → Res Cd) : Prop := ∀ p c q, f p = .ok (c, q) → Shape c
theorem kidsL_shape {one : Nat → Res Cd} (h : Shp one) {w : ByteArray} : ∀ (f : Nat) (acc : List Cd) (p : Nat) (l : List Cd) (q : Nat), (∀ c ∈ acc, Shape c) → kidsL T e one w f acc p = .ok (l, q) → ∀ c ∈ l, Shape c
  | 0, acc, p, l, q, ha, hr => by cases hr; exact ha
  | f + 1, acc, p, l, q, ha, hr => by
    rw [kidsL] at hr
    split at hr
    · cases h1 : one (p + 1) with
      | error x => rw [h1] at hr; cases hr
      | ok x =>
        obtain ⟨c, q1⟩ := x
        rw [h1] at hr
        refine kidsL_shape h f _ _ _ _ (fun d hd => ?_) hr
        rcases List.mem_append.1 hd with hd | hd
        · exact ha d hd
        · rw [List.mem_singleton.1 hd]; exact h _ _ _ h1
    · cases hr; exact ha
theorem kidsP_shape {one : Nat → Res Cd} (h : Shp one) {w : ByteArray} {kind : Int} (hk : kind = 5 ∨ kind = 6) : Shp (kidsP T e kind w one) := by
  intro p c q hr
  rw [kidsP] at hr
  cases h1 : one p with
  | error x => rw [h1] at hr; cases hr
  | ok x =>
    obtain ⟨c1, q1⟩ := x
    rw [h1] at hr
    simp only at hr
    cases hl : kidsL T e one w (T.length + 1 - q1) [c1] q1 with
    | error x => rw [hl] at hr; cases hr
    | ok y =>
      obtain ⟨l, q2⟩ := y
      rw [hl] at hr
      have hs := kidsL_shape h _ _ _ _ _ (fun d hd => by rw [List.mem_singleton.1 hd]; exact h _ _ _ h1) hl
      have hge : 1 ≤ l.length := by simpa using kidsL_more hl
      simp only at hr
      split at hr
      · rename_i h1l
        have h3 := Except.ok.inj hr; simp only [Prod.mk.injEq] at h3
        obtain ⟨x, rfl⟩ : ∃ x, l = [x] := List.length_eq_one_iff.1 h1l
        rw [← h3.1]
        exact hs x (List.mem_cons_self ..)
      · have h3 := Except.ok.inj hr; simp only [Prod.mk.injEq] at h3
        rw [← h3.1]
        exact .many kind hk l (by omega) hs
theorem atomP_shape (hT : TokOk T) : Shp (atomP T e) := by
  intro p c q h
  rw [atomP] at h
  cases h1 : wordP T e atomWords p with
  | error x => rw [h1] at h; cases h
  | ok x =>
    obtain ⟨w, q1⟩ := x
    rw [h1] at h
    simp only at h
    have hw := mem_of_B.1 (wordP_mem h1)
    unfold atomK at h
    have hA : ∀ {f : ByteArray → ByteArray} {k : Int}, atomT w f (takeP T e k q1) = .ok (c, q) → ∃ t, takeP T e k q1 = .ok (t, q) ∧ c = ⟨3, ⟨w, f t⟩, []⟩ := by
      intro f k hr
      cases ht : takeP T e k q1 with
      | error x => rw [ht] at hr; cases hr
      | ok x => obtain ⟨t, q3⟩ := x; rw [ht] at hr; simp only [atomT] at hr; have h3 := Except.ok.inj hr; simp only [Prod.mk.injEq] at h3; exact ⟨t, by rw [← h3.2], h3.1.symm⟩
    split at h
    · have h3 := Except.ok.inj h; simp only [Prod.mk.injEq] at h3; rw [← h3.1]; exact .true_
    rename_i hw1
    split at h
    · have h3 := Except.ok.inj h; simp only [Prod.mk.injEq] at h3; rw [← h3.1]; exact .false_
    rename_i hw2
    split at h
    · rename_i hm
      obtain ⟨t, ht, rfl⟩ := hA h
      exact .wordA w t (by simp [hm]) (hT.tw ht) (fun hn => absurd hm hn)
    rename_i hw3
    split at h
    · rename_i hm
      obtain ⟨t, ht, rfl⟩ := hA h
      exact .wordA w _ (by rcases hm with hm | hm | hm <;> simp [hm]) (hT.tw ht).low (fun _ => low_low t)
    rename_i hw4
    split at h
    · rename_i hm
      obtain ⟨t, ht, rfl⟩ := hA h
      exact .strA w _ (by rcases hm with hm | hm <;> simp [hm]) (hT.ts ht)
    rename_i hw5
    have h3 := Except.ok.inj h; simp only [Prod.mk.injEq] at h3; rw [← h3.1]
    refine .bare w ?_
    simp only [not_or] at hw4 hw5
    simp only [atomWords, List.mem_cons, List.not_mem_nil, or_false] at hw ⊢
    rcases hw with h | h | h | h | h | h | h | h | h | h | h | h
    · exact absurd h hw1
    · exact absurd h hw2
    · exact .inl h
    · exact .inr (.inl h)
    · exact .inr (.inr (.inl h))
    · exact .inr (.inr (.inr h))
    · exact absurd h hw3
    · exact absurd h hw4.1
    · exact absurd h hw4.2.1
    · exact absurd h hw4.2.2
    · exact absurd h hw5.1
    · exact absurd h hw5.2
theorem closeK_same {c d : Cd} {r : Res ByteArray} {q : Nat} (h : closeK c r = .ok (d, q)) : d = c := by
  cases r with
  | error x => cases h
  | ok x => obtain ⟨t, q2⟩ := x; simp only [closeK] at h; have h3 := Except.ok.inj h; simp only [Prod.mk.injEq] at h3; exact h3.1.symm
theorem notN_shape (hT : TokOk T) : ∀ n, Shp (notN T e n)
  | 0 => by
    intro p c q h
    rw [notN] at h
    split at h
    · cases h
    · split at h
      · cases h
      · exact atomP_shape hT _ _ _ h
  | n + 1 => by
    intro p c q h
    rw [notN] at h
    split at h
    · obtain ⟨c1, q1, h1, h2⟩ := wrapNot_ok h
      cases h2
      exact .not_ c1 (notN_shape hT n _ _ _ h1)
    · split at h
      · obtain ⟨c1, q1, h1, h2⟩ := closeP_ok h
        rw [closeK_same h2]
        exact kidsP_shape (kidsP_shape (notN_shape hT n) (.inl rfl)) (.inr rfl) _ _ _ h1
      · exact atomP_shape hT _ _ _ h
theorem condP_shape (hT : TokOk T) : Shp (condP T e) := kidsP_shape (kidsP_shape (notN_shape hT 30) (.inl rfl)) (.inr rfl)
theorem shareL_ok (hT : TokOk T) : ∀ (f : Nat) (s : Sh) (p : Nat) (s' : Sh) (q : Nat), ShareOk s → shareL T e f s p = .ok (s', q) → ShareOk s'
  | 0, s, p, s', q, hs, h => by rw [shareL] at h; cases h; exact hs
  | f + 1, s, p, s', q, hs, h => by
    by_cases hi : isP T e [wMethod, wHeader, wCreds] p = true
    · rw [shareL_succ _ _ _ _ _ hi.symm] at h
      cases ht : takeP T e 1 p with
      | error x => rw [ht] at h; cases h
      | ok x =>
        obtain ⟨w, q1⟩ := x
        rw [ht] at h
        simp only [shareK] at h
        split at h
        · cases ht2 : takeP T e 1 q1 with
          | error x => rw [ht2] at h; cases h
          | ok x =>
            obtain ⟨t, q2⟩ := x
            rw [ht2] at h
            refine shareL_ok hT f ⟨s.f0, s.f1 ++ [t], s.f2, s.f3⟩ _ _ _ ⟨hs.o, fun y hy => ?_, hs.h⟩ h
            rcases List.mem_append.1 hy with hy | hy
            · exact hs.m y hy
            · rw [List.mem_singleton.1 hy]; exact hT.tw ht2
        · split at h
          · cases ht2 : takeP T e 1 q1 with
            | error x => rw [ht2] at h; cases h
            | ok x =>
              obtain ⟨t, q2⟩ := x
              rw [ht2] at h
              refine shareL_ok hT f ⟨s.f0, s.f1, s.f2 ++ [t], s.f3⟩ _ _ _ ⟨hs.o, hs.m, fun y hy => ?_⟩ h
              rcases List.mem_append.1 hy with hy | hy
              · exact hs.h y hy
              · rw [List.mem_singleton.1 hy]; exact hT.tw ht2
          · exact shareL_ok hT f ⟨s.f0, s.f1, s.f2, true⟩ _ _ _ ⟨hs.o, hs.m, hs.h⟩ h
    · rw [shareL, if_neg hi] at h; cases h; exact hs
theorem shareP_made (hT : TokOk T) {p : Nat} {h : Sh} {q : Nat} (hs : shareP T e p = .ok (h, q)) : ShareOk h := by
  rw [shareP] at hs
  cases ht : takeP T e 2 p with
  | error x => rw [ht] at hs; cases hs
  | ok x =>
    obtain ⟨t, q1⟩ := x
    rw [ht] at hs
    exact shareL_ok hT _ _ _ _ _ ⟨hT.ts ht, (fun _ h => by cases h), (fun _ h => by cases h)⟩ hs
end
/-- What a policy is, that was read. -/
structure ReadP (st : Pst) : Prop where
  a : AllP StrT (fun s => ShareOk s ∧ s.f1.length ≤ 3000 ∧ s.f2.length ≤ 3000) (fun c => Shape c ∧ sizeC c ≤ 3000) st
theorem read_ok {x : ByteArray} {st : Pst} (h : polA x = .ok st) : ReadP st := by
  rw [polA, polT_eq] at h
  rcases tokM_cases x with ⟨ts, h1, hs, hv, hl⟩ | ⟨j, h1, hj⟩ | ⟨h1, hl⟩
  · rw [h1, if_pos rfl] at h
    have hT := tok_ok hl hv hs
    have hln : ts.length ≤ 3000 := by have := toks_len hs; omega
    refine ⟨polP_all (fun p t q ht => hT.ts ht) (fun p s q hs => ⟨shareP_made hT hs, ?_, ?_⟩) (fun p c q hc => ⟨condP_shape hT _ _ _ hc, ?_⟩) h⟩
    · have := shareP_len hs; omega
    · have := shareP_len hs; omega
    · have h1 := condP_size _ _ _ hc
      have h2 := condP_end _ _ _ hc
      omega
  · rw [h1] at h; rw [if_neg (by exact (by decide : ¬ (8 : Int) = 0))] at h; cases h
  · rw [h1] at h; rw [if_neg (by exact (by decide : ¬ (2 : Int) = 0))] at h; cases h
theorem ReadP.pol {st : Pst} (h : ReadP st) : PolOk st.csp st.shares st.mixed st.rules := ⟨h.a.c, fun t ht => (h.a.s t ht).1, h.a.m, fun t ht => (h.a.r t ht).1⟩
end Go.Proofs.YtngedmioeodmfaaDoor.Pu
