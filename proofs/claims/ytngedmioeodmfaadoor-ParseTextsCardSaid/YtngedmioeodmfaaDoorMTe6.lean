/- 15 texts of the proof, put together, less what is not used; what a tool printed stands among them. -/
import Derived.Maps.Own
import Derived.Maps.OwnOps
import Derived.Maps.Views
import Derived.Defers
import Derived.Test.YtngedmioeodmfaaDoorMTe5
set_option maxRecDepth 100000
namespace Go.Proofs
open Go.RowKit
theorem nTe6_ {p_ : Prop} (h_ : p_ := by
 simp only [Act.put, List.setIfInBounds_toArray, List.set_cons_zero, List.set_cons_succ, i64_w, i32_w]
 rfl) : p_ := h_
theorem sTe6_0 {p_ : Prop} (h_ : p_ := by
 intro w'
 go_simp
 with_reducible rfl) : p_ := h_
theorem sTe6_1 {p_ : Prop} (h_ : p_ := by
 go_enter Tryd.func79, Tryd.ntmps79
 go_upto_region 1 with (fail)
 rw [← HW1.out]
 go_wp2_with (refine wpList_load_row rfl 49 _ rfl w.heap.size rfl 49 #[.int .i64 k, .string a0, .string a1, .slice A n c3] (0, 0) _ HX.out Tryd.underlying49 rfl size_cd ?_)
 refine H1.out.mono ?_
 rintro e w2 ⟨rfl, hb⟩
 dsimp only
 have HB2 : Aside0 (Below w.heap.size w w2) := ⟨HB1.out.trans (hb.mono HB1.out.size)⟩
 clear hb
 go_wp2
 go_ret
 exact ⟨rfl, HB2.out⟩) : p_ := h_
end Go.Proofs
namespace Go.Proofs.YtngedmioeodmfaaDoor.Ps
open Go.RowKit Go.Proofs.YtngedmioeodmfaaDoor.Pr Go.Proofs.YtngedmioeodmfaaDoorW.PrintWords Go.Proofs.YtngedmioeodmfaaDoorW.PrintLast Go.Proofs.YtngedmioeodmfaaDoorW.PrintMore
def shcells (s : Sh) (v1 v2 : Value) : Array Value := #[.string s.f0, v1, v2, .bool s.f3]
theorem size_sh : (Tryd.prog.info? 44).map (·.size) = some 4 := by kernel_rfl
def ShareQ (w0 W : World) (g : Nat) (T : List Tk) (b : Pb) (deep : Int) (okS : Nat → Prop) (shs : List Sh) (r : Res Sh) (e : Ending) (w' : World) : Prop :=
 match r with
 | .ok (s, q) => e = .returned (.tuple #[]) ∧ ∃ v4', PS w0 w' g T { b with v4 := v4' } q deep ∧ k44.R 44 w' w0.heap.size okS v4' (shs ++ [s]) ∧ Kept W w' (fun k => k = g ∨ b.v4.ownBlock = some k)
 | .error f => Failed w0 f e w'
theorem info_sh : (Tryd.prog.info? 44).map (fun i => (i.zero, i.size, i.bytes)) = some (some (.agg #[.string ⟨#[]⟩, .slice none 0 0, .slice none 0 0, .bool false]), k44.sz, 72) := by kernel_rfl
def shareM (T : List Tk) (e : Int) (f : Nat) (s : Sh) : Res ByteArray → Res Sh
 | .error x => .error x
 | .ok (t, r) => shareL T e f ⟨s.f0, s.f1 ++ [t], s.f2, s.f3⟩ r
def shareH (T : List Tk) (e : Int) (f : Nat) (s : Sh) : Res ByteArray → Res Sh
 | .error x => .error x
 | .ok (t, r) => shareL T e f ⟨s.f0, s.f1, s.f2 ++ [t], s.f3⟩ r
def shareK (T : List Tk) (e : Int) (f : Nat) (s : Sh) : Res ByteArray → Res Sh
 | .error x => .error x
 | .ok (w, q) => if w = wMethod then shareM T e f s (takeP T e 1 q) else if w = wHeader then shareH T e f s (takeP T e 1 q) else shareL T e f ⟨s.f0, s.f1, s.f2, true⟩ q
theorem shareL_succ (T : List Tk) (e : Int) (f : Nat) (s : Sh) (p : Nat) (h : true = isP T e [wMethod, wHeader, wCreds] p) : shareL T e (f + 1) s p = shareK T e f s (takeP T e 1 p) := by
 rw [shareL, ← h, if_pos rfl]
 cases takeP T e 1 p with
 | error x => rfl
 | ok x =>
  obtain ⟨w, q⟩ := x
  simp only [shareK]
  split
  ·cases takeP T e 1 q <;> rfl
  ·split
   ·cases takeP T e 1 q <;> rfl
   ·rfl
theorem info_str : (Tryd.prog.info? 9).map (fun i => (i.zero, i.size, i.bytes)) = some (some (.string ⟨#[]⟩), Kd.string.sz, 16) := by kernel_rfl
theorem goesP_ {P : Program} {ops : Array Oper} {Q : Exit → Act → World → Prop} {oi : Oper} {N : Option Tmp} {a : Act} {w : World} {K : Act → World → Prop} {f : FuncId} {fn : Func} {xs : Array Operand} {ts : Array TypeId} (hf : P.funcs[f]? = some fn) (hname : (fn.name == "runtime.NumGoroutine") = false) (hb : fn.body.isSome = true) (args : Array Value)
  (hw : Region.wanted oi (yielded ops a.tmps) = true) (hN : oi.dst = N) (hop : oi.op = .call { callee := .value (.func f), args := xs, argTypes := ts }) (hargs : xs.map a.eval = args)
  (h : Calls P f args w fun e w' => (∃ v, e = .returned v ∧ K (a.put N v) w') ∨ ∃ ch, e = .panicked ch ∧ Q (.panic ch) a w') : if Region.wanted oi (yielded ops a.tmps) = true then Oper.wp P oi a w K Q else K (a.put N undef) w := by
 have hrun : (execOp a.eval oi).run P w = .ok (.enter f args) w := by
  have he := enters_ hf hname hb args w
  unfold execOp
  simp [hop, resolve, Deferred.ofValue, invoke, Act.eval, hargs, he]
 rw [if_pos hw]
 subst hN
 unfold Oper.wp
 rw [hrun, Oper.upon_enter]
 refine h.mono fun e w'' hh => ?_
 rcases hh with ⟨v, rfl, hk⟩ | ⟨ch, rfl, hk⟩
 ·exact hk
 ·exact hk
theorem eq_word {w a : ByteArray} {l : List UInt8} (h : a.toList = l) : (w.toList == l) = decide (w = a) := by
 subst h
 rw [Bool.eq_iff_iff]
 simp [bytes_toList]
set_option maxHeartbeats 8000000 in
set_option maxRecDepth 100000 in
theorem share_calls (w0 W : World) (g : Nat) (T : List Tk) (b : Pb) (p : Nat) (deep : Int) (h : PS w0 W g T b p deep) (okS : Nat → Prop) (shs : List Sh) (hS : k44.R 44 W w0.heap.size okS b.v4 shs) (hokS : ∀ k, W.heap.size ≤ k → okS k) (hgS : ¬ okS g) (hls : shs.length ≤ 1000000) :
  Calls Tryd.prog 48 #[.pointer (some ⟨g, 0, none⟩)] W (ShareQ w0 W g T b deep okS shs (shareP T b.e p)) := by
 have H := Aside0.mk h
 have HSH := Aside0.mk hS
 have HOS := Aside0.mk hokS
 have HGS := Aside0.mk hgS
 have HLS := Aside0.mk hls
 obtain ⟨R, hR⟩ : ∃ R, R = shareP T b.e p := ⟨_, rfl⟩
 rw [← hR]
 have HR := Aside0.mk hR
 have h1 := take_calls w0 W g T b p deep 2 h (by decide)
 obtain ⟨r1, hr1⟩ : ∃ r1, r1 = takeP T b.e 2 p := ⟨_, rfl⟩
 rw [← hr1] at h1
 have H1 := Aside0.mk h1
 have HR1 := Aside0.mk hr1
 clear hR h1 hr1 h hS hokS hgS hls
 go_enter Tryd.func48, Tryd.ntmps48
 go_wp2_with fail
 refine H1.out.mono ?_
 cases r1 with
 | error f =>
  obtain rfl : R = .error f := by rw [HR.out, shareP, ← HR1.out]
  rintro e w1 ⟨rfl, hb⟩
  dsimp only
  exact ⟨rfl, rfl, hb⟩
 | ok x =>
  obtain ⟨o, q⟩ := x
  have HRK : Aside0 (R = shareL T b.e (T.length + 1 - q) ⟨o, [], [], false⟩ q) := ⟨by rw [HR.out, shareP, ← HR1.out]⟩
  rintro e w1 ⟨v, rfl, rfl, hs, hk⟩
  dsimp only
  have HS1 := Aside0.mk hs
  have HK1 := Aside0.mk hk
  have HB1 : Aside0 (w1.heap.size ≤ w1.heap.size) := ⟨Nat.le_refl _⟩
  clear hs hk HR HR1 H1
  go_wp2_with (refine wpList_store_row rfl 44 _ _ rfl w1.heap.size (shcells ⟨o, [], [], false⟩ (.slice none 0 0) (.slice none 0 0)) rfl rfl 44 #[.string ⟨#[]⟩, .slice none 0 0, .slice none 0 0, .bool false] (blk_new _ _) size_sh rfl (by simp [shcells, Value.oneCell']) ?_)
  obtain ⟨gs, hgs⟩ : ∃ gs, gs = w1.heap.size := ⟨_, rfl⟩
  obtain ⟨w2, hw2⟩ : ∃ w2, w2 = (w1.alloc (.cells #[.string ⟨#[]⟩, .slice none 0 0, .slice none 0 0, .bool false] 44)).setRow w1.heap.size (shcells ⟨o, [], [], false⟩ (.slice none 0 0) (.slice none 0 0)) := ⟨_, rfl⟩
  rw [← hw2]
  rw [← hgs] at hw2 ⊢
  have HX2 : Aside0 (w2.heap[gs]? = some (.cells (shcells ⟨o, [], [], false⟩ (.slice none 0 0) (.slice none 0 0)) 44 (0, 0))) := ⟨by rw [hw2, hgs]; exact setRow_heap _ _ _ _ _ _ (blk_new _ _)⟩
  have HGG : Aside0 (g < gs) := ⟨by rw [hgs]; exact blk_lt HS1.out.blk⟩
  have HWG : Aside0 (W.heap.size ≤ gs) := ⟨by rw [hgs]; exact HK1.out.1⟩
  have HS2 : Aside0 (PS w0 w2 g T b q deep) := ⟨by rw [hw2]; exact (HS1.out.below (below_alloc (Below.refl _ _) _)).row (by have := HGG.out; omega) (by have := HWG.out; have := H.out.bl.size; omega) _⟩
  have HK2 : Aside0 (Kept W w2 (fun k => k = g)) := ⟨by rw [hw2]; exact (HK1.out.alloc _).then_ (kept_setRow _ _ _) (fun k hk => .inr (by have := HWG.out; omega))⟩
  clear hw2 hgs HS1 HK1 HB1
  have hput : ∀ (a : Act) (v : Value), a.put none v = a := fun _ _ => rfl
  rw [hput]
  clear hput
  rename_i K1 hK1
  have HKK := Aside0.mk hK1
  clear hK1
  go_loopg [] T.length (fun gk wr => ∃ (f : Nat) (s : Sh) (q : Nat) (vM vH : Value), Aside0 (T.length + 1 - q ≤ f) ∧ Aside0 (T.length - q ≤ gk) ∧ Aside0 (R = shareL T b.e f s q) ∧ Aside0 (s.f1.length ≤ q) ∧ Aside0 (s.f2.length ≤ q) ∧ Aside0 (PS w0 wr g T b q deep) ∧ Aside0 (Kept W wr (fun k => k = g)) ∧ Aside0 (wr.heap[gs]? = some (.cells (shcells s vM vH) 44 (0, 0))) ∧
   Aside0 (Kd.string.R 9 wr w0.heap.size (fun k => gs < k) vM s.f1) ∧ Aside0 (Kd.string.R 9 wr w0.heap.size (fun k => gs < k) vH s.f2) ∧ Aside0 (∀ k, vM.ownBlock = some k → vH.ownBlock ≠ some k))
  case atStart => exact ⟨T.length + 1 - q, ⟨o, [], [], false⟩, q, .slice none 0 0, .slice none 0 0, ⟨Nat.le_refl _⟩, ⟨by omega⟩, HRK, ⟨by simp⟩, ⟨by simp⟩, HS2, HK2, HX2, ⟨Kd.R_nil _ _ _ _ _⟩, ⟨Kd.R_nil _ _ _ _ _⟩, ⟨fun k hk => by simp [Value.ownBlock] at hk⟩⟩
  case round =>
   clear HRK HS2 HK2 HX2
   obtain ⟨f, s, q, vM, vH, HFB, HGK, HFN, HL1, HL2, HS, HK, HX, HM, HH, HD⟩ := hrel
   have HIS := is_calls w0 _ g T b q deep (HS.out.below (below_alloc (Below.refl _ _) (.cells #[.string wMethod, .string wHeader, .string wCreds] 9))) (some ⟨wr.heap.size, 0, none⟩) 3 3 [wMethod, wHeader, wCreds] (lit_strs wr [wMethod, wHeader, wCreds] (by simp)) rfl (Nat.le_refl _) (by simp)
   obtain ⟨i, hi⟩ : ∃ i, i = isP T b.e [wMethod, wHeader, wCreds] q := ⟨_, rfl⟩
   rw [← hi] at HIS
   have HIS := Aside0.mk HIS
   have HI := Aside0.mk hi
   clear hi
   go_wp2_with fail
   refine HIS.out.mono ?_
   rintro e w4 ⟨rfl, hb⟩
   dsimp only
   have HB4 : Aside0 (Below wr.heap.size wr w4) := ⟨(below_alloc (Below.refl _ _) _).trans (hb.mono (below_alloc (Below.refl _ _) _).size)⟩
   have HS4 := Aside0.mk (HS.out.below HB4.out)
   have HK4 := Aside0.mk (HK.out.below HB4.out)
   have HX4 := Aside0.mk (blk_below HX.out HB4.out)
   have HM4 := Aside0.mk (Kd.R_below HM.out HB4.out)
   have HH4 := Aside0.mk (Kd.R_below HH.out HB4.out)
   clear hb HIS HS HK HX HM HH HB4
   cases i
   ·have hfin : R = .ok (s, q) := by
     rw [HFN.out]
     cases f with
     | zero => rfl
     | succ f => rw [shareL, ← HI.out]; rfl
    clear HFN HI
    go_wp2_with fail
    refine HKK.out _ _ ?_
    subst hfin
    have HR4 : Aside0 (k44.R 44 w4.drew w0.heap.size okS b.v4 shs) := ⟨Kd.R_drew (Kd.R_kept HSH.out HK4.out (fun k hk he => HGS.out (he ▸ hk)))⟩
    have HMM : Aside0 (k44.M w4.drew w0.heap.size (fun k => gs < k) s [.string s.f0, vM, vH, .bool s.f3]) := ⟨k44_mkM _ _ _ _ (Kd.R_drew HM4.out) (Kd.R_drew HH4.out)⟩
    have HOK : Aside0 (∀ k, gs < k → okS k ∧ some k ≠ b.v4.ownBlock) := ⟨fun k hk => ⟨HOS.out k (by have := HWG.out; omega), fun he => by have := Kd.R_lt HSH.out k he.symm; have := HWG.out; omega⟩⟩
    have HFR : Aside0 (∀ k, w4.drew.heap.size ≤ k → okS k) := ⟨fun k hk => HOS.out k (by have := HK4.out.1; have : w4.heap.size ≤ k := hk; omega)⟩
    have HBB : Aside0 (Below w0.heap.size w0 w4.drew) := ⟨below_drew HS4.out.bl⟩
    have HLB : Aside0 ((shs.length + 1) * 72 ≤ 140737488355328) := ⟨by have := HLS.out; omega⟩
    have d0 : w4.drew.cell? ⟨g, 4, none⟩ = some b.v4 := HS4.out.cell 4
    have d1 : w4.drew.cell? ⟨gs, 0, none⟩ = some (.string s.f0) := blk_cell (show w4.drew.heap[gs]? = _ from HX4.out) 0
    have d2 : w4.drew.cell? ⟨gs, 1, none⟩ = some vM := blk_cell (show w4.drew.heap[gs]? = _ from HX4.out) 1
    have d3 : w4.drew.cell? ⟨gs, 2, none⟩ = some vH := blk_cell (show w4.drew.heap[gs]? = _ from HX4.out) 2
    have d4 : w4.drew.cell? ⟨gs, 3, none⟩ = some (.bool s.f3) := blk_cell (show w4.drew.heap[gs]? = _ from HX4.out) 3
    refine start_ (n := 13) (S := fun w' => w'.cell? ⟨g, 4, none⟩ = some b.v4 ∧ w'.cell? ⟨gs, 0, none⟩ = some (.string s.f0) ∧ w'.cell? ⟨gs, 1, none⟩ = some vM ∧ w'.cell? ⟨gs, 2, none⟩ = some vH ∧ w'.cell? ⟨gs, 3, none⟩ = some (.bool s.f3)) (ds := [8, 12]) #[false, false, false, false, false, false, false, false, false, false, false, false, false] (by kernel_rfl) rfl rfl ⟨d0, d1, d2, d3, d4⟩ (fun hHeld => ?_)
    refine pure_ (i := 0) (N := some 32) (v := ?_) (a' := ?_) #[true, false, false, false, false, false, false, false, false, false, false, false, false] rfl rfl (by kernel_rfl) (fun _ _ _ h => h) (Or.inl ⟨by rfl, ?_⟩) ?_ ?_
    rotate_left
    ·exact sTe6_0
    rotate_left
    ·exact nTe6_
    refine pure_ (i := 1) (N := some 33) (v := ?_) (a' := ?_) #[true, true, false, false, false, false, false, false, false, false, false, false, false] rfl rfl (by kernel_rfl) (fun _ _ _ h => h) (Or.inl ⟨by rfl, ?_⟩) ?_ ?_
    rotate_left
    ·exact sTe6_0
    rotate_left
    ·exact nTe6_
    refine pure_ (i := 2) (N := some 34) (v := ?_) (a' := ?_) #[true, true, true, false, false, false, false, false, false, false, false, false, false] rfl rfl (by kernel_rfl) (fun _ _ _ h => h) (Or.inl ⟨by rfl, ?_⟩) ?_ ?_
    rotate_left
    ·exact sTe6_0
    rotate_left
    ·exact nTe6_
    refine pure_ (i := 3) (N := some 35) (v := ?_) (a' := ?_) #[true, true, true, true, false, false, false, false, false, false, false, false, false] rfl rfl (by kernel_rfl) (fun _ _ _ h => h) (Or.inl ⟨by rfl, ?_⟩) ?_ ?_
    rotate_left
    ·exact sTe6_0
    rotate_left
    ·exact nTe6_
    refine pure_ (i := 4) (N := some 36) (v := ?_) (a' := ?_) #[true, true, true, true, true, false, false, false, false, false, false, false, false] rfl rfl (by kernel_rfl) (fun _ _ _ h => h) (Or.inl ⟨by rfl, ?_⟩) ?_ ?_
    rotate_left
    ·exact sTe6_0
    rotate_left
    ·exact nTe6_
    refine take_ (i := 5) (N := some 37) (v := ?_) (a' := ?_) #[true, true, true, true, true, true, false, false, false, false, false, false, false] rfl rfl (by kernel_rfl) (fun _ _ _ h => h) (Or.inl ⟨by rfl, ?_⟩) hHeld ?_ ?_
    rotate_left
    ·rintro w' ⟨s0, s1, s2, s3, s4⟩
     go_simp
     with_reducible rfl
    rotate_left
    ·exact nTe6_
    refine take_ (i := 6) (N := some 38) (v := ?_) (a' := ?_) #[true, true, true, true, true, true, true, false, false, false, false, false, false] rfl rfl (by kernel_rfl) (fun _ _ _ h => h) (Or.inl ⟨by rfl, ?_⟩) hHeld ?_ ?_
    rotate_left
    ·rintro w' ⟨s0, s1, s2, s3, s4⟩
     go_simp
     with_reducible rfl
    rotate_left
    ·exact nTe6_
    refine one_ (i := 7) (N := some 39) #[true, true, true, true, true, true, true, true, false, false, false, false, false] rfl rfl (by kernel_rfl) (by decide) (fun K hK => ?_)
    refine value_ (w1 := ?_) (v := ?_) (by rfl) rfl ?_ ?_
    rotate_left 2
    ·go_simp
     constructor
     ·rfl
     ·rfl
    refine hK.out _ _ ⟨(blk_cell (show (w4.drew.alloc _).heap[g]? = _ from blk_alloc (show w4.drew.heap[g]? = _ from HS4.out.blk) _) 4), (blk_cell (show (w4.drew.alloc _).heap[gs]? = _ from blk_alloc (show w4.drew.heap[gs]? = _ from HX4.out) _) 0), (blk_cell (show (w4.drew.alloc _).heap[gs]? = _ from blk_alloc (show w4.drew.heap[gs]? = _ from HX4.out) _) 1), (blk_cell (show (w4.drew.alloc _).heap[gs]? = _ from blk_alloc (show w4.drew.heap[gs]? = _ from HX4.out) _) 2), (blk_cell (show (w4.drew.alloc _).heap[gs]? = _ from blk_alloc (show w4.drew.heap[gs]? = _ from HX4.out) _) 3)⟩ (fun hHeld => ?_)
    clear hK K
    refine norm_ (a' := ?_) ?_ ?_
    rotate_left
    ·show Act.put _ (some 39) _ = _
     exact nTe6_
    refine last_ (i := 8) (N := some 40) #[true, true, true, true, true, true, true, true, true, false, false, false, false] rfl rfl (by kernel_rfl) (by decide) (fun K hK => ?_)
    refine Kd.R_append_step k44 (w0 := w0) (W := w4.drew) w0.heap.size (by rfl) _ _ 24 44 _ 72 rfl Tryd.underlying24 info_sh rfl (by decide) (by decide) b.v4 shs s [.string s.f0, vM, vH, .bool s.f3] okS (fun k => gs < k) rfl rfl HMM.out HOK.out HFR.out HR4.out HBB.out HBB.out.size HLB.out ?_
    intro v8 w8 hO8 hB8 hG8 hat8
    obtain ⟨A8, c8, e8⟩ := Kd.R_slice hO8
    obtain ⟨n8, hn8⟩ : ∃ n8, n8 = (shs ++ [s]).length := ⟨_, rfl⟩
    rw [← hn8] at e8
    subst e8
    have hp8 : w8.heap[g]? = some (.cells (pcells b q deep) 63 (0, 0)) := (hG8.block g (blk_lt HS4.out.blk) (fun he => HGS.out (HSH.out.1 g he.symm))).trans HS4.out.blk
    have e4 : w8.cell? ⟨g, 4, none⟩ = some b.v4 := blk_cell hp8 4
    have f4 := blk_frozen hp8 4
    have HP8 := Aside0.mk hp8
    have HO8 := Aside0.mk hO8
    have HG8 := Aside0.mk hG8
    have HB8 := Aside0.mk hB8
    clear hO8 hB8 hG8 hat8 hp8 hn8
    refine hK.out _ _ ?_
    clear hK K
    refine norm_ (a' := ?_) ?_ ?_
    rotate_left
    ·show Act.put _ (some 40) _ = _
     exact nTe6_
    refine pure_ (i := 9) (N := some 41) (v := ?_) (a' := ?_) #[true, true, true, true, true, true, true, true, true, true, false, false, false] rfl rfl (by kernel_rfl) (fun _ _ _ h => h) (Or.inl ⟨by rfl, ?_⟩) ?_ ?_
    rotate_left
    ·exact sTe6_0
    rotate_left
    ·exact nTe6_
    refine pure_ (i := 10) (N := some 42) (v := ?_) (a' := ?_) #[true, true, true, true, true, true, true, true, true, true, true, false, false] rfl rfl (by kernel_rfl) (fun _ _ _ h => h) (Or.inl ⟨by rfl, ?_⟩) ?_ ?_
    rotate_left
    ·exact sTe6_0
    rotate_left
    ·exact nTe6_
    refine pure_ (i := 11) (N := some 43) (v := ?_) (a' := ?_) #[true, true, true, true, true, true, true, true, true, true, true, true, false] rfl rfl (by kernel_rfl) (fun _ _ _ h => h) (Or.inl ⟨by rfl, ?_⟩) ?_ ?_
    rotate_left
    ·exact sTe6_0
    rotate_left
    ·exact nTe6_
    refine last_ (i := 12) (N := none) #[true, true, true, true, true, true, true, true, true, true, true, true, true] rfl rfl (by kernel_rfl) (by decide) (fun K hK => ?_)
    refine skip_ (w1 := ?_) (by rfl) rfl ?_ ?_
    rotate_left
    ·go_simp
     rfl
    refine hK.out _ _ ?_
    clear hK K
    refine done_ (by kernel_rfl) ?_

    go_wp2
    refine ⟨rfl, .tuple #[], by simp [results, Tryd.results48], rfl, .slice A8 n8 c8, ⟨blk_set HP8.out 4 _, HB8.out.setCell (p := ⟨g, 4, none⟩) HS4.out.gl _, HS4.out.gl, HS4.out.tC, HS4.out.tn, HS4.out.tc, HS4.out.tl, HS4.out.al⟩, ?_, ?_⟩
    ·exact Kd.R_far HO8.out (p := ⟨g, 4, none⟩) (fun k hk (he : k = g) => HGS.out (he ▸ hk)) _
    ·exact Kept.setCell (S := fun k => k = g ∨ b.v4.ownBlock = some k) (p := ⟨g, 4, none⟩) (Kept.of_grown HG8.out ((HK4.out : Kept W w4.drew (fun k => k = g)).mono (fun k hk => .inl hk)) (fun k hk => .inl (.inr hk))) (.inl (.inl rfl)) _
   ·have hq : q < T.length := isP_lt HI.out.symm
    have HQ := Aside0.mk hq
    obtain ⟨f', rfl⟩ : ∃ f', f = f' + 1 := ⟨f - 1, by have := HFB.out; omega⟩
    have h5 := take_calls w0 w4 g T b q deep 1 HS4.out (by decide)
    obtain ⟨r2, hr2⟩ : ∃ r2, r2 = takeP T b.e 1 q := ⟨_, rfl⟩
    rw [← hr2] at h5
    have H5 := Aside0.mk h5
    have HR2 := Aside0.mk hr2
    have HFN2 : Aside0 (R = shareK T b.e f' s r2) := ⟨by rw [HFN.out, shareL_succ _ _ _ _ _ HI.out, ← HR2.out]⟩
    clear h5 hr2 hq
    go_wp2_with fail
    refine H5.out.mono ?_
    cases r2 with
    | error x =>
     obtain rfl : R = .error x := HFN2.out
     rintro e w6 ⟨rfl, hb⟩
     dsimp only
     exact ⟨rfl, rfl, hb⟩
    | ok x =>
     obtain ⟨w, q2⟩ := x
     rintro e w5 ⟨v, rfl, rfl, hs, hk⟩
     dsimp only
     have HS5 := Aside0.mk hs
     have HK5 := Aside0.mk (HK4.out.then_ hk (fun k hk => .inl hk))
     have HX5 := Aside0.mk (blk_kept HX4.out hk (by have := HGG.out; show gs ≠ g; omega))
     have HM5 := Aside0.mk (Kd.R_kept HM4.out hk (fun k hk => by have := HGG.out; show k ≠ g; omega))
     have HH5 := Aside0.mk (Kd.R_kept HH4.out hk (fun k hk => by have := HGG.out; show k ≠ g; omega))
     have HQ2 : Aside0 (q < q2) := ⟨by have := takeP_mono HR2.out.symm; omega⟩
     clear hs hk HS4 HK4 HX4 HM4 HH4 HFN H5 HI
     by_cases hw : w = wMethod
     ·have HFN3 : Aside0 (R = shareM T b.e f' s (takeP T b.e 1 q2)) := ⟨by rw [HFN2.out, shareK, if_pos hw]⟩
      have t0 : (w.toList == [109, 101, 116, 104, 111, 100]) = true := (eq_word (w := w) (a := wMethod) (by decide +kernel)).trans (decide_eq_true hw)
      clear hw HFN2
      have h7 := take_calls w0 w5.drew g T b q2 deep 1 (HS5.out.below (below_drew (Below.refl _ _))) (by decide)
      obtain ⟨r3, hr3⟩ : ∃ r3, r3 = takeP T b.e 1 q2 := ⟨_, rfl⟩
      rw [← hr3] at h7 HFN3
      have H7 := Aside0.mk h7
      have HR3 := Aside0.mk hr3
      clear h7 hr3
      have d1 : w5.drew.cell? ⟨gs, 1, none⟩ = some vM := blk_cell (show w5.drew.heap[gs]? = _ from HX5.out) 1
      go_upto_region 5 with (fail)
      refine start_ (n := 8) (S := fun w' => w'.cell? ⟨gs, 1, none⟩ = some vM) (ds := [5, 7]) #[false, false, false, false, false, false, false, false] (by kernel_rfl) rfl rfl (d1) (fun hHeld => ?_)
      refine pure_ (i := 0) (N := some 16) (v := ?_) (a' := ?_) #[true, false, false, false, false, false, false, false] rfl rfl (by kernel_rfl) (fun _ _ _ h => h) (Or.inl ⟨by rfl, ?_⟩) ?_ ?_
      rotate_left
      ·exact sTe6_0
      rotate_left
      ·exact nTe6_
      refine pure_ (i := 2) (N := some 18) (v := ?_) (a' := ?_) #[true, false, true, false, false, false, false, false] rfl rfl (by kernel_rfl) (fun _ _ _ h => h) (Or.inl ⟨by rfl, ?_⟩) ?_ ?_
      rotate_left
      ·exact sTe6_0
      rotate_left
      ·exact nTe6_
      refine take_ (i := 1) (N := some 17) (v := ?_) (a' := ?_) #[true, true, true, false, false, false, false, false] rfl rfl (by kernel_rfl) (fun _ _ _ h => h) (Or.inl ⟨by rfl, ?_⟩) hHeld ?_ ?_
      rotate_left
      ·intro w' s0
       go_simp
       with_reducible rfl
      rotate_left
      ·exact nTe6_
      refine one_ (i := 3) (N := some 19) #[true, true, true, true, false, false, false, false] rfl rfl (by kernel_rfl) (by decide) (fun K hK => ?_)
      refine goesP_ Tryd.func22 (by kernel_rfl) rfl #[.pointer (some ⟨g, 0, none⟩), .int .i64 1] (by rfl) rfl rfl (by simp only [List.map_toArray, List.map_cons, List.map_nil]; rfl) ?_
      refine H7.out.mono ?_
      rcases r3 with x | ⟨t, q3⟩
      ·rintro e w7 ⟨rfl, hb⟩
       refine .inr ⟨_, rfl, ?_⟩
       obtain rfl : R = .error x := HFN3.out
       exact ⟨rfl, rfl, hb⟩
      rintro e w7 ⟨v7, rfl, rfl, hs7, hk7⟩
      refine .inl ⟨_, rfl, ?_⟩
      have HS7 := Aside0.mk hs7
      have HK7 := Aside0.mk ((show Kept W w5.drew (fun k => k = g) from HK5.out).then_ hk7 (fun k hk => .inl hk))
      have HX7 := Aside0.mk (blk_kept (show w5.drew.heap[gs]? = _ from HX5.out) hk7 (by have := HGG.out; show gs ≠ g; omega))
      have HM7 := Aside0.mk (Kd.R_kept (Kd.R_drew HM5.out) hk7 (fun k hk => by have := HGG.out; show k ≠ g; omega))
      have HH7 := Aside0.mk (Kd.R_kept (Kd.R_drew HH5.out) hk7 (fun k hk => by have := HGG.out; show k ≠ g; omega))
      have HQ3 : Aside0 (q3 = q2 + 1) := ⟨takeP_mono HR3.out.symm⟩
      have HFR7 : Aside0 (∀ k, w7.heap.size ≤ k → gs < k) := ⟨fun k hk => by have := blk_lt HX7.out; omega⟩
      have HLB7 : Aside0 ((s.f1.length + 1) * 16 ≤ 140737488355328) := ⟨by have := HL1.out; have := HQ.out; have := H.out.tl; omega⟩
      clear hs7 hk7 HS5 HK5 HX5 HM5 HH5
      refine hK.out _ _ ((blk_cell HX7.out 1)) (fun hHeld => ?_)
      clear hK K
      refine norm_ (a' := ?_) ?_ ?_
      rotate_left
      ·show Act.put _ (some 19) _ = _
       exact nTe6_
      refine one_ (i := 4) (N := some 20) #[true, true, true, true, true, false, false, false] rfl rfl (by kernel_rfl) (by decide) (fun K hK => ?_)
      refine value_ (w1 := ?_) (v := ?_) (by rfl) rfl ?_ ?_
      rotate_left 2
      ·go_simp
       constructor
       ·rfl
       ·rfl
      refine hK.out _ _ ((blk_cell (show (w7.alloc _).heap[gs]? = _ from blk_alloc HX7.out _) 1)) (fun hHeld => ?_)
      clear hK K
      refine norm_ (a' := ?_) ?_ ?_
      rotate_left
      ·show Act.put _ (some 20) _ = _
       exact nTe6_
      refine last_ (i := 5) (N := some 21) #[true, true, true, true, true, true, false, false] rfl rfl (by kernel_rfl) (by decide) (fun K hK => ?_)
      refine Kd.R_append_step Kd.string (w0 := w0) (W := w7) w0.heap.size (by rfl) _ _ 23 9 (.string ⟨#[]⟩) 16 rfl Tryd.underlying23 info_str rfl (by decide) (by decide) vM s.f1 t [.string t] (fun k => gs < k) (fun _ => False) rfl rfl rfl (fun _ hk => hk.elim) HFR7.out HM7.out HS7.out.bl HS7.out.bl.size HLB7.out ?_
      intro v9 w9 hO9 hB9 hG9 hat9
      have HD9 : Aside0 (∀ k, v9.ownBlock = some k → vH.ownBlock ≠ some k) := ⟨fun k hk he => by
       rcases hat9 with h | ⟨b9, h, h2⟩
       ·exact HD.out k (h ▸ hk) (he)
       ·rw [h] at hk; cases hk; have := Kd.R_lt HH7.out _ he; omega⟩
      obtain ⟨A9, c9, e9⟩ := Kd.R_slice hO9
      obtain ⟨n9, hn9⟩ : ∃ n9, n9 = (s.f1 ++ [t]).length := ⟨_, rfl⟩
      rw [← hn9] at e9
      subst e9
      have hx9 : w9.heap[gs]? = some (.cells (shcells s vM vH) 44 (0, 0)) := (hG9.block gs (blk_lt HX7.out) (fun he => by have := HM7.out.1 gs he.symm; omega)).trans HX7.out
      have e4 : w9.cell? ⟨gs, 1, none⟩ = some vM := blk_cell hx9 1
      have f4 := blk_frozen hx9 1
      have HX9 := Aside0.mk hx9
      have HO9 := Aside0.mk hO9
      have HP9 : Aside0 (PS w0 w9 g T b q3 deep) := ⟨⟨(hG9.block g (blk_lt HS7.out.blk) (fun he => by have := HM7.out.1 g he.symm; have := HGG.out; omega)).trans HS7.out.blk, hB9, HS7.out.gl, HS7.out.tC, HS7.out.tn, HS7.out.tc, HS7.out.tl, HS7.out.al⟩⟩
      have HK9 : Aside0 (Kept W w9 (fun k => k = g)) := ⟨Kept.of_grown hG9 HK7.out (fun k hk => .inr (by have := HM7.out.1 k hk; have := HWG.out; omega))⟩
      have HH9 := Aside0.mk (Kd.R_grown2 HH7.out rfl hG9 (fun k hk he => HD.out k (hk) (he.symm)))
      clear hO9 hB9 hG9 hat9 hx9 hn9
      refine hK.out _ _ ?_
      clear hK K
      refine norm_ (a' := ?_) ?_ ?_
      rotate_left
      ·show Act.put _ (some 21) _ = _
       exact nTe6_
      refine pure_ (i := 6) (N := some 22) (v := ?_) (a' := ?_) #[true, true, true, true, true, true, true, false] rfl rfl (by kernel_rfl) (fun _ _ _ h => h) (Or.inl ⟨by rfl, ?_⟩) ?_ ?_
      rotate_left
      ·exact sTe6_0
      rotate_left
      ·exact nTe6_
      refine last_ (i := 7) (N := none) #[true, true, true, true, true, true, true, true] rfl rfl (by kernel_rfl) (by decide) (fun K hK => ?_)
      refine skip_ (w1 := ?_) (by rfl) rfl ?_ ?_
      rotate_left
      ·go_simp
       rfl
      refine hK.out _ _ ?_
      clear hK K
      refine done_ (by kernel_rfl) ?_

      go_wp2
      go_roundg (T.length - q3)
      case measure => have := HGK.out; have := HQ.out; have := HQ2.out; have := HQ3.out; omega
      case rel => exact ⟨f', ⟨s.f0, s.f1 ++ [t], s.f2, s.f3⟩, q3, .slice A9 n9 c9, vH, ⟨by have := HFB.out; have := HQ2.out; have := HQ3.out; omega⟩, ⟨Nat.le_refl _⟩, HFN3, ⟨by rw [List.length_append, List.length_singleton]; have := HL1.out; have := HQ2.out; have := HQ3.out; omega⟩, ⟨by have := HL2.out; have := HQ2.out; have := HQ3.out; show s.f2.length ≤ q3; omega⟩, ⟨HP9.out.far (by have := HGG.out; omega) (by have := HWG.out; have := H.out.bl.size; omega) 1 _⟩, ⟨Kept.setCell (S := fun k => k = g) (p := ⟨gs, 1, none⟩) HK9.out (.inr HWG.out) _⟩, ⟨blk_set HX9.out 1 _⟩, ⟨Kd.R_far HO9.out (p := ⟨gs, 1, none⟩) (fun k hk (he : k = gs) => by omega) _⟩, ⟨Kd.R_far HH9.out (p := ⟨gs, 1, none⟩) (fun k hk (he : k = gs) => by omega) _⟩, HD9⟩
     ·have t0 : (w.toList == [109, 101, 116, 104, 111, 100]) = false := (eq_word (w := w) (a := wMethod) (by decide +kernel)).trans (decide_eq_false hw)
      by_cases hw2 : w = wHeader
      ·have HFN3 : Aside0 (R = shareH T b.e f' s (takeP T b.e 1 q2)) := ⟨by rw [HFN2.out, shareK, if_neg hw, if_pos hw2]⟩
       have t1 : (w.toList == [104, 101, 97, 100, 101, 114]) = true := (eq_word (w := w) (a := wHeader) (by decide +kernel)).trans (decide_eq_true hw2)
       clear hw hw2 HFN2
       have h7 := take_calls w0 w5.drew g T b q2 deep 1 (HS5.out.below (below_drew (Below.refl _ _))) (by decide)
       obtain ⟨r3, hr3⟩ : ∃ r3, r3 = takeP T b.e 1 q2 := ⟨_, rfl⟩
       rw [← hr3] at h7 HFN3
       have H7 := Aside0.mk h7
       have HR3 := Aside0.mk hr3
       clear h7 hr3
       have d1 : w5.drew.cell? ⟨gs, 2, none⟩ = some vH := blk_cell (show w5.drew.heap[gs]? = _ from HX5.out) 2
       go_upto_region 7 with (fail)
       refine start_ (n := 8) (S := fun w' => w'.cell? ⟨gs, 2, none⟩ = some vH) (ds := [5, 7]) #[false, false, false, false, false, false, false, false] (by kernel_rfl) rfl rfl (d1) (fun hHeld => ?_)
       refine pure_ (i := 0) (N := some 25) (v := ?_) (a' := ?_) #[true, false, false, false, false, false, false, false] rfl rfl (by kernel_rfl) (fun _ _ _ h => h) (Or.inl ⟨by rfl, ?_⟩) ?_ ?_
       rotate_left
       ·exact sTe6_0
       rotate_left
       ·exact nTe6_
       refine pure_ (i := 2) (N := some 27) (v := ?_) (a' := ?_) #[true, false, true, false, false, false, false, false] rfl rfl (by kernel_rfl) (fun _ _ _ h => h) (Or.inl ⟨by rfl, ?_⟩) ?_ ?_
       rotate_left
       ·exact sTe6_0
       rotate_left
       ·exact nTe6_
       refine take_ (i := 1) (N := some 26) (v := ?_) (a' := ?_) #[true, true, true, false, false, false, false, false] rfl rfl (by kernel_rfl) (fun _ _ _ h => h) (Or.inl ⟨by rfl, ?_⟩) hHeld ?_ ?_
       rotate_left
       ·intro w' s0
        go_simp
        with_reducible rfl
       rotate_left
       ·exact nTe6_
       refine one_ (i := 3) (N := some 28) #[true, true, true, true, false, false, false, false] rfl rfl (by kernel_rfl) (by decide) (fun K hK => ?_)
       refine goesP_ Tryd.func22 (by kernel_rfl) rfl #[.pointer (some ⟨g, 0, none⟩), .int .i64 1] (by rfl) rfl rfl (by simp only [List.map_toArray, List.map_cons, List.map_nil]; rfl) ?_
       refine H7.out.mono ?_
       rcases r3 with x | ⟨t, q3⟩
       ·rintro e w7 ⟨rfl, hb⟩
        refine .inr ⟨_, rfl, ?_⟩
        obtain rfl : R = .error x := HFN3.out
        exact ⟨rfl, rfl, hb⟩
       rintro e w7 ⟨v7, rfl, rfl, hs7, hk7⟩
       refine .inl ⟨_, rfl, ?_⟩
       have HS7 := Aside0.mk hs7
       have HK7 := Aside0.mk ((show Kept W w5.drew (fun k => k = g) from HK5.out).then_ hk7 (fun k hk => .inl hk))
       have HX7 := Aside0.mk (blk_kept (show w5.drew.heap[gs]? = _ from HX5.out) hk7 (by have := HGG.out; show gs ≠ g; omega))
       have HM7 := Aside0.mk (Kd.R_kept (Kd.R_drew HM5.out) hk7 (fun k hk => by have := HGG.out; show k ≠ g; omega))
       have HH7 := Aside0.mk (Kd.R_kept (Kd.R_drew HH5.out) hk7 (fun k hk => by have := HGG.out; show k ≠ g; omega))
       have HQ3 : Aside0 (q3 = q2 + 1) := ⟨takeP_mono HR3.out.symm⟩
       have HFR7 : Aside0 (∀ k, w7.heap.size ≤ k → gs < k) := ⟨fun k hk => by have := blk_lt HX7.out; omega⟩
       have HLB7 : Aside0 ((s.f2.length + 1) * 16 ≤ 140737488355328) := ⟨by have := HL2.out; have := HQ.out; have := H.out.tl; omega⟩
       clear hs7 hk7 HS5 HK5 HX5 HM5 HH5
       refine hK.out _ _ ((blk_cell HX7.out 2)) (fun hHeld => ?_)
       clear hK K
       refine norm_ (a' := ?_) ?_ ?_
       rotate_left
       ·show Act.put _ (some 28) _ = _
        exact nTe6_
       refine one_ (i := 4) (N := some 29) #[true, true, true, true, true, false, false, false] rfl rfl (by kernel_rfl) (by decide) (fun K hK => ?_)
       refine value_ (w1 := ?_) (v := ?_) (by rfl) rfl ?_ ?_
       rotate_left 2
       ·go_simp
        constructor
        ·rfl
        ·rfl
       refine hK.out _ _ ((blk_cell (show (w7.alloc _).heap[gs]? = _ from blk_alloc HX7.out _) 2)) (fun hHeld => ?_)
       clear hK K
       refine norm_ (a' := ?_) ?_ ?_
       rotate_left
       ·show Act.put _ (some 29) _ = _
        exact nTe6_
       refine last_ (i := 5) (N := some 30) #[true, true, true, true, true, true, false, false] rfl rfl (by kernel_rfl) (by decide) (fun K hK => ?_)
       refine Kd.R_append_step Kd.string (w0 := w0) (W := w7) w0.heap.size (by rfl) _ _ 23 9 (.string ⟨#[]⟩) 16 rfl Tryd.underlying23 info_str rfl (by decide) (by decide) vH s.f2 t [.string t] (fun k => gs < k) (fun _ => False) rfl rfl rfl (fun _ hk => hk.elim) HFR7.out HH7.out HS7.out.bl HS7.out.bl.size HLB7.out ?_
       intro v9 w9 hO9 hB9 hG9 hat9
       have HD9 : Aside0 (∀ k, v9.ownBlock = some k → vM.ownBlock ≠ some k) := ⟨fun k hk he => by
        rcases hat9 with h | ⟨b9, h, h2⟩
        ·exact HD.out k (he) (h ▸ hk)
        ·rw [h] at hk; cases hk; have := Kd.R_lt HM7.out _ he; omega⟩
       obtain ⟨A9, c9, e9⟩ := Kd.R_slice hO9
       obtain ⟨n9, hn9⟩ : ∃ n9, n9 = (s.f2 ++ [t]).length := ⟨_, rfl⟩
       rw [← hn9] at e9
       subst e9
       have hx9 : w9.heap[gs]? = some (.cells (shcells s vM vH) 44 (0, 0)) := (hG9.block gs (blk_lt HX7.out) (fun he => by have := HH7.out.1 gs he.symm; omega)).trans HX7.out
       have e4 : w9.cell? ⟨gs, 2, none⟩ = some vH := blk_cell hx9 2
       have f4 := blk_frozen hx9 2
       have HX9 := Aside0.mk hx9
       have HO9 := Aside0.mk hO9
       have HP9 : Aside0 (PS w0 w9 g T b q3 deep) := ⟨⟨(hG9.block g (blk_lt HS7.out.blk) (fun he => by have := HH7.out.1 g he.symm; have := HGG.out; omega)).trans HS7.out.blk, hB9, HS7.out.gl, HS7.out.tC, HS7.out.tn, HS7.out.tc, HS7.out.tl, HS7.out.al⟩⟩
       have HK9 : Aside0 (Kept W w9 (fun k => k = g)) := ⟨Kept.of_grown hG9 HK7.out (fun k hk => .inr (by have := HH7.out.1 k hk; have := HWG.out; omega))⟩
       have HM9 := Aside0.mk (Kd.R_grown2 HM7.out rfl hG9 (fun k hk he => HD.out k (he.symm) (hk)))
       clear hO9 hB9 hG9 hat9 hx9 hn9
       refine hK.out _ _ ?_
       clear hK K
       refine norm_ (a' := ?_) ?_ ?_
       rotate_left
       ·show Act.put _ (some 30) _ = _
        exact nTe6_
       refine pure_ (i := 6) (N := some 31) (v := ?_) (a' := ?_) #[true, true, true, true, true, true, true, false] rfl rfl (by kernel_rfl) (fun _ _ _ h => h) (Or.inl ⟨by rfl, ?_⟩) ?_ ?_
       rotate_left
       ·exact sTe6_0
       rotate_left
       ·exact nTe6_
       refine last_ (i := 7) (N := none) #[true, true, true, true, true, true, true, true] rfl rfl (by kernel_rfl) (by decide) (fun K hK => ?_)
       refine skip_ (w1 := ?_) (by rfl) rfl ?_ ?_
       rotate_left
       ·go_simp
        rfl
       refine hK.out _ _ ?_
       clear hK K
       refine done_ (by kernel_rfl) ?_

       go_wp2
       go_roundg (T.length - q3)
       case measure => have := HGK.out; have := HQ.out; have := HQ2.out; have := HQ3.out; omega
       case rel => exact ⟨f', ⟨s.f0, s.f1, s.f2 ++ [t], s.f3⟩, q3, vM, .slice A9 n9 c9, ⟨by have := HFB.out; have := HQ2.out; have := HQ3.out; omega⟩, ⟨Nat.le_refl _⟩, HFN3, ⟨by have := HL1.out; have := HQ2.out; have := HQ3.out; show s.f1.length ≤ q3; omega⟩, ⟨by rw [List.length_append, List.length_singleton]; have := HL2.out; have := HQ2.out; have := HQ3.out; omega⟩, ⟨HP9.out.far (by have := HGG.out; omega) (by have := HWG.out; have := H.out.bl.size; omega) 2 _⟩, ⟨Kept.setCell (S := fun k => k = g) (p := ⟨gs, 2, none⟩) HK9.out (.inr HWG.out) _⟩, ⟨blk_set HX9.out 2 _⟩, ⟨Kd.R_far HM9.out (p := ⟨gs, 2, none⟩) (fun k hk (he : k = gs) => by omega) _⟩, ⟨Kd.R_far HO9.out (p := ⟨gs, 2, none⟩) (fun k hk (he : k = gs) => by omega) _⟩, ⟨fun k hk he => HD9.out k he hk⟩⟩
      ·have HFN3 : Aside0 (R = shareL T b.e f' ⟨s.f0, s.f1, s.f2, true⟩ q2) := ⟨by rw [HFN2.out, shareK, if_neg hw, if_neg hw2]⟩
       have t1 : (w.toList == [104, 101, 97, 100, 101, 114]) = false := (eq_word (w := w) (a := wHeader) (by decide +kernel)).trans (decide_eq_false hw2)
       clear hw hw2 HFN2
       have e4 : w5.cell? ⟨gs, 3, none⟩ = some (.bool s.f3) := blk_cell HX5.out 3
       have f4 := blk_frozen HX5.out 3
       go_wp2
       go_roundg (T.length - q2)
       case measure => have := HGK.out; have := HQ.out; have := HQ2.out; omega
       case rel => exact ⟨f', ⟨s.f0, s.f1, s.f2, true⟩, q2, vM, vH, ⟨by have := HFB.out; have := HQ2.out; omega⟩, ⟨Nat.le_refl _⟩, HFN3, ⟨by have := HL1.out; have := HQ2.out; show s.f1.length ≤ q2; omega⟩, ⟨by have := HL2.out; have := HQ2.out; show s.f2.length ≤ q2; omega⟩, ⟨HS5.out.far (by have := HGG.out; omega) (by have := HWG.out; have := H.out.bl.size; omega) 3 _⟩, ⟨Kept.setCell (S := fun k => k = g) (p := ⟨gs, 3, none⟩) HK5.out (.inr HWG.out) _⟩, ⟨blk_set HX5.out 3 _⟩, ⟨Kd.R_far HM5.out (p := ⟨gs, 3, none⟩) (fun k hk (he : k = gs) => by omega) _⟩, ⟨Kd.R_far HH5.out (p := ⟨gs, 3, none⟩) (fun k hk (he : k = gs) => by omega) _⟩, HD⟩
def litW (s : ByteArray) : Lit := .string s.data.toList
theorem key_mixed : keyOf Tryd.prog 9 (.string wMixed) = some (litW wMixed) := by kernel_rfl
theorem key_default : keyOf Tryd.prog 9 (.string wDefault) = some (litW wDefault) := by kernel_rfl
def Met (W : World) (gm n : Nat) (mM mD : Nat) : Prop :=
 ∃ D : DataW Unit, W.ownsMap Tryd.prog 9 (plainElem Tryd.prog 3) gm n D ∧ D.atKey (litW wMixed) (.lit (.int .i64 0)) = .lit (.int .i64 mM) ∧ D.atKey (litW wDefault) (.lit (.int .i64 0)) = .lit (.int .i64 mD)
theorem met_made (W : World) : Met (W.alloc (.map #[] 0)) W.heap.size 0 0 0 := ⟨.map [], World.ownsMap_made _ _ _ _, rfl, rfl⟩
theorem Met.kept {W W2 : World} {gm n mM mD : Nat} (h : Met W gm n mM mD) {S : Nat → Prop} (hk : Kept W W2 S) (hs : ¬ S gm) : Met W2 gm n mM mD := by
 obtain ⟨D, hD, h1, h2⟩ := h
 have hlt := hD.lt
 obtain ⟨es, clock, hb, F, hn, he⟩ := hD
 exact ⟨D, ⟨es, clock, (hk.2 gm hlt hs).trans hb, F, hn, he⟩, h1, h2⟩
theorem Met.lt {W : World} {gm n mM mD : Nat} (h : Met W gm n mM mD) : gm < W.heap.size := by
 obtain ⟨D, hD, _⟩ := h
 exact hD.lt
theorem plain_int (m : Nat) (h : m ≤ 2) : plainElem (H := Unit) Tryd.prog 3 (.int .i64 (m : Int)) = some (.lit (.int .i64 (m : Int)), []) := by
 obtain rfl | rfl | rfl : m = 0 ∨ m = 1 ∨ m = 2 := by omega
 ·kernel_rfl
 ·kernel_rfl
 ·kernel_rfl
theorem zero_int (w : World) : (zeroValue 3).run Tryd.prog w = .ok (.int .i64 0) w := by kernel_rfl
structure IS (w0 W : World) (lo g : Nat) (b : Pb) (st : Pst) (gm : Nat) (okS okR : Nat → Prop) : Prop where
 rC : Kd.string.R 9 W w0.heap.size (fun _ => True) b.v3 st.csp
 rS : k44.R 44 W w0.heap.size okS b.v4 st.shares
 rR : k51.R 51 W w0.heap.size okR b.v6 st.rules
 dC : ∀ k, b.v3.ownBlock = some k → lo ≤ k ∧ k ≠ g ∧ k ≠ gm ∧ ¬ okS k ∧ ¬ okR k
 bS : ∀ k, okS k → k < W.heap.size ∧ lo ≤ k ∧ k ≠ g ∧ k ≠ gm ∧ ¬ okR k
 bR : ∀ k, okR k → k < W.heap.size ∧ lo ≤ k ∧ k ≠ g ∧ k ≠ gm
 ng : gm ≠ g
 l0 : w0.heap.size ≤ lo
 lg : lo ≤ g
 lm : lo ≤ gm
 e5 : b.v5 = .string st.mixed
 e7 : b.v7 = .bool st.allow
 e8 : b.v8 = .int .i64 st.items
 e9 : b.v9 = .map (some gm)
 mt : Met W gm (st.metM + st.metD) st.metM st.metD
 lC : st.csp.length ≤ st.items
 lS : st.shares.length ≤ st.items
 lR : st.rules.length ≤ st.items
 lI : st.items ≤ 60
 lM : st.metM ≤ 1
 lD : st.metD ≤ 1
theorem IS.kept {w0 W W2 : World} {lo g : Nat} {b : Pb} {st : Pst} {gm : Nat} {okS okR : Nat → Prop} (h : IS w0 W lo g b st gm okS okR) (hk : Kept W W2 (fun k => k = g)) : IS w0 W2 lo g b st gm okS okR :=
 { h with
  rC := Kd.R_mono (Kd.R_kept (Kd.R_tight rfl h.rC) hk (fun k he hg => (h.dC k he.symm).2.1 hg)) (fun _ _ => trivial)
  rS := Kd.R_kept h.rS hk (fun k ho hg => (h.bS k ho).2.2.1 hg)
  rR := Kd.R_kept h.rR hk (fun k ho hg => (h.bR k ho).2.2.1 hg)
  bS := fun k ho => ⟨by have := (h.bS k ho).1; have := hk.1; omega, (h.bS k ho).2⟩
  bR := fun k ho => ⟨by have := (h.bR k ho).1; have := hk.1; omega, (h.bR k ho).2⟩
  mt := h.mt.kept hk h.ng }
def restP (T : List Tk) (e : Int) (s1 : Pst) (p : Nat) : Res Pst :=
 if s1.items + 1 > 60 then .error (2, (nxt T e p).f1) else match takeP T e 1 p with
  | .error x => .error x
  | .ok (w, q) => itemK T e { s1 with items := s1.items + 1 } w q
def ItemQ (w0 W : World) (lo g : Nat) (T : List Tk) (b : Pb) (gm : Nat) (r : Res Pst) (e : Ending) (w' : World) : Prop :=
 match r with
 | .ok (st', q) => e = .returned (.tuple #[]) ∧ ∃ b' okS' okR', b'.A = b.A ∧ b'.n = b.n ∧ b'.c = b.c ∧ b'.e = b.e ∧ PS w0 w' g T b' q 0 ∧ IS w0 w' lo g b' st' gm okS' okR' ∧ Kept W w' (fun k => lo ≤ k)
 | .error f => Failed w0 f e w'
def metN (st : Pst) (wd : ByteArray) : Nat := if wd = wMixed then st.metM else st.metD
def raise (st : Pst) (wd : ByteArray) : Pst := if wd = wMixed then { st with metM := st.metM + 1 } else { st with metD := st.metD + 1 }
theorem key_met {wd : ByteArray} (h : wd = wMixed ∨ wd = wDefault) : keyOf Tryd.prog 9 (.string wd) = some (litW wd) := by
 rcases h with rfl | rfl
 ·exact key_mixed
 ·exact key_default
theorem lit_ne {a b : ByteArray} (h : a ≠ b) : litW a ≠ litW b := fun he => h (by
 have h2 : a.data.toList = b.data.toList := by injection he
 exact ByteArray.ext (Array.ext' h2))
theorem Met.at_ {W : World} {gm : Nat} {st : Pst} (h : Met W gm (st.metM + st.metD) st.metM st.metD) {wd : ByteArray} (hw : wd = wMixed ∨ wd = wDefault) :
  ∃ D : DataW Unit, W.ownsMap Tryd.prog 9 (plainElem Tryd.prog 3) gm (st.metM + st.metD) D ∧ D.atKey (litW wd) (.lit (.int .i64 0)) = .lit (.int .i64 (metN st wd)) ∧
   ∀ W2 : World, W2.ownsMap Tryd.prog 9 (plainElem Tryd.prog 3) gm (st.metM + st.metD + 1) (D.put (litW wd) (.lit (.int .i64 ((metN st wd : Int) + 1)))) → Met W2 gm ((raise st wd).metM + (raise st wd).metD) (raise st wd).metM (raise st wd).metD ∧
    (D.put (litW wd) (.lit (.int .i64 ((metN st wd : Int) + 1)))).atKey (litW wd) (.lit (.int .i64 0)) = .lit (.int .i64 ((metN st wd : Int) + 1)) := by
 obtain ⟨D, hD, h1, h2⟩ := h
 have hM : Go.Maps.IsMap D := by obtain ⟨es, _, _, _, _, rfl⟩ := hD; exact ⟨_, rfl⟩
 have hne : wDefault ≠ wMixed := by decide +kernel
 have k1 : ∀ w : ByteArray, WideAt.IsKeyLit (litW w) := fun w => trivial
 refine ⟨D, hD, ?_, fun W2 h3 => ⟨?_, Go.Maps.atKey_put_same hM (k1 _) _ _⟩⟩
 ·rcases hw with rfl | rfl
  ·rw [metN, if_pos rfl]; exact h1
  ·rw [metN, if_neg hne]; exact h2
 ·rcases hw with rfl | rfl
  ·simp only [metN, raise, if_true] at h3 ⊢
   refine ⟨_, h3.mono (by omega), ?_, ?_⟩
   ·rw [Go.Maps.atKey_put_same hM (k1 _)]; rfl
   ·rw [Go.Maps.atKey_put_other (lit_ne hne)]; exact h2
  ·simp only [metN, raise, if_neg hne] at h3 ⊢
   refine ⟨_, h3.mono (by omega), ?_, ?_⟩
   ·rw [Go.Maps.atKey_put_other (lit_ne (Ne.symm hne))]; exact h1
   ·rw [Go.Maps.atKey_put_same hM (k1 _)]; rfl
theorem metN_le {w0 W : World} {lo g : Nat} {b : Pb} {st : Pst} {gm : Nat} {okS okR : Nat → Prop} (h : IS w0 W lo g b st gm okS okR) (wd : ByteArray) : metN st wd ≤ 1 := by
 unfold metN; split
 ·exact h.lM
 ·exact h.lD
theorem IS.raise {w0 W W2 : World} {lo g : Nat} {b : Pb} {st : Pst} {gm : Nat} {okS okR : Nat → Prop} (h : IS w0 W lo g b st gm okS okR) (wd : ByteArray) (hz : metN st wd = 0) (hk : Kept W W2 (fun k => k = gm))
  (hm : Met W2 gm ((Ps.raise st wd).metM + (Ps.raise st wd).metD) (Ps.raise st wd).metM (Ps.raise st wd).metD) : IS w0 W2 lo g b (Ps.raise st wd) gm okS okR := by
 have h2 : IS w0 W2 lo g b { st with metM := (Ps.raise st wd).metM, metD := (Ps.raise st wd).metD } gm okS okR :=
  { h with
   rC := Kd.R_mono (Kd.R_kept (Kd.R_tight rfl h.rC) hk (fun k he hg => (h.dC k he.symm).2.2.1 hg)) (fun _ _ => trivial)
   rS := Kd.R_kept h.rS hk (fun k ho hg => (h.bS k ho).2.2.2.1 hg)
   rR := Kd.R_kept h.rR hk (fun k ho hg => (h.bR k ho).2.2.2 hg)
   bS := fun k ho => ⟨by have := (h.bS k ho).1; have := hk.1; omega, (h.bS k ho).2⟩
   bR := fun k ho => ⟨by have := (h.bR k ho).1; have := hk.1; omega, (h.bR k ho).2⟩
   mt := hm
   lM := by
    show (Ps.raise st wd).metM ≤ 1
    have := h.lM
    unfold metN at hz; unfold Ps.raise
    split
    ·rename_i he; rw [if_pos he] at hz; show st.metM + 1 ≤ 1; omega
    ·exact h.lM
   lD := by
    show (Ps.raise st wd).metD ≤ 1
    unfold metN at hz; unfold Ps.raise
    split
    ·exact h.lD
    ·rename_i he; rw [if_neg he] at hz; show st.metD + 1 ≤ 1; omega }
 have e : ({ st with metM := (Ps.raise st wd).metM, metD := (Ps.raise st wd).metD } : Pst) = Ps.raise st wd := by
  unfold Ps.raise; split <;> rfl
 rw [← e]; exact h2
theorem itemP_no {T : List Tk} {e : Int} {st : Pst} {p : Nat} (h : false = isP T e [wCsp, wShare, wMixed, wDefault, wAllow, wDeny] p) : itemP T e st p = .error (8, (nxt T e p).f1) := by
 rw [itemP, ← h]; rfl
theorem isP_two {T : List Tk} {e : Int} {a c : ByteArray} {p : Nat} (h : true = isP T e [a, c] p) : (nxt T e p).f2 = a ∨ (nxt T e p).f2 = c := by
 have h := h.symm
 simpa [isP, memB, and_assoc] using (show ((nxt T e p).f2 = a ∨ (nxt T e p).f2 = c) from by
  simp only [isP, memB, List.any_cons, List.any_nil, Bool.and_eq_true, Bool.or_eq_true, decide_eq_true_eq, Bool.or_false] at h
  exact h.2)
theorem itemP_none {T : List Tk} {e : Int} {st : Pst} {p : Nat} (h : true = isP T e [wCsp, wShare, wMixed, wDefault, wAllow, wDeny] p) (h2 : false = isP T e [wMixed, wDefault] p) : itemP T e st p = restP T e st p := by
 rw [itemP, ← h, if_pos rfl, onceP, ← h2]
 rfl
def restK (T : List Tk) (e : Int) (s1 : Pst) : Res ByteArray → Res Pst
 | .error x => .error x
 | .ok (w, q) => itemK T e { s1 with items := s1.items + 1 } w q
theorem restP_le {T : List Tk} {e : Int} {s1 : Pst} {p : Nat} (h : ¬ s1.items + 1 > 60) : restP T e s1 p = restK T e s1 (takeP T e 1 p) := by
 rw [restP, if_neg h]
 cases takeP T e 1 p <;> rfl
def cspK (s : Pst) : Res ByteArray → Res Pst
 | .error x => .error x
 | .ok (t, r) => .ok ({ s with csp := s.csp ++ [t] }, r)
def shaK (s : Pst) : Res Sh → Res Pst
 | .error x => .error x
 | .ok (h, r) => .ok ({ s with shares := s.shares ++ [h] }, r)
def mixK (s : Pst) : Res ByteArray → Res Pst
 | .error x => .error x
 | .ok (t, r) => .ok ({ s with mixed := t }, r)
def defK (s : Pst) : Res ByteArray → Res Pst
 | .error x => .error x
 | .ok (t, r) => .ok ({ s with allow := decide (t = wAllow) }, r)
theorem itemK_csp {T : List Tk} {e : Int} {s : Pst} {w : ByteArray} {q : Nat} (h : w = wCsp) : itemK T e s w q = cspK s (takeP T e 2 q) := by
 rw [itemK, if_pos h]
 cases takeP T e 2 q <;> rfl
theorem itemK_share {T : List Tk} {e : Int} {s : Pst} {w : ByteArray} {q : Nat} (h0 : ¬ w = wCsp) (h : w = wShare) : itemK T e s w q = shaK s (shareP T e q) := by
 rw [itemK, if_neg h0, if_pos h]
 cases shareP T e q <;> rfl
theorem itemK_mixed {T : List Tk} {e : Int} {s : Pst} {w : ByteArray} {q : Nat} (h0 : ¬ w = wCsp) (h1 : ¬ w = wShare) (h : w = wMixed) : itemK T e s w q = mixK s (wordP T e [wBlock, wUpgrade, wAllow] q) := by
 rw [itemK, if_neg h0, if_neg h1, if_pos h]
 cases wordP T e [wBlock, wUpgrade, wAllow] q <;> rfl
theorem itemK_default {T : List Tk} {e : Int} {s : Pst} {w : ByteArray} {q : Nat} (h0 : ¬ w = wCsp) (h1 : ¬ w = wShare) (h2 : ¬ w = wMixed) (h : w = wDefault) : itemK T e s w q = defK s (wordP T e [wAllow, wDeny] q) := by
 rw [itemK, if_neg h0, if_neg h1, if_neg h2, if_pos h]
 cases wordP T e [wAllow, wDeny] q <;> rfl
theorem itemP_once {T : List Tk} {e : Int} {st : Pst} {p : Nat} {k0 p0 : Int} {wd : ByteArray} (h : true = isP T e [wCsp, wShare, wMixed, wDefault, wAllow, wDeny] p) (h2 : true = isP T e [wMixed, wDefault] p) (ht : ⟨k0, p0, wd⟩ = nxt T e p) (hw : wd = wMixed ∨ wd = wDefault) :
  itemP T e st p = if metN st wd + 1 > 1 then .error (10, p0) else restP T e (raise st wd) p := by
 have hne : wDefault ≠ wMixed := by decide +kernel
 rw [itemP, ← h, if_pos rfl, onceP, ← h2, if_pos rfl, ← ht]
 rcases hw with rfl | rfl
 ·simp only [metN, raise, if_true]
  by_cases hm : st.metM + 1 > 1
  ·rw [if_pos hm, if_pos hm]
  ·rw [if_neg hm, if_neg hm, restP, ← ht]; rfl
 ·simp only [metN, raise, if_neg hne]
  by_cases hm : st.metD + 1 > 1
  ·rw [if_pos hm, if_pos hm]
  ·rw [if_neg hm, if_neg hm, restP, ← ht]; rfl
theorem IS.count {w0 W : World} {lo g : Nat} {b : Pb} {st : Pst} {gm : Nat} {okS okR : Nat → Prop} (h : IS w0 W lo g b st gm okS okR) (hi : st.items + 1 ≤ 60) : IS w0 W lo g { b with v8 := .int .i64 ((st.items : Int) + 1) } { st with items := st.items + 1 } gm okS okR :=
 { h with
  e8 := by show Value.int .i64 _ = _; rw [show ((st.items + 1 : Nat) : Int) = (st.items : Int) + 1 from by omega]
  mt := h.mt
  lC := Nat.le_succ_of_le h.lC
  lS := Nat.le_succ_of_le h.lS
  lR := Nat.le_succ_of_le h.lR
  lI := hi }
theorem IS.share {w0 W W2 : World} {lo g : Nat} {b : Pb} {st : Pst} {gm : Nat} {okS okR : Nat → Prop} (h : IS w0 W lo g b st gm okS okR) (hg : g < W.heap.size) {v5 : Value} {s : Sh}
  (hr : k44.R 44 W2 w0.heap.size (fun k => okS k ∨ W.heap.size ≤ k) v5 (st.shares ++ [s])) (hk : Kept W W2 (fun k => k = g ∨ b.v4.ownBlock = some k)) (hl : st.shares.length + 1 ≤ st.items) :
  IS w0 W2 lo g { b with v4 := v5 } { st with shares := st.shares ++ [s] } gm (fun k => (okS k ∨ W.heap.size ≤ k) ∧ k < W2.heap.size) okR :=
 { h with
  rC := Kd.R_mono (Kd.R_kept (Kd.R_tight rfl h.rC) hk (fun k he hs => by
   rcases hs with hs | hs
   ·exact (h.dC k he.symm).2.1 hs
   ·exact (h.dC k he.symm).2.2.2.1 (h.rS.1 k hs))) (fun _ _ => trivial)
  rS := Kd.R_mono (Kd.R_bound hr) (fun k hk => ⟨hk.1, hk.2.2.1⟩)
  rR := Kd.R_kept h.rR hk (fun k ho hs => by
   rcases hs with hs | hs
   ·exact (h.bR k ho).2.2.1 hs
   ·exact (h.bS k (h.rS.1 k hs)).2.2.2.2 ho)
  dC := fun k he => ⟨(h.dC k he).1, (h.dC k he).2.1, (h.dC k he).2.2.1, fun ⟨ho, _⟩ => by
   rcases ho with ho | ho
   ·exact (h.dC k he).2.2.2.1 ho
   ·have := Kd.R_lt h.rC k he; omega, (h.dC k he).2.2.2.2⟩
  bS := fun k ⟨ho, hlt⟩ => by
   rcases ho with ho | ho
   ·exact ⟨hlt, (h.bS k ho).2⟩
   ·exact ⟨hlt, by have := h.lg; omega, by omega, by have := h.mt.lt; omega, fun hq => by have := (h.bR k hq).1; omega⟩
  bR := fun k ho => ⟨by have := (h.bR k ho).1; have := hk.1; omega, (h.bR k ho).2⟩
  mt := h.mt.kept hk (fun hs => by
   rcases hs with hs | hs
   ·exact h.ng hs
   ·exact (h.bS gm (h.rS.1 gm hs)).2.2.2.1 rfl)
  lS := by rw [List.length_append, List.length_singleton]; exact hl }
theorem IS.lo4 {w0 W W2 : World} {lo g : Nat} {b : Pb} {st : Pst} {gm : Nat} {okS okR : Nat → Prop} (h : IS w0 W lo g b st gm okS okR) (hk : Kept W W2 (fun k => k = g ∨ b.v4.ownBlock = some k)) : Kept W W2 (fun k => lo ≤ k) :=
 hk.mono (fun k hs => by
  rcases hs with hs | hs
  ·exact hs ▸ h.lg
  ·exact (h.bS k (h.rS.1 k hs)).2.1)
theorem IS.csp {w0 W W2 : World} {lo g : Nat} {b : Pb} {st : Pst} {gm : Nat} {okS okR : Nat → Prop} (h : IS w0 W lo g b st gm okS okR) (hg : g < W.heap.size) {v5 : Value} {t : ByteArray}
  (hr : Kd.string.R 9 W2 w0.heap.size (fun _ => True) v5 (st.csp ++ [t])) (hv : v5.ownBlock = b.v3.ownBlock ∨ ∃ k, v5.ownBlock = some k ∧ W.heap.size ≤ k) (hk : Kept W W2 (fun k => k = g ∨ b.v3.ownBlock = some k)) (hl : st.csp.length + 1 ≤ st.items) :
  IS w0 W2 lo g { b with v3 := v5 } { st with csp := st.csp ++ [t] } gm okS okR :=
 { h with
  rC := hr
  rS := Kd.R_kept h.rS hk (fun k ho hs => by
   rcases hs with hs | hs
   ·exact (h.bS k ho).2.2.1 hs
   ·exact (h.dC k hs).2.2.2.1 ho)
  rR := Kd.R_kept h.rR hk (fun k ho hs => by
   rcases hs with hs | hs
   ·exact (h.bR k ho).2.2.1 hs
   ·exact (h.dC k hs).2.2.2.2 ho)
  dC := fun k (he : v5.ownBlock = some k) => by
   rcases hv with hv | ⟨k2, hv, hge⟩
   ·exact h.dC k (hv ▸ he)
   ·rw [hv] at he
    cases he
    exact ⟨by have := h.lg; omega, by omega, by have := h.mt.lt; omega, fun ho => by have := (h.bS _ ho).1; omega, fun ho => by have := (h.bR _ ho).1; omega⟩
  bS := fun k ho => ⟨by have := (h.bS k ho).1; have := hk.1; omega, (h.bS k ho).2⟩
  bR := fun k ho => ⟨by have := (h.bR k ho).1; have := hk.1; omega, (h.bR k ho).2⟩
  mt := h.mt.kept hk (fun hs => by
   rcases hs with hs | hs
   ·exact h.ng hs
   ·exact (h.dC gm hs).2.2.1 rfl)
  lC := by rw [List.length_append, List.length_singleton]; exact hl }
theorem IS.lo3 {w0 W W2 : World} {lo g : Nat} {b : Pb} {st : Pst} {gm : Nat} {okS okR : Nat → Prop} (h : IS w0 W lo g b st gm okS okR) (hk : Kept W W2 (fun k => k = g ∨ b.v3.ownBlock = some k)) : Kept W W2 (fun k => lo ≤ k) :=
 hk.mono (fun k hs => by
  rcases hs with hs | hs
  ·exact hs ▸ h.lg
  ·exact (h.dC k hs).1)
theorem IS.rule {w0 W W2 : World} {lo g : Nat} {b : Pb} {st : Pst} {gm : Nat} {okS okR : Nat → Prop} (h : IS w0 W lo g b st gm okS okR) (hg : g < W.heap.size) {v5 : Value} {s : Rl}
  (hr : k51.R 51 W2 w0.heap.size (fun k => okR k ∨ W.heap.size ≤ k) v5 (st.rules ++ [s])) (hk : Kept W W2 (fun k => k = g ∨ b.v6.ownBlock = some k)) (hl : st.rules.length + 1 ≤ st.items) :
  IS w0 W2 lo g { b with v6 := v5 } { st with rules := st.rules ++ [s] } gm okS (fun k => (okR k ∨ W.heap.size ≤ k) ∧ k < W2.heap.size) :=
 { h with
  rC := Kd.R_mono (Kd.R_kept (Kd.R_tight rfl h.rC) hk (fun k he hs => by
   rcases hs with hs | hs
   ·exact (h.dC k he.symm).2.1 hs
   ·exact (h.dC k he.symm).2.2.2.2 (h.rR.1 k hs))) (fun _ _ => trivial)
  rS := Kd.R_kept h.rS hk (fun k ho hs => by
   rcases hs with hs | hs
   ·exact (h.bS k ho).2.2.1 hs
   ·exact (h.bS k ho).2.2.2.2 (h.rR.1 k hs))
  rR := Kd.R_mono (Kd.R_bound hr) (fun k hk => ⟨hk.1, hk.2.2.1⟩)
  dC := fun k he => ⟨(h.dC k he).1, (h.dC k he).2.1, (h.dC k he).2.2.1, (h.dC k he).2.2.2.1, fun ⟨ho, _⟩ => by
   rcases ho with ho | ho
   ·exact (h.dC k he).2.2.2.2 ho
   ·have := Kd.R_lt h.rC k he; omega⟩
  bS := fun k ho => ⟨by have := (h.bS k ho).1; have := hk.1; omega, (h.bS k ho).2.1, (h.bS k ho).2.2.1, (h.bS k ho).2.2.2.1, fun ⟨hq, _⟩ => by
   rcases hq with hq | hq
   ·exact (h.bS k ho).2.2.2.2 hq
   ·have := (h.bS k ho).1; omega⟩
  bR := fun k ⟨ho, hlt⟩ => by
   rcases ho with ho | ho
   ·exact ⟨hlt, (h.bR k ho).2⟩
   ·exact ⟨hlt, by have := h.lg; omega, by omega, by have := h.mt.lt; omega⟩
  mt := h.mt.kept hk (fun hs => by
   rcases hs with hs | hs
   ·exact h.ng hs
   ·exact (h.bR gm (h.rR.1 gm hs)).2.2.2 rfl)
  lR := by rw [List.length_append, List.length_singleton]; exact hl }
theorem IS.lo6 {w0 W W2 : World} {lo g : Nat} {b : Pb} {st : Pst} {gm : Nat} {okS okR : Nat → Prop} (h : IS w0 W lo g b st gm okS okR) (hk : Kept W W2 (fun k => k = g ∨ b.v6.ownBlock = some k)) : Kept W W2 (fun k => lo ≤ k) :=
 hk.mono (fun k hs => by
  rcases hs with hs | hs
  ·exact hs ▸ h.lg
  ·exact (h.bR k (h.rR.1 k hs)).2.1)
theorem info_rule : (Tryd.prog.info? 51).map (fun i => (i.zero, i.size, i.bytes)) = some (some (.agg #[.bool false, .int .i64 0, .string ⟨#[]⟩, .string ⟨#[]⟩, .slice none 0 0]), k51.sz, 72) := by kernel_rfl
def ruleK (s : Pst) (w : ByteArray) : Res Cd → Res Pst
 | .error x => .error x
 | .ok (c, r2) => .ok ({ s with rules := s.rules ++ [⟨decide (w = wAllow), c⟩] }, r2)
def ifK (T : List Tk) (e : Int) (s : Pst) (w : ByteArray) : Res ByteArray → Res Pst
 | .error x => .error x
 | .ok (_, r) => ruleK s w (condP T e r)
theorem itemK_rule {T : List Tk} {e : Int} {s : Pst} {w : ByteArray} {q : Nat} (h0 : ¬ w = wCsp) (h1 : ¬ w = wShare) (h2 : ¬ w = wMixed) (h3 : ¬ w = wDefault) : itemK T e s w q = ifK T e s w (wordP T e [wIf] q) := by
 rw [itemK, if_neg h0, if_neg h1, if_neg h2, if_neg h3]
 cases wordP T e [wIf] q with
 | error x => rfl
 | ok x =>
  obtain ⟨_, r⟩ := x
  show (match condP T e r with
   | .error x => .error x
   | .ok (c, r2) => .ok ({ s with rules := s.rules ++ [⟨decide (w = wAllow), c⟩] }, r2)) = ruleK s w (condP T e r)
  cases condP T e r <;> rfl
theorem IS.mix {w0 W : World} {lo g : Nat} {b : Pb} {st : Pst} {gm : Nat} {okS okR : Nat → Prop} (h : IS w0 W lo g b st gm okS okR) (t : ByteArray) : IS w0 W lo g { b with v5 := .string t } { st with mixed := t } gm okS okR := { h with e5 := rfl }
theorem IS.dflt {w0 W : World} {lo g : Nat} {b : Pb} {st : Pst} {gm : Nat} {okS okR : Nat → Prop} (h : IS w0 W lo g b st gm okS okR) (x : Bool) : IS w0 W lo g { b with v7 := .bool x } { st with allow := x } gm okS okR := { h with e7 := rfl }
set_option maxHeartbeats 16000000
set_option maxRecDepth 100000
theorem sc_rest {p_ : Prop} (h_ : p_ := by
 obtain ⟨it, hit⟩ : ∃ it, it = st.items := ⟨_, rfl⟩
 have hli : (it : Int) ≤ 60 := by have := HJ2.out.lI; omega
 have c8 : w2.cell? ⟨g, 8, none⟩ = some (.int .i64 it) := (HS2.out.cell 8).trans (by rw [hit]; exact congrArg some HJ2.out.e8)
 have f8 := blk_frozen HS2.out.blk 8
 have HIT := Aside0.mk hit
 clear hit
 go_upto_region 8 with (fail)
 obtain ⟨w3, hw3⟩ : ∃ w3, w3 = w2.setCell ⟨g, 8, none⟩ (.int .i64 ((it : Int) + 1)) := ⟨_, rfl⟩
 rw [← hw3]
 have HS3 : Aside0 (PS w0 w3 g T { b with v8 := .int .i64 ((it : Int) + 1) } p 0) := ⟨by rw [hw3]; exact ⟨blk_set HS2.out.blk 8 _, HS2.out.bl.setCell (p := ⟨g, 8, none⟩) HS2.out.gl _, HS2.out.gl, HS2.out.tC, HS2.out.tn, HS2.out.tc, HS2.out.tl, HS2.out.al⟩⟩
 have HKR3 : Aside0 (Kept w2 w3 (fun k => k = g)) := ⟨by rw [hw3]; exact Kept.setCell (S := fun k => k = g) (p := ⟨g, 8, none⟩) (Kept.refl _ _) (.inl rfl) _⟩
 have HK3 : Aside0 (Kept W w3 (fun k => lo ≤ k)) := ⟨HK2.out.then_ HKR3.out (fun k hk => .inl (hk ▸ HJ2.out.lg))⟩
 clear hw3 c8 f8
 have c8 : w3.cell? ⟨g, 8, none⟩ = some (.int .i64 ((it : Int) + 1)) := HS3.out.cell 8
 by_cases hbig : 60 < it + 1
 ·have l1 : decide ((60 : Int) < (it : Int) + 1) = true := decide_eq_true (by omega)
  obtain rfl : R = .error (2, (nxt T b.e p).f1) := by rw [HRR.out, restP, if_pos (by rw [← HIT.out]; exact hbig)]
  have HF := Aside0.mk (fail_calls w0 w3 g T _ p 0 2 HS3.out)
  go_wp2_with fail
  refine HF.out.mono ?_
  rintro e w4 ⟨rfl, hb⟩
  dsimp only
  exact ⟨rfl, rfl, hb⟩
 ·have l1 : decide ((60 : Int) < (it : Int) + 1) = false := decide_eq_false (by omega)
  have HJ3 : Aside0 (IS w0 w3 lo g { b with v8 := .int .i64 ((it : Int) + 1) } { st with items := st.items + 1 } gm okS okR) := ⟨by rw [HIT.out]; exact (HJ2.out.kept HKR3.out).count (by rw [← HIT.out]; omega)⟩
  have h4 := take_calls w0 w3 g T _ p 0 1 HS3.out (by decide)
  obtain ⟨r4, hr4⟩ : ∃ r4, r4 = takeP T b.e 1 p := ⟨_, rfl⟩
  dsimp only at h4
  rw [← hr4] at h4
  have HRK : Aside0 (R = restK T b.e st r4) := ⟨by rw [HRR.out, restP_le (by rw [← HIT.out]; exact hbig), ← hr4]⟩
  have H4 := Aside0.mk h4
  have HR4 := Aside0.mk hr4
  clear h4 hr4 hbig HRR
  go_wp2_with fail
  refine H4.out.mono ?_
  cases r4 with
  | error x =>
   obtain rfl : R = .error x := HRK.out
   rintro e w4 ⟨rfl, hb⟩
   dsimp only
   exact ⟨rfl, rfl, hb⟩
  | ok x =>
   obtain ⟨w, q⟩ := x
   rintro e w4 ⟨v, rfl, rfl, hs4, hk4⟩
   dsimp only
   have HS4 := Aside0.mk hs4
   have HJ4 := Aside0.mk (HJ3.out.kept hk4)
   have HK4 : Aside0 (Kept W w4 (fun k => lo ≤ k)) := ⟨HK3.out.then_ hk4 (fun k hk => .inl (hk ▸ HJ2.out.lg))⟩
   obtain ⟨b4, hb4⟩ : ∃ b4, b4 = ({ b with v8 := .int .i64 ((it : Int) + 1) } : Pb) := ⟨_, rfl⟩
   rw [← hb4] at HS4 HJ4
   have HBA : Aside0 (b4.A = b.A ∧ b4.n = b.n ∧ b4.c = b.c ∧ b4.e = b.e) := ⟨by rw [hb4]; exact ⟨rfl, rfl, rfl, rfl⟩⟩
   clear hs4 hk4 hb4 c8 l1 hli
   obtain ⟨s4, hs4⟩ : ∃ s4, s4 = ({ st with items := st.items + 1 } : Pst) := ⟨_, rfl⟩
   have HRW : Aside0 (R = itemK T b.e s4 w q) := ⟨by rw [hs4]; exact HRK.out⟩
   rw [← hs4] at HJ4
   have HLN : Aside0 (s4.csp.length + 1 ≤ s4.items ∧ s4.shares.length + 1 ≤ s4.items ∧ s4.rules.length + 1 ≤ s4.items) := ⟨by rw [hs4]; exact ⟨Nat.succ_le_succ HJ2.out.lC, Nat.succ_le_succ HJ2.out.lS, Nat.succ_le_succ HJ2.out.lR⟩⟩
   clear hs4 HRK H4 HR4 HS3 HJ3 HK3 HKR3 HS2 HJ2 HK2 HIT
   by_cases hw0 : w = wCsp
   ·have t0 : (w.toList == [99, 115, 112]) = true := (eq_word (w := w) (a := wCsp) (by decide +kernel)).trans (decide_eq_true hw0)
    have h7 := take_calls w0 w4.drew g T b4 q 0 2 (HS4.out.below (below_drew (Below.refl _ _))) (by decide)
    rw [HBA.out.2.2.2] at h7
    obtain ⟨r7, hr7⟩ : ∃ r7, r7 = takeP T b.e 2 q := ⟨_, rfl⟩
    rw [← hr7] at h7
    have HRX : Aside0 (R = cspK s4 r7) := ⟨by rw [HRW.out, itemK_csp hw0, ← hr7]⟩
    have H7 := Aside0.mk h7
    have HJD : Aside0 (IS w0 w4.drew lo g b4 s4 gm okS okR) := ⟨HJ4.out.kept (Kept.of_below (below_drew (Below.refl _ _)) _)⟩
    have HKD : Aside0 (Kept W w4.drew (fun k => lo ≤ k)) := ⟨HK4.out⟩
    have HLB : Aside0 ((s4.csp.length + 1) * 16 ≤ 140737488355328) := ⟨by have := HLN.out.1; have := HJ4.out.lI; omega⟩
    have d1 : w4.drew.cell? ⟨g, 3, none⟩ = some b4.v3 := HS4.out.cell 3
    clear h7 hr7 hw0 HRW HJ4 HK4
    go_upto_region 15 with (fail)
    refine start_ (n := 14) (S := fun w' => w'.cell? ⟨g, 3, none⟩ = some b4.v3) (ds := [9, 13]) #[false, false, false, false, false, false, false, false, false, false, false, false, false, false] (by kernel_rfl) rfl rfl (d1) (fun hHeld => ?_)
    refine pure_ (i := 0) (N := some 76) (v := ?_) (a' := ?_) #[true, false, false, false, false, false, false, false, false, false, false, false, false, false] rfl rfl (by kernel_rfl) (fun _ _ _ h => h) (Or.inl ⟨by rfl, ?_⟩) ?_ ?_
    rotate_left
    ·exact sTe6_0
    rotate_left
    ·exact nTe6_
    refine pure_ (i := 1) (N := some 77) (v := ?_) (a' := ?_) #[true, true, false, false, false, false, false, false, false, false, false, false, false, false] rfl rfl (by kernel_rfl) (fun _ _ _ h => h) (Or.inl ⟨by rfl, ?_⟩) ?_ ?_
    rotate_left
    ·exact sTe6_0
    rotate_left
    ·exact nTe6_
    refine pure_ (i := 2) (N := some 78) (v := ?_) (a' := ?_) #[true, true, true, false, false, false, false, false, false, false, false, false, false, false] rfl rfl (by kernel_rfl) (fun _ _ _ h => h) (Or.inl ⟨by rfl, ?_⟩) ?_ ?_
    rotate_left
    ·exact sTe6_0
    rotate_left
    ·exact nTe6_
    refine pure_ (i := 3) (N := some 79) (v := ?_) (a' := ?_) #[true, true, true, true, false, false, false, false, false, false, false, false, false, false] rfl rfl (by kernel_rfl) (fun _ _ _ h => h) (Or.inl ⟨by rfl, ?_⟩) ?_ ?_
    rotate_left
    ·exact sTe6_0
    rotate_left
    ·exact nTe6_
    refine pure_ (i := 4) (N := some 80) (v := ?_) (a' := ?_) #[true, true, true, true, true, false, false, false, false, false, false, false, false, false] rfl rfl (by kernel_rfl) (fun _ _ _ h => h) (Or.inl ⟨by rfl, ?_⟩) ?_ ?_
    rotate_left
    ·exact sTe6_0
    rotate_left
    ·exact nTe6_
    refine pure_ (i := 6) (N := some 82) (v := ?_) (a' := ?_) #[true, true, true, true, true, false, true, false, false, false, false, false, false, false] rfl rfl (by kernel_rfl) (fun _ _ _ h => h) (Or.inl ⟨by rfl, ?_⟩) ?_ ?_
    rotate_left
    ·exact sTe6_0
    rotate_left
    ·exact nTe6_
    refine take_ (i := 5) (N := some 81) (v := ?_) (a' := ?_) #[true, true, true, true, true, true, true, false, false, false, false, false, false, false] rfl rfl (by kernel_rfl) (fun _ _ _ h => h) (Or.inl ⟨by rfl, ?_⟩) hHeld ?_ ?_
    rotate_left
    ·intro w' s0
     go_simp
     with_reducible rfl
    rotate_left
    ·exact nTe6_
    refine one_ (i := 7) (N := some 83) #[true, true, true, true, true, true, true, true, false, false, false, false, false, false] rfl rfl (by kernel_rfl) (by decide) (fun K hK => ?_)
    refine goesP_ Tryd.func22 (by kernel_rfl) rfl #[.pointer (some ⟨g, 0, none⟩), .int .i64 2] (by rfl) rfl rfl (by simp only [List.map_toArray, List.map_cons, List.map_nil]; rfl) ?_
    refine H7.out.mono ?_
    rcases r7 with x | ⟨t, q7⟩
    ·rintro e w7 ⟨rfl, hb⟩
     refine .inr ⟨_, rfl, ?_⟩
     obtain rfl : R = .error x := HRX.out
     exact ⟨rfl, rfl, hb⟩
    rintro e w7 ⟨v7, rfl, rfl, hs7, hk7⟩
    refine .inl ⟨_, rfl, ?_⟩
    have HS7 := Aside0.mk hs7
    have HJ7 := Aside0.mk (HJD.out.kept hk7)
    have HK7 : Aside0 (Kept W w7 (fun k => lo ≤ k)) := ⟨HKD.out.then_ hk7 (fun k hk => .inl (hk ▸ HJD.out.lg))⟩
    obtain rfl : R = .ok ({ s4 with csp := s4.csp ++ [t] }, q7) := HRX.out
    clear hs7 hk7 HS4 HJD HKD HRX
    refine hK.out _ _ ((HS7.out.cell 3)) (fun hHeld => ?_)
    clear hK K
    refine norm_ (a' := ?_) ?_ ?_
    rotate_left
    ·show Act.put _ (some 83) _ = _
     exact nTe6_
    refine one_ (i := 8) (N := some 84) #[true, true, true, true, true, true, true, true, true, false, false, false, false, false] rfl rfl (by kernel_rfl) (by decide) (fun K hK => ?_)
    refine value_ (w1 := ?_) (v := ?_) (by rfl) rfl ?_ ?_
    rotate_left 2
    ·go_simp
     constructor
     ·rfl
     ·rfl
    refine hK.out _ _ ((blk_cell (show (w7.alloc _).heap[g]? = _ from blk_alloc HS7.out.blk _) 3)) (fun hHeld => ?_)
    clear hK K
    refine norm_ (a' := ?_) ?_ ?_
    rotate_left
    ·show Act.put _ (some 84) _ = _
     exact nTe6_
    refine last_ (i := 9) (N := some 85) #[true, true, true, true, true, true, true, true, true, true, false, false, false, false] rfl rfl (by kernel_rfl) (by decide) (fun K hK => ?_)
    refine Kd.R_append_step Kd.string (w0 := w0) (W := w7) w0.heap.size (by rfl) _ _ 23 9 (.string ⟨#[]⟩) 16 rfl Tryd.underlying23 info_str rfl (by decide) (by decide) b4.v3 s4.csp t [.string t] (fun _ => True) (fun _ => False) rfl rfl rfl (fun _ hk => hk.elim) (fun _ _ => trivial) HJ7.out.rC HS7.out.bl HS7.out.bl.size HLB.out ?_
    intro v9 w9 hO9 hB9 hG9 hat9
    have hp9 : w9.heap[g]? = some (.cells (pcells b4 q7 0) 63 (0, 0)) := (hG9.block g (blk_lt HS7.out.blk) (fun he => (HJ7.out.dC g he.symm).2.1 rfl)).trans HS7.out.blk
    have hng : ∀ k, some k = v9.ownBlock → k ≠ g := fun k he hg => by
     rcases hat9 with h | ⟨k2, h, h2⟩
     ·exact (HJ7.out.dC k (h.symm.trans he.symm)).2.1 hg
     ·rw [h] at he; cases he; have := blk_lt HS7.out.blk; omega
    have HE : Aside0 (ItemQ w0 W lo g T b gm (.ok ({ s4 with csp := s4.csp ++ [t] }, q7)) (.returned (.tuple #[])) (w9.setCell ⟨g, 3, none⟩ v9)) := ⟨⟨rfl, { b4 with v3 := v9 }, _, _, HBA.out.1, HBA.out.2.1, HBA.out.2.2.1, HBA.out.2.2.2, ⟨blk_set hp9 3 _, hB9.setCell (p := ⟨g, 3, none⟩) HS7.out.gl _, HS7.out.gl, HS7.out.tC, HS7.out.tn, HS7.out.tc, HS7.out.tl, HS7.out.al⟩, HJ7.out.csp (blk_lt HS7.out.blk) (Kd.R_mono (Kd.R_far (Kd.R_tight rfl hO9) (p := ⟨g, 3, none⟩) hng _) (fun _ _ => trivial)) hat9 (Kept.setCell (S := fun k => k = g ∨ b4.v3.ownBlock = some k) (p := ⟨g, 3, none⟩) (Kept.of_grown hG9 (Kept.refl _ _) (fun k hk => .inl (.inr hk))) (.inl (.inl rfl)) _) HLN.out.1, HK7.out.then_ (HJ7.out.lo3 (Kept.setCell (S := fun k => k = g ∨ b4.v3.ownBlock = some k) (p := ⟨g, 3, none⟩) (Kept.of_grown hG9 (Kept.refl _ _) (fun k hk => .inl (.inr hk))) (.inl (.inl rfl)) _)) (fun k hk => .inl hk)⟩⟩
    obtain ⟨A9, c9, e9⟩ := Kd.R_slice hO9
    obtain ⟨n9, hn9⟩ : ∃ n9, n9 = (s4.csp ++ [t]).length := ⟨_, rfl⟩
    rw [← hn9] at e9
    subst e9
    have e4 : w9.cell? ⟨g, 3, none⟩ = some b4.v3 := blk_cell hp9 3
    have f4 := blk_frozen hp9 3
    clear hO9 hB9 hG9 hat9 hp9 hn9 hng
    refine hK.out _ _ ?_
    clear hK K
    refine norm_ (a' := ?_) ?_ ?_
    rotate_left
    ·show Act.put _ (some 85) _ = _
     exact nTe6_
    refine pure_ (i := 10) (N := some 86) (v := ?_) (a' := ?_) #[true, true, true, true, true, true, true, true, true, true, true, false, false, false] rfl rfl (by kernel_rfl) (fun _ _ _ h => h) (Or.inl ⟨by rfl, ?_⟩) ?_ ?_
    rotate_left
    ·exact sTe6_0
    rotate_left
    ·exact nTe6_
    refine pure_ (i := 11) (N := some 87) (v := ?_) (a' := ?_) #[true, true, true, true, true, true, true, true, true, true, true, true, false, false] rfl rfl (by kernel_rfl) (fun _ _ _ h => h) (Or.inl ⟨by rfl, ?_⟩) ?_ ?_
    rotate_left
    ·exact sTe6_0
    rotate_left
    ·exact nTe6_
    refine pure_ (i := 12) (N := some 88) (v := ?_) (a' := ?_) #[true, true, true, true, true, true, true, true, true, true, true, true, true, false] rfl rfl (by kernel_rfl) (fun _ _ _ h => h) (Or.inl ⟨by rfl, ?_⟩) ?_ ?_
    rotate_left
    ·exact sTe6_0
    rotate_left
    ·exact nTe6_
    refine last_ (i := 13) (N := none) #[true, true, true, true, true, true, true, true, true, true, true, true, true, true] rfl rfl (by kernel_rfl) (by decide) (fun K hK => ?_)
    refine skip_ (w1 := ?_) (by rfl) rfl ?_ ?_
    rotate_left
    ·go_simp
     rfl
    refine hK.out _ _ ?_
    clear hK K
    refine done_ (by kernel_rfl) ?_

    go_wp2
    exact ⟨rfl, .tuple #[], by simp [results, Tryd.results21], HE.out⟩
   ·have t0 : (w.toList == [99, 115, 112]) = false := (eq_word (w := w) (a := wCsp) (by decide +kernel)).trans (decide_eq_false hw0)
    by_cases hw1 : w = wShare
    ·have t1 : (w.toList == [115, 104, 97, 114, 101]) = true := (eq_word (w := w) (a := wShare) (by decide +kernel)).trans (decide_eq_true hw1)
     have h5 := share_calls w0 w4 g T b4 q 0 HS4.out (fun k => okS k ∨ w4.heap.size ≤ k) s4.shares (Kd.R_mono HJ4.out.rS (fun k hk => .inl hk)) (fun k hk => .inr hk) (by rintro (hg | hg); exact (HJ4.out.bS g hg).2.2.1 rfl; have := blk_lt HS4.out.blk; omega) (by have := HJ4.out.lS; have := HJ4.out.lI; omega)
     rw [HBA.out.2.2.2] at h5
     obtain ⟨r5, hr5⟩ : ∃ r5, r5 = shareP T b.e q := ⟨_, rfl⟩
     rw [← hr5] at h5
     have HRX : Aside0 (R = shaK s4 r5) := ⟨by rw [HRW.out, itemK_share hw0 hw1, ← hr5]⟩
     have H5 := Aside0.mk h5
     clear h5 hr5 hw0 hw1 HRW
     go_wp2_with fail
     refine H5.out.mono ?_
     cases r5 with
     | error x =>
      obtain rfl : R = .error x := HRX.out
      rintro e w5 ⟨rfl, hb⟩
      dsimp only
      exact ⟨rfl, rfl, hb⟩
     | ok x =>
      obtain ⟨h5, q5⟩ := x
      obtain rfl : R = .ok ({ s4 with shares := s4.shares ++ [h5] }, q5) := HRX.out
      rintro e w5 ⟨rfl, v5, hs5, hr5, hk5⟩
      dsimp only
      have HE : Aside0 (ItemQ w0 W lo g T b gm (.ok ({ s4 with shares := s4.shares ++ [h5] }, q5)) (.returned (.tuple #[])) w5) := ⟨⟨rfl, { b4 with v4 := v5 }, _, _, HBA.out.1, HBA.out.2.1, HBA.out.2.2.1, HBA.out.2.2.2, hs5, HJ4.out.share (blk_lt HS4.out.blk) hr5 hk5 HLN.out.2.1, HK4.out.then_ (HJ4.out.lo4 hk5) (fun k hk => .inl hk)⟩⟩
      clear hs5 hr5 hk5
      go_wp2
      exact ⟨rfl, .tuple #[], by simp [results, Tryd.results21], HE.out⟩
    ·have t1 : (w.toList == [115, 104, 97, 114, 101]) = false := (eq_word (w := w) (a := wShare) (by decide +kernel)).trans (decide_eq_false hw1)
     by_cases hw2 : w = wMixed
     ·have t2 : (w.toList == [109, 105, 120, 101, 100]) = true := (eq_word (w := w) (a := wMixed) (by decide +kernel)).trans (decide_eq_true hw2)
      have h5 := word_calls w0 (w4.alloc (.cells #[.string wBlock, .string wUpgrade, .string wAllow] 9)) g T b4 q 0 (HS4.out.below (below_alloc (Below.refl _ _) _)) (some ⟨w4.heap.size, 0, none⟩) 3 3 [wBlock, wUpgrade, wAllow] (lit_strs w4 [wBlock, wUpgrade, wAllow] (by simp)) rfl (Nat.le_refl _) (by simp)
      rw [HBA.out.2.2.2] at h5
      obtain ⟨r5, hr5⟩ : ∃ r5, r5 = wordP T b.e [wBlock, wUpgrade, wAllow] q := ⟨_, rfl⟩
      rw [← hr5] at h5
      have HRX : Aside0 (R = mixK s4 r5) := ⟨by rw [HRW.out, itemK_mixed hw0 hw1 hw2, ← hr5]⟩
      have H5 := Aside0.mk h5
      clear h5 hr5 hw0 hw1 hw2 HRW
      go_wp2_with fail
      refine H5.out.mono ?_
      cases r5 with
      | error x =>
       obtain rfl : R = .error x := HRX.out
       rintro e w5 ⟨rfl, hb⟩
       dsimp only
       exact ⟨rfl, rfl, hb⟩
      | ok x =>
       obtain ⟨t, q5⟩ := x
       obtain rfl : R = .ok ({ s4 with mixed := t }, q5) := HRX.out
       rintro e w5 ⟨v5, rfl, rfl, hs5, hk5⟩
       dsimp only
       have hkw : Kept w4 w5 (fun k => k = g) := (Kept.alloc (Kept.refl _ _) _).then_ hk5 (fun k hk => .inl hk)
       have hkw2 : Kept w4 (w5.setCell ⟨g, 5, none⟩ (.string t)) (fun k => k = g) := Kept.setCell (S := fun k => k = g) (p := ⟨g, 5, none⟩) hkw (.inl rfl) _
       have HE : Aside0 (ItemQ w0 W lo g T b gm (.ok ({ s4 with mixed := t }, q5)) (.returned (.tuple #[])) (w5.setCell ⟨g, 5, none⟩ (.string t))) := ⟨⟨rfl, { b4 with v5 := .string t }, _, _, HBA.out.1, HBA.out.2.1, HBA.out.2.2.1, HBA.out.2.2.2, ⟨blk_set hs5.blk 5 _, hs5.bl.setCell (p := ⟨g, 5, none⟩) hs5.gl _, hs5.gl, hs5.tC, hs5.tn, hs5.tc, hs5.tl, hs5.al⟩, (HJ4.out.kept hkw2).mix t, HK4.out.then_ hkw2 (fun k hk => .inl (hk ▸ HJ4.out.lg))⟩⟩
       have e5 : w5.cell? ⟨g, 5, none⟩ = some b4.v5 := hs5.cell 5
       rw [HJ4.out.e5] at e5
       have f5 := blk_frozen hs5.blk 5
       clear hs5 hk5 hkw hkw2
       go_wp2
       exact ⟨rfl, .tuple #[], by simp [results, Tryd.results21], HE.out⟩
     ·have t2 : (w.toList == [109, 105, 120, 101, 100]) = false := (eq_word (w := w) (a := wMixed) (by decide +kernel)).trans (decide_eq_false hw2)
      by_cases hw3 : w = wDefault
      ·have t3 : (w.toList == [100, 101, 102, 97, 117, 108, 116]) = true := (eq_word (w := w) (a := wDefault) (by decide +kernel)).trans (decide_eq_true hw3)
       have h5 := word_calls w0 (w4.alloc (.cells #[.string wAllow, .string wDeny] 9)) g T b4 q 0 (HS4.out.below (below_alloc (Below.refl _ _) _)) (some ⟨w4.heap.size, 0, none⟩) 2 2 [wAllow, wDeny] (lit_strs w4 [wAllow, wDeny] (by simp)) rfl (Nat.le_refl _) (by simp)
       rw [HBA.out.2.2.2] at h5
       obtain ⟨r5, hr5⟩ : ∃ r5, r5 = wordP T b.e [wAllow, wDeny] q := ⟨_, rfl⟩
       rw [← hr5] at h5
       have HRX : Aside0 (R = defK s4 r5) := ⟨by rw [HRW.out, itemK_default hw0 hw1 hw2 hw3, ← hr5]⟩
       have H5 := Aside0.mk h5
       clear h5 hr5 hw0 hw1 hw2 hw3 HRW
       go_wp2_with fail
       refine H5.out.mono ?_
       cases r5 with
       | error x =>
        obtain rfl : R = .error x := HRX.out
        rintro e w5 ⟨rfl, hb⟩
        dsimp only
        exact ⟨rfl, rfl, hb⟩
       | ok x =>
        obtain ⟨t, q5⟩ := x
        rintro e w5 ⟨v5, rfl, rfl, hs5, hk5⟩
        dsimp only
        have hkw : Kept w4 w5 (fun k => k = g) := (Kept.alloc (Kept.refl _ _) _).then_ hk5 (fun k hk => .inl hk)
        obtain ⟨x, hx⟩ : ∃ x, x = decide (t = wAllow) := ⟨_, rfl⟩
        obtain rfl : R = .ok ({ s4 with allow := x }, q5) := by rw [hx]; exact HRX.out
        have tA : (t.toList == [97, 108, 108, 111, 119]) = x := (eq_word (w := t) (a := wAllow) (by decide +kernel)).trans hx.symm
        have hkw2 : Kept w4 (w5.setCell ⟨g, 7, none⟩ (.bool x)) (fun k => k = g) := Kept.setCell (S := fun k => k = g) (p := ⟨g, 7, none⟩) hkw (.inl rfl) _
        have HE : Aside0 (ItemQ w0 W lo g T b gm (.ok ({ s4 with allow := x }, q5)) (.returned (.tuple #[])) (w5.setCell ⟨g, 7, none⟩ (.bool x))) := ⟨⟨rfl, { b4 with v7 := .bool x }, _, _, HBA.out.1, HBA.out.2.1, HBA.out.2.2.1, HBA.out.2.2.2, ⟨blk_set hs5.blk 7 _, hs5.bl.setCell (p := ⟨g, 7, none⟩) hs5.gl _, hs5.gl, hs5.tC, hs5.tn, hs5.tc, hs5.tl, hs5.al⟩, (HJ4.out.kept hkw2).dflt x, HK4.out.then_ hkw2 (fun k hk => .inl (hk ▸ HJ4.out.lg))⟩⟩
        have e5 : w5.cell? ⟨g, 7, none⟩ = some b4.v7 := hs5.cell 7
        rw [HJ4.out.e7] at e5
        have f5 := blk_frozen hs5.blk 7
        clear hs5 hk5 hkw hkw2 hx
        go_wp2
        exact ⟨rfl, .tuple #[], by simp [results, Tryd.results21], HE.out⟩
      ·have t3 : (w.toList == [100, 101, 102, 97, 117, 108, 116]) = false := (eq_word (w := w) (a := wDefault) (by decide +kernel)).trans (decide_eq_false hw3)
       have h5 := word_calls w0 (w4.alloc (.cells #[.string wIf] 9)) g T b4 q 0 (HS4.out.below (below_alloc (Below.refl _ _) _)) (some ⟨w4.heap.size, 0, none⟩) 1 1 [wIf] (lit_strs w4 [wIf] (by simp)) rfl (Nat.le_refl _) (by simp)
       rw [HBA.out.2.2.2] at h5
       obtain ⟨r5, hr5⟩ : ∃ r5, r5 = wordP T b.e [wIf] q := ⟨_, rfl⟩
       rw [← hr5] at h5
       have HRX : Aside0 (R = ifK T b.e s4 w r5) := ⟨by rw [HRW.out, itemK_rule hw0 hw1 hw2 hw3, ← hr5]⟩
       have H5 := Aside0.mk h5
       clear h5 hr5 hw0 hw1 hw2 hw3 HRW
       go_wp2_with fail
       refine H5.out.mono ?_
       cases r5 with
       | error x =>
        obtain rfl : R = .error x := HRX.out
        rintro e w5 ⟨rfl, hb⟩
        dsimp only
        exact ⟨rfl, rfl, hb⟩
       | ok x =>
        obtain ⟨t, q5⟩ := x
        rintro e w5 ⟨v5, rfl, rfl, hs5, hk5⟩
        dsimp only
        have hkw : Kept w4 w5 (fun k => k = g) := (Kept.alloc (Kept.refl _ _) _).then_ hk5 (fun k hk => .inl hk)
        obtain ⟨y, hy⟩ : ∃ y, y = decide (w = wAllow) := ⟨_, rfl⟩
        have tA : (w.toList == [97, 108, 108, 111, 119]) = y := (eq_word (w := w) (a := wAllow) (by decide +kernel)).trans hy.symm
        have HS5 := Aside0.mk hs5
        have HJ5 := Aside0.mk (HJ4.out.kept hkw)
        have HK5 : Aside0 (Kept W w5 (fun k => lo ≤ k)) := ⟨HK4.out.then_ hkw (fun k hk => .inl (hk ▸ HJ4.out.lg))⟩
        have h7 := cond_calls w0 w5.drew g T b4 q5 (HS5.out.below (below_drew (Below.refl _ _))) HSZ.out
        rw [HBA.out.2.2.2] at h7
        obtain ⟨r7, hr7⟩ : ∃ r7, r7 = condP T b.e q5 := ⟨_, rfl⟩
        rw [← hr7] at h7
        have HRY : Aside0 (R = ruleK s4 w r7) := ⟨by rw [HRX.out, hr7]; rfl⟩
        have H7 := Aside0.mk h7
        have HY := Aside0.mk hy
        have HJD : Aside0 (IS w0 w5.drew lo g b4 s4 gm okS okR) := ⟨HJ5.out.kept (Kept.of_below (below_drew (Below.refl _ _)) _)⟩
        have HKD : Aside0 (Kept W w5.drew (fun k => lo ≤ k)) := ⟨HK5.out⟩
        have HGD : Aside0 (g < w5.drew.heap.size) := ⟨blk_lt HS5.out.blk⟩
        have HLB : Aside0 ((s4.rules.length + 1) * 72 ≤ 140737488355328) := ⟨by have := HLN.out.2.2; have := HJ4.out.lI; omega⟩
        have d1 : w5.drew.cell? ⟨g, 6, none⟩ = some b4.v6 := HS5.out.cell 6
        clear h7 hr7 hy hs5 hk5 hkw HJ4 HJ5 HK4 HK5 HS4 HRX H5
        go_upto_region 13 with (fail)
        refine start_ (n := 17) (S := fun w' => w'.cell? ⟨g, 6, none⟩ = some b4.v6) (ds := [12, 16]) #[false, false, false, false, false, false, false, false, false, false, false, false, false, false, false, false, false] (by kernel_rfl) rfl rfl (d1) (fun hHeld => ?_)
        refine pure_ (i := 0) (N := some 58) (v := ?_) (a' := ?_) #[true, false, false, false, false, false, false, false, false, false, false, false, false, false, false, false, false] rfl rfl (by kernel_rfl) (fun _ _ _ h => h) (Or.inl ⟨by rfl, ?_⟩) ?_ ?_
        rotate_left
        ·exact sTe6_0
        rotate_left
        ·exact nTe6_
        refine pure_ (i := 1) (N := some 59) (v := ?_) (a' := ?_) #[true, true, false, false, false, false, false, false, false, false, false, false, false, false, false, false, false] rfl rfl (by kernel_rfl) (fun _ _ _ h => h) (Or.inl ⟨by rfl, ?_⟩) ?_ ?_
        rotate_left
        ·exact sTe6_0
        rotate_left
        ·exact nTe6_
        refine pure_ (i := 2) (N := some 60) (v := ?_) (a' := ?_) #[true, true, true, false, false, false, false, false, false, false, false, false, false, false, false, false, false] rfl rfl (by kernel_rfl) (fun _ _ _ h => h) (Or.inl ⟨by rfl, ?_⟩) ?_ ?_
        rotate_left
        ·exact sTe6_0
        rotate_left
        ·exact nTe6_
        refine pure_ (i := 3) (N := some 61) (v := ?_) (a' := ?_) #[true, true, true, true, false, false, false, false, false, false, false, false, false, false, false, false, false] rfl rfl (by kernel_rfl) (fun _ _ _ h => h) (Or.inl ⟨by rfl, ?_⟩) ?_ ?_
        rotate_left
        ·exact sTe6_0
        rotate_left
        ·exact nTe6_
        refine pure_ (i := 4) (N := some 62) (v := ?_) (a' := ?_) #[true, true, true, true, true, false, false, false, false, false, false, false, false, false, false, false, false] rfl rfl (by kernel_rfl) (fun _ _ _ h => h) (Or.inl ⟨by rfl, ?_⟩) ?_ ?_
        rotate_left
        ·exact sTe6_0
        rotate_left
        ·exact nTe6_
        refine pure_ (i := 6) (N := some 64) (v := ?_) (a' := ?_) #[true, true, true, true, true, false, true, false, false, false, false, false, false, false, false, false, false] rfl rfl (by kernel_rfl) (fun _ _ _ h => h) (Or.inl ⟨by rfl, ?_⟩) ?_ ?_
        rotate_left
        ·exact sTe6_0
        rotate_left
        ·exact nTe6_
        refine pure_ (i := 7) (N := some 65) (v := ?_) (a' := ?_) #[true, true, true, true, true, false, true, true, false, false, false, false, false, false, false, false, false] rfl rfl (by kernel_rfl) (fun _ _ _ h => h) (Or.inl ⟨by rfl, ?_⟩) ?_ ?_
        rotate_left
        ·exact sTe6_0
        rotate_left
        ·exact nTe6_
        refine pure_ (i := 8) (N := some 66) (v := ?_) (a' := ?_) #[true, true, true, true, true, false, true, true, true, false, false, false, false, false, false, false, false] rfl rfl (by kernel_rfl) (fun _ _ _ h => h) (Or.inl ⟨by rfl, ?_⟩) ?_ ?_
        rotate_left
        ·exact sTe6_0
        rotate_left
        ·exact nTe6_
        refine take_ (i := 5) (N := some 63) (v := ?_) (a' := ?_) #[true, true, true, true, true, true, true, true, true, false, false, false, false, false, false, false, false] rfl rfl (by kernel_rfl) (fun _ _ _ h => h) (Or.inl ⟨by rfl, ?_⟩) hHeld ?_ ?_
        rotate_left
        ·intro w' s0
         go_simp
         with_reducible rfl
        rotate_left
        ·exact nTe6_
        refine one_ (i := 9) (N := some 67) #[true, true, true, true, true, true, true, true, true, true, false, false, false, false, false, false, false] rfl rfl (by kernel_rfl) (by decide) (fun K hK => ?_)
        refine goesP_ Tryd.func50 (by kernel_rfl) rfl #[.pointer (some ⟨g, 0, none⟩)] (by rfl) rfl rfl (by simp only [List.map_toArray, List.map_cons, List.map_nil]; rfl) ?_
        refine H7.out.mono ?_
        rcases r7 with x | ⟨c, q7⟩
        ·rintro e w7 ⟨rfl, hb⟩
         refine .inr ⟨_, rfl, ?_⟩
         obtain rfl : R = .error x := HRY.out
         exact ⟨rfl, rfl, hb⟩
        rintro e w7 ⟨v7, rfl, ⟨v3, rfl, hr7⟩, hs7, hk7⟩
        refine .inl ⟨_, rfl, ?_⟩
        unfold cdcells
        have HS7 := Aside0.mk hs7
        have HJ7 := Aside0.mk (HJD.out.kept hk7)
        have HKG := Aside0.mk hk7
        have HM7 := Aside0.mk (k51_mkM w7 w0.heap.size (fun k => w5.drew.heap.size ≤ k) ⟨y, c⟩ hr7)
        obtain rfl : R = .ok ({ s4 with rules := s4.rules ++ [⟨y, c⟩] }, q7) := by rw [HY.out]; exact HRY.out
        have HOK : Aside0 (∀ k, w5.drew.heap.size ≤ k → (okR k ∨ w5.drew.heap.size ≤ k) ∧ some k ≠ b4.v6.ownBlock) := ⟨fun k hk => ⟨.inr hk, fun he => by have := Kd.R_lt HJD.out.rR k he.symm; omega⟩⟩
        have HFR : Aside0 (∀ k, w7.heap.size ≤ k → okR k ∨ w5.drew.heap.size ≤ k) := ⟨fun k hk => .inr (by have := HKG.out.1; omega)⟩
        have HR7 : Aside0 (k51.R 51 w7 w0.heap.size (fun k => okR k ∨ w5.drew.heap.size ≤ k) b4.v6 s4.rules) := ⟨Kd.R_mono HJ7.out.rR (fun k hk => .inl hk)⟩
        clear hs7 hk7 hr7 HS5 HRY
        refine hK.out _ _ ((HS7.out.cell 6)) (fun hHeld => ?_)
        clear hK K
        refine norm_ (a' := ?_) ?_ ?_
        rotate_left
        ·show Act.put _ (some 67) _ = _
         exact nTe6_
        refine pure_ (i := 10) (N := some 68) (v := ?_) (a' := ?_) #[true, true, true, true, true, true, true, true, true, true, true, false, false, false, false, false, false] rfl rfl (by kernel_rfl) (fun _ _ _ h => h) (Or.inl ⟨by rfl, ?_⟩) ?_ ?_
        rotate_left
        ·exact sTe6_0
        rotate_left
        ·exact nTe6_
        refine one_ (i := 11) (N := some 69) #[true, true, true, true, true, true, true, true, true, true, true, true, false, false, false, false, false] rfl rfl (by kernel_rfl) (by decide) (fun K hK => ?_)
        refine value_ (w1 := ?_) (v := ?_) (by rfl) rfl ?_ ?_
        rotate_left 2
        ·go_simp
         constructor
         ·rfl
         ·rfl
        refine hK.out _ _ ((blk_cell (show (w7.alloc _).heap[g]? = _ from blk_alloc HS7.out.blk _) 6)) (fun hHeld => ?_)
        clear hK K
        refine norm_ (a' := ?_) ?_ ?_
        rotate_left
        ·show Act.put _ (some 69) _ = _
         exact nTe6_
        refine last_ (i := 12) (N := some 70) #[true, true, true, true, true, true, true, true, true, true, true, true, true, false, false, false, false] rfl rfl (by kernel_rfl) (by decide) (fun K hK => ?_)
        refine Kd.R_append_step k51 (w0 := w0) (W := w7) w0.heap.size (by rfl) _ _ 25 51 _ 72 rfl Tryd.underlying25 info_rule rfl (by decide) (by decide) b4.v6 s4.rules ⟨y, c⟩ [.bool y, .int .i64 c.f0, .string c.f1.f0, .string c.f1.f1, v3] (fun k => okR k ∨ w5.drew.heap.size ≤ k) (fun k => w5.drew.heap.size ≤ k) rfl rfl HM7.out HOK.out HFR.out HR7.out HS7.out.bl HS7.out.bl.size HLB.out ?_
        intro v9 w9 hO9 hB9 hG9 hat9
        have hp9 : w9.heap[g]? = some (.cells (pcells b4 q7 0) 63 (0, 0)) := (hG9.block g (blk_lt HS7.out.blk) (fun he => (HJ7.out.bR g (HJ7.out.rR.1 g he.symm)).2.2.1 rfl)).trans HS7.out.blk
        have hkf : Kept w5.drew (w9.setCell ⟨g, 6, none⟩ v9) (fun k => k = g ∨ b4.v6.ownBlock = some k) := Kept.setCell (S := fun k => k = g ∨ b4.v6.ownBlock = some k) (p := ⟨g, 6, none⟩) (Kept.of_grown hG9 (HKG.out.mono (fun k hk => .inl hk)) (fun k hk => .inl (.inr hk))) (.inl (.inl rfl)) _
        have HE : Aside0 (ItemQ w0 W lo g T b gm (.ok ({ s4 with rules := s4.rules ++ [⟨y, c⟩] }, q7)) (.returned (.tuple #[])) (w9.setCell ⟨g, 6, none⟩ v9)) := ⟨⟨rfl, { b4 with v6 := v9 }, _, _, HBA.out.1, HBA.out.2.1, HBA.out.2.2.1, HBA.out.2.2.2, ⟨blk_set hp9 6 _, hB9.setCell (p := ⟨g, 6, none⟩) HS7.out.gl _, HS7.out.gl, HS7.out.tC, HS7.out.tn, HS7.out.tc, HS7.out.tl, HS7.out.al⟩, HJD.out.rule HGD.out (Kd.R_far hO9 (p := ⟨g, 6, none⟩) (fun k hk (he : k = g) => by
         rcases hk with hk | hk
         ·exact (HJD.out.bR k hk).2.2.1 he
         ·have := HGD.out; omega) _) hkf HLN.out.2.2, HKD.out.then_ (HJD.out.lo6 hkf) (fun k hk => .inl hk)⟩⟩
        obtain ⟨A9, c9, e9⟩ := Kd.R_slice hO9
        obtain ⟨n9, hn9⟩ : ∃ n9, n9 = (s4.rules ++ [(⟨y, c⟩ : Rl)]).length := ⟨_, rfl⟩
        rw [← hn9] at e9
        subst e9
        have e4 : w9.cell? ⟨g, 6, none⟩ = some b4.v6 := blk_cell hp9 6
        have f4 := blk_frozen hp9 6
        clear hO9 hB9 hG9 hat9 hp9 hn9 hkf
        refine hK.out _ _ ?_
        clear hK K
        refine norm_ (a' := ?_) ?_ ?_
        rotate_left
        ·show Act.put _ (some 70) _ = _
         exact nTe6_
        refine pure_ (i := 13) (N := some 71) (v := ?_) (a' := ?_) #[true, true, true, true, true, true, true, true, true, true, true, true, true, true, false, false, false] rfl rfl (by kernel_rfl) (fun _ _ _ h => h) (Or.inl ⟨by rfl, ?_⟩) ?_ ?_
        rotate_left
        ·exact sTe6_0
        rotate_left
        ·exact nTe6_
        refine pure_ (i := 14) (N := some 72) (v := ?_) (a' := ?_) #[true, true, true, true, true, true, true, true, true, true, true, true, true, true, true, false, false] rfl rfl (by kernel_rfl) (fun _ _ _ h => h) (Or.inl ⟨by rfl, ?_⟩) ?_ ?_
        rotate_left
        ·exact sTe6_0
        rotate_left
        ·exact nTe6_
        refine pure_ (i := 15) (N := some 73) (v := ?_) (a' := ?_) #[true, true, true, true, true, true, true, true, true, true, true, true, true, true, true, true, false] rfl rfl (by kernel_rfl) (fun _ _ _ h => h) (Or.inl ⟨by rfl, ?_⟩) ?_ ?_
        rotate_left
        ·exact sTe6_0
        rotate_left
        ·exact nTe6_
        refine last_ (i := 16) (N := none) #[true, true, true, true, true, true, true, true, true, true, true, true, true, true, true, true, true] rfl rfl (by kernel_rfl) (by decide) (fun K hK => ?_)
        refine skip_ (w1 := ?_) (by rfl) rfl ?_ ?_
        rotate_left
        ·go_simp
         rfl
        refine hK.out _ _ ?_
        clear hK K
        refine done_ (by kernel_rfl) ?_

        go_wp2
        exact ⟨rfl, .tuple #[], by simp [results, Tryd.results21], HE.out⟩) : p_ := h_
theorem item_calls (w0 W : World) (lo g : Nat) (T : List Tk) (b : Pb) (p : Nat) (st : Pst) (gm : Nat) (okS okR : Nat → Prop) (hsz : ∀ t ∈ T, t.f2.size ≤ 1000000) (h : PS w0 W g T b p 0) (hi : IS w0 W lo g b st gm okS okR) :
  Calls Tryd.prog 21 #[.pointer (some ⟨g, 0, none⟩)] W (ItemQ w0 W lo g T b gm (itemP T b.e st p)) := by
 have H := Aside0.mk h
 have HI := Aside0.mk hi
 have HSZ := Aside0.mk hsz
 obtain ⟨R, hR⟩ : ∃ R, R = itemP T b.e st p := ⟨_, rfl⟩
 rw [← hR]
 have HR := Aside0.mk hR
 clear hR h hi hsz
 have HIS := is_calls w0 _ g T b p 0 (H.out.below (below_alloc (Below.refl _ _) (.cells #[.string wCsp, .string wShare, .string wMixed, .string wDefault, .string wAllow, .string wDeny] 9))) (some ⟨W.heap.size, 0, none⟩) 6 6 [wCsp, wShare, wMixed, wDefault, wAllow, wDeny] (lit_strs W [wCsp, wShare, wMixed, wDefault, wAllow, wDeny] (by simp)) rfl (Nat.le_refl _) (by simp)
 obtain ⟨i, hi⟩ : ∃ i, i = isP T b.e [wCsp, wShare, wMixed, wDefault, wAllow, wDeny] p := ⟨_, rfl⟩
 rw [← hi] at HIS
 have HIS := Aside0.mk HIS
 have HI1 := Aside0.mk hi
 clear hi
 go_enter Tryd.func21, Tryd.ntmps21
 go_wp2_with fail
 refine HIS.out.mono ?_
 rintro e w1 ⟨rfl, hb⟩
 dsimp only
 have HB1 : Aside0 (Below W.heap.size W w1) := ⟨(below_alloc (Below.refl _ _) _).trans (hb.mono (below_alloc (Below.refl _ _) _).size)⟩
 have HS1 := Aside0.mk (H.out.below HB1.out)
 have HJ1 := Aside0.mk (HI.out.kept (Kept.of_below HB1.out _))
 have HK1 : Aside0 (Kept W w1 (fun k => lo ≤ k)) := ⟨Kept.of_below HB1.out _⟩
 clear hb HIS HB1
 cases i
 ·obtain rfl : R = .error (8, (nxt T b.e p).f1) := by rw [HR.out, itemP_no HI1.out]
  have HF := Aside0.mk (fail_calls w0 w1 g T b p 0 8 HS1.out)
  go_wp2_with fail
  refine HF.out.mono ?_
  rintro e w2 ⟨rfl, hb⟩
  dsimp only
  exact ⟨rfl, rfl, hb⟩
 ·have HIS := is_calls w0 _ g T b p 0 (HS1.out.below (below_alloc (Below.refl _ _) (.cells #[.string wMixed, .string wDefault] 9))) (some ⟨w1.heap.size, 0, none⟩) 2 2 [wMixed, wDefault] (lit_strs w1 [wMixed, wDefault] (by simp)) rfl (Nat.le_refl _) (by simp)
  obtain ⟨i, hi⟩ : ∃ i, i = isP T b.e [wMixed, wDefault] p := ⟨_, rfl⟩
  rw [← hi] at HIS
  have HIS := Aside0.mk HIS
  have HI2 := Aside0.mk hi
  clear hi
  go_wp2_with fail
  refine HIS.out.mono ?_
  rintro e w2 ⟨rfl, hb⟩
  dsimp only
  have HB2 : Aside0 (Below w1.heap.size w1 w2) := ⟨(below_alloc (Below.refl _ _) _).trans (hb.mono (below_alloc (Below.refl _ _) _).size)⟩
  have HS2 := Aside0.mk (HS1.out.below HB2.out)
  have HJ2 := Aside0.mk (HJ1.out.kept (Kept.of_below HB2.out _))
  have HK2 : Aside0 (Kept W w2 (fun k => lo ≤ k)) := ⟨HK1.out.below HB2.out⟩
  clear hb HIS HB2 HS1 HJ1 HK1
  cases i
  ·have HRR : Aside0 (R = restP T b.e st p) := ⟨by rw [HR.out, itemP_none HI1.out HI2.out]⟩
   clear HR HI1 HI2
   exact sc_rest
  ·have HT2 : Aside0 ((nxt T b.e p).f2 = wMixed ∨ (nxt T b.e p).f2 = wDefault) := ⟨isP_two HI2.out⟩
   have HNX := Aside0.mk (next_calls w0 w2 g T b p 0 HS2.out)
   obtain ⟨tk, htk⟩ : ∃ tk, tk = nxt T b.e p := ⟨_, rfl⟩
   rw [← htk] at HNX HT2
   have HTK := Aside0.mk htk
   clear htk
   go_wp2_with fail
   refine HNX.out.mono ?_
   rintro e w3 ⟨rfl, hb⟩
   dsimp only [tkcells]
   have HS3 := Aside0.mk (HS2.out.below hb)
   have HJ3 := Aside0.mk (HJ2.out.kept (Kept.of_below hb _))
   have HK3 : Aside0 (Kept W w3 (fun k => lo ≤ k)) := ⟨HK2.out.below hb⟩
   clear hb HNX HS2 HJ2 HK2
   obtain ⟨k0, p0, wd⟩ := tk
   dsimp only at HT2 ⊢
   obtain ⟨D, hD, hA1, hU⟩ := Met.at_ HJ3.out.mt HT2.out
   have HD := Aside0.mk hD
   have HU := Aside0.mk hU
   have HKW := Aside0.mk (key_met HT2.out)
   have c9 : w3.cell? ⟨g, 9, none⟩ = some (.map (some gm)) := (HS3.out.cell 9).trans (congrArg some HJ3.out.e9)
   clear hD hU
   obtain ⟨mm, hmm⟩ : ∃ mm, mm = metN st wd := ⟨_, rfl⟩
   rw [← hmm] at hA1 HU
   have hm1 : (mm : Int) ≤ 1 := by have := metN_le HJ3.out wd; omega
   have HA1 := Aside0.mk hA1
   have HMM := Aside0.mk hmm
   obtain ⟨nm, hnm⟩ : ∃ nm, nm = st.metM + st.metD := ⟨_, rfl⟩
   rw [← hnm] at HD HU
   have HMX : Aside0 (nm < maxLen) := ⟨by have := HJ3.out.lM; have := HJ3.out.lD; unfold maxLen; omega⟩
   clear hA1 hmm hnm
   go_upto_region 4 with (rename_i K1 hK1; refine hK1 _ _ ?_; simp only [List.getElem_toArray, List.getElem_cons_succ, List.getElem_cons_zero])
   have hun := Tryd.underlying61
   have hlk : ∀ {ops : Array Oper} {rest : List Oper} {o : Oper} {a : Act} {Q : Exit → Act → World → Prop} (hg : o.guard = none) (hop : o.op = Op.lookup 61 (.tmp 25) (.tmp 26) false) (hm : a.eval (.tmp 25) = .map (some gm)) (hx : a.eval (.tmp 26) = .string wd) (hK : wpList Tryd.prog ops Q rest (a.put o.dst (.int .i64 (mm : Int))) w3), wpList Tryd.prog ops Q (o :: rest) a w3 := by
    intro ops rest o a Q hg hop hm hx hK
    refine wpList_lookup_own_int w3 hg (.tmp 25) (.tmp 26) 61 hop 9 3 .i64 (Go.Maps.string_keyed Tryd.underlying9) hun Tryd.underlying3 (zero_int _) gm nm D hm HD.out _ (litW wd) hx HKW.out ?_
    intro c hc hwf
    have h9 := hc.symm.trans HA1.out
    obtain rfl : c = (mm : Int) := by simpa using h9
    exact hK
   have HPI : Aside0 (plainElem (H := Unit) Tryd.prog 3 (.int .i64 ((mm : Int) + 1)) = some (.lit (.int .i64 ((mm : Int) + 1)), [])) := ⟨plain_int (mm + 1) (by omega)⟩
   have hup : ∀ {ops : Array Oper} {rest : List Oper} {o : Oper} {a : Act} {Q : Exit → Act → World → Prop} (hg : o.guard = none) (hop : o.op = Op.mapUpdate 61 (.tmp 25) (.tmp 26) (.tmp 28)) (hm : a.eval (.tmp 25) = .map (some gm)) (hx : a.eval (.tmp 26) = .string wd) (hv : a.eval (.tmp 28) = .int .i64 ((mm : Int) + 1)) (hK : ∀ w', w'.ownsMap Tryd.prog 9 (plainElem Tryd.prog 3) gm (nm + 1) (D.put (litW wd) (.lit (.int .i64 ((mm : Int) + 1)))) → w3.grownBy w' (some gm) → wpList Tryd.prog ops Q rest (a.put o.dst undef) w'), wpList Tryd.prog ops Q (o :: rest) a w3 := by
    intro ops rest o a Q hg hop hm hx hv hK
    exact wpList_mapUpdate_own w3 hg (.tmp 25) (.tmp 26) (.tmp 28) 61 hop 9 3 (Go.Maps.string_keyed Tryd.underlying9) hun (plainElem Tryd.prog 3) gm nm D hm HD.out HMX.out _ _ (litW wd) hx hv HKW.out _ [] HPI.out hK
   go_upto_region 5 with (first | refine hlk rfl rfl rfl rfl ?_ | (refine hup rfl rfl rfl rfl rfl ?_; intro w4 hD4 hG4; have HD4 := Aside0.mk hD4; have HG4 := Aside0.mk hG4; clear hD4 hG4 hlk hup c9))
   have HS4 : Aside0 (PS w0 w4 g T b p 0) := ⟨⟨(HG4.out.block g (blk_lt HS3.out.blk) (fun he => HJ3.out.ng (by cases he; rfl))).trans HS3.out.blk, pw_below_grown HS3.out.bl (some gm) HS3.out.bl.size HG4.out (fun k he => by cases he; exact Nat.le_trans HJ3.out.l0 HJ3.out.lm), HS3.out.gl, HS3.out.tC, HS3.out.tn, HS3.out.tc, HS3.out.tl, HS3.out.al⟩⟩
   have HKG4 : Aside0 (Kept w3 w4 (fun k => k = gm)) := ⟨Kept.of_grown HG4.out (Kept.refl _ _) (fun k he => .inl (by cases he; rfl))⟩
   have HK4 : Aside0 (Kept W w4 (fun k => lo ≤ k)) := ⟨HK3.out.then_ HKG4.out (fun k hk => .inl (hk ▸ HJ3.out.lm))⟩
   have c9 : w4.cell? ⟨g, 9, none⟩ = some (.map (some gm)) := (HS4.out.cell 9).trans (congrArg some HJ3.out.e9)
   have HA4 := Aside0.mk (HU.out w4 HD4.out).2
   have hlk : ∀ {ops : Array Oper} {rest : List Oper} {o : Oper} {a : Act} {Q : Exit → Act → World → Prop} (hg : o.guard = none) (hop : o.op = Op.lookup 61 (.tmp 32) (.tmp 33) false) (hm : a.eval (.tmp 32) = .map (some gm)) (hx : a.eval (.tmp 33) = .string wd) (hK : wpList Tryd.prog ops Q rest (a.put o.dst (.int .i64 ((mm : Int) + 1))) w4), wpList Tryd.prog ops Q (o :: rest) a w4 := by
    intro ops rest o a Q hg hop hm hx hK
    refine wpList_lookup_own_int w4 hg (.tmp 32) (.tmp 33) 61 hop 9 3 .i64 (Go.Maps.string_keyed Tryd.underlying9) hun Tryd.underlying3 (zero_int _) gm (nm + 1) _ hm HD4.out _ (litW wd) hx HKW.out ?_
    intro c hc hwf
    have h9 := hc.symm.trans HA4.out
    obtain rfl : c = (mm : Int) + 1 := by simpa using h9
    exact hK
   have HON : Aside0 (R = if mm + 1 > 1 then .error (10, p0) else restP T b.e (raise st wd) p) := ⟨by rw [HR.out, HMM.out]; exact itemP_once HI1.out HI2.out HTK.out HT2.out⟩
   by_cases hm0 : 1 < mm + 1
   ·have l1 : decide ((1 : Int) < (mm : Int) + 1) = true := decide_eq_true (by omega)
    obtain rfl : R = .error (10, p0) := by rw [HON.out, if_pos hm0]
    have HF := fail_calls w0 w4 g T b p 0 10 HS4.out
    rw [← HTK.out] at HF
    have HF := Aside0.mk HF
    go_wp2_with (first | refine hlk rfl rfl rfl rfl ?_ | fail)
    refine HF.out.mono ?_
    rintro e w5 ⟨rfl, hb⟩
    dsimp only
    exact ⟨rfl, rfl, hb⟩
   ·have l1 : decide ((1 : Int) < (mm : Int) + 1) = false := decide_eq_false (by omega)
    have HRR : Aside0 (R = restP T b.e (raise st wd) p) := ⟨by rw [HON.out, if_neg hm0]⟩
    have HJ4 : Aside0 (IS w0 w4 lo g b (raise st wd) gm okS okR) := ⟨HJ3.out.raise wd (by rw [← HMM.out]; omega) HKG4.out (HU.out w4 HD4.out).1⟩
    clear hm0 HON hm1
    obtain ⟨st, hst⟩ : ∃ st', st' = raise st wd := ⟨_, rfl⟩
    rw [← hst] at HRR HJ4
    clear hst
    go_upto_region 7 with (first | refine hlk rfl rfl rfl rfl ?_ | fail)
    clear hlk c9 l1 hun HI HR HI1 HI2 HS3 HJ3 HK3 HD HU HKW HA1 HMM HMX HPI HD4 HG4 HKG4 HA4
    rename World => w2
    have HS2 := HS4
    have HJ2 := HJ4
    have HK2 := HK4
    clear HS4 HJ4 HK4
    exact sc_rest
theorem shareL_mono {T : List Tk} {e : Int} : ∀ (f : Nat) (s : Sh) (p : Nat) (s' : Sh) (q : Nat), shareL T e f s p = .ok (s', q) → p ≤ q
 | 0, s, p, s', q, h => by
  rw [shareL] at h; cases h; exact Nat.le_refl _
 | f + 1, s, p, s', q, h => by
  by_cases hi : isP T e [wMethod, wHeader, wCreds] p = true
  ·rw [shareL_succ _ _ _ _ _ hi.symm] at h
   cases ht : takeP T e 1 p with
   | error x => rw [ht] at h; cases h
   | ok x =>
    obtain ⟨w, q1⟩ := x
    have hq1 := takeP_mono ht
    rw [ht] at h
    simp only [shareK] at h
    split at h
    ·cases ht2 : takeP T e 1 q1 with
     | error x => rw [ht2] at h; cases h
     | ok x =>
      obtain ⟨t, q2⟩ := x
      have hq2 := takeP_mono ht2
      rw [ht2] at h
      have := shareL_mono f _ _ _ _ h
      omega
    ·split at h
     ·cases ht2 : takeP T e 1 q1 with
      | error x => rw [ht2] at h; cases h
      | ok x =>
       obtain ⟨t, q2⟩ := x
       have hq2 := takeP_mono ht2
       rw [ht2] at h
       have := shareL_mono f _ _ _ _ h
       omega
     ·have := shareL_mono f _ _ _ _ h
      omega
  ·rw [shareL, if_neg hi] at h; cases h; exact Nat.le_refl _
theorem shareP_mono {T : List Tk} {e : Int} {p : Nat} {s' : Sh} {q : Nat} (h : shareP T e p = .ok (s', q)) : p ≤ q := by
 rw [shareP] at h
 cases ht : takeP T e 2 p with
 | error x => rw [ht] at h; cases h
 | ok x =>
  obtain ⟨t, q2⟩ := x
  have hq2 := takeP_mono ht
  rw [ht] at h
  have := shareL_mono _ _ _ _ _ h
  omega
theorem itemK_mono {T : List Tk} {e : Int} {s : Pst} {w : ByteArray} {p : Nat} {s' : Pst} {q : Nat} (h : itemK T e s w p = .ok (s', q)) : p ≤ q := by
 by_cases h0 : w = wCsp
 ·rw [itemK_csp h0] at h
  cases ht : takeP T e 2 p with
  | error x => rw [ht] at h; cases h
  | ok x => obtain ⟨t, q2⟩ := x; have := takeP_mono ht; rw [ht] at h; cases h; omega
 by_cases h1 : w = wShare
 ·rw [itemK_share h0 h1] at h
  cases ht : shareP T e p with
  | error x => rw [ht] at h; cases h
  | ok x => obtain ⟨t, q2⟩ := x; have := shareP_mono ht; rw [ht] at h; cases h; omega
 by_cases h2 : w = wMixed
 ·rw [itemK_mixed h0 h1 h2] at h
  cases ht : wordP T e [wBlock, wUpgrade, wAllow] p with
  | error x => rw [ht] at h; cases h
  | ok x => obtain ⟨t, q2⟩ := x; have := wordP_mono ht; rw [ht] at h; cases h; omega
 by_cases h3 : w = wDefault
 ·rw [itemK_default h0 h1 h2 h3] at h
  cases ht : wordP T e [wAllow, wDeny] p with
  | error x => rw [ht] at h; cases h
  | ok x => obtain ⟨t, q2⟩ := x; have := wordP_mono ht; rw [ht] at h; cases h; omega
 rw [itemK_rule h0 h1 h2 h3] at h
 cases ht : wordP T e [wIf] p with
 | error x => rw [ht] at h; cases h
 | ok x =>
  obtain ⟨t, q2⟩ := x
  have := wordP_mono ht
  rw [ht] at h
  simp only [ifK] at h
  cases hc : condP T e q2 with
  | error x => rw [hc] at h; cases h
  | ok x => obtain ⟨c, q3⟩ := x; have := condP_mono T e _ _ _ hc; rw [hc] at h; cases h; omega
theorem itemP_mono {T : List Tk} {e : Int} {s : Pst} {p : Nat} {s' : Pst} {q : Nat} (h : itemP T e s p = .ok (s', q)) : p ≤ q := by
 rw [itemP] at h
 split at h
 ·split at h
  ·cases h
  ·split at h
   ·cases h
   ·cases ht : takeP T e 1 p with
    | error x => rw [ht] at h; cases h
    | ok x =>
     obtain ⟨t, q2⟩ := x
     have := takeP_mono ht
     rw [ht] at h
     have := itemK_mono h
     omega
 ·cases h
def endK (T : List Tk) (e : Int) (f : Nat) (s : Pst) : Res ByteArray → Except (Int × Int) Pst
 | .error x => .error x
 | .ok (_, r) => itemsP T e f s r
def itemsK (T : List Tk) (e : Int) (f : Nat) : Res Pst → Except (Int × Int) Pst
 | .error x => .error x
 | .ok (s, q) => endK T e f s (takeP T e 5 q)
theorem itemsP_succ {T : List Tk} {e : Int} {f : Nat} {s : Pst} {p : Nat} (h : p < T.length) : itemsP T e (f + 1) s p = itemsK T e f (itemP T e s p) := by
 rw [itemsP, if_pos h]
 cases itemP T e s p with
 | error x => rfl
 | ok x =>
  obtain ⟨s1, q⟩ := x
  simp only [itemsK]
  cases takeP T e 5 q <;> rfl
def polcells (v3 v4 : Value) (m : ByteArray) (v6 : Value) (a : Bool) : Array Value := #[v3, v4, .string m, v6, .bool a]
def zeroPol : Value := .agg (polcells (.slice none 0 0) (.slice none 0 0) ⟨#[]⟩ (.slice none 0 0) false)
def faultV (f : Int × Int) : Value := .agg #[.int .i64 f.1, .int .i64 f.2]
structure PolV (w' : World) (base : Nat) (v3 v4 v6 : Value) (st : Pst) : Prop where
 rC : Kd.string.R 9 w' base (fun _ => True) v3 st.csp
 rS : k44.R 44 w' base (fun k => some k ≠ v3.ownBlock) v4 st.shares
 rR : k51.R 51 w' base (fun _ => True) v6 st.rules
theorem pol_rows (w w2 wr : World) (gp lo g : Nat) (b : Pb) (st : Pst) (gm : Nat) (okS okR : Nat → Prop) (h2 : gp + 1 < w2.heap.size) (hw : w.heap.size ≤ w2.heap.size) (hj : IS w2 wr lo g b st gm okS okR) (c1 c2 : Array Value) :
  PolV ((wr.setRow gp c1).setRow (gp + 1) c2) w.heap.size b.v3 b.v4 b.v6 st := by
 have hk : Kept wr ((wr.setRow gp c1).setRow (gp + 1) c2) (fun k => k = gp ∨ k = gp + 1) := ((kept_setRow wr gp c1).mono (fun k hk => .inl hk)).then_ (kept_setRow _ _ _) (fun k hk => .inl (.inr hk))
 refine ⟨?_, ?_, ?_⟩
 ·exact Kd.R_lower (Kd.R_mono (Kd.R_kept (Kd.R_bound hj.rC) hk (fun k ho hs => by have := ho.2.1; rcases hs with hs | hs <;> omega)) (fun _ _ => trivial)) hw
 ·exact Kd.R_lower (Kd.R_mono (Kd.R_kept (Kd.R_bound hj.rS) hk (fun k ho hs => by have := ho.2.1; rcases hs with hs | hs <;> omega)) (fun k ho he => (hj.dC k he.symm).2.2.2.1 ho.1)) hw
 ·exact Kd.R_lower (Kd.R_mono (Kd.R_kept (Kd.R_bound hj.rR) hk (fun k ho hs => by have := ho.2.1; rcases hs with hs | hs <;> omega)) (fun _ _ => trivial)) hw
theorem pol_one {v3 v4 v6 : Value} (h : v3.oneCell' = true ∧ v4.oneCell' = true ∧ v6.oneCell' = true) (m : ByteArray) (a : Bool) : (polcells v3 v4 m v6 a).all (·.oneCell') = true := by
 rw [← Array.all_toList]
 show (v3.oneCell' && (v4.oneCell' && ((Value.string m).oneCell' && (v6.oneCell' && ((Value.bool a).oneCell' && true))))) = true
 rw [h.1, h.2.1, h.2.2]; rfl
def PolQ (w : World) (r : Except (Int × Int) Pst) (e : Ending) (w' : World) : Prop :=
 match r with
 | .ok st => ∃ v3 v4 v6, e = .returned (.tuple #[.agg (polcells v3 v4 st.mixed v6 st.allow), faultV (0, 0)]) ∧ PolV w' w.heap.size v3 v4 v6 st ∧ Below w.heap.size w w'
 | .error f => e = .returned (.tuple #[zeroPol, faultV f]) ∧ Below w.heap.size w w'
def polT (n : Int) : List Tk × Int × Int → Except (Int × Int) Pst
 | (T, c, a) => if c = 0 then polP T n else .error (c, a)
def NoP (Q : Exit → Act → World → Prop) : Exit → Act → World → Prop
 | .panic _, _, _ => False
 | e, a, w => Q e a w
theorem region_noP {P : Program} {Q : Exit → Act → World → Prop} {c : Code} {a : Act} {w : World} (h : c.wp P (NoP Q) a w) : c.wp P Q a w :=
 wp_mono h (fun e a w hq => by cases e <;> first | exact hq | exact hq.elim)
theorem size_two (w : World) (c1 c2 : Array Value) (t1 t2 : TypeId) : ((w.alloc (.cells c1 t1)).alloc (.cells c2 t2)).heap.size = w.heap.size + 2 := by
 rw [show ((w.alloc (.cells c1 t1)).alloc (.cells c2 t2)).heap.size = (w.alloc (.cells c1 t1)).heap.size + 1 from Array.size_push _, show (w.alloc (.cells c1 t1)).heap.size = w.heap.size + 1 from Array.size_push _]
theorem blk_newm (w : World) (c2 : Array Value) (t2 : TypeId) : ((w.alloc (.map #[] 0)).alloc (.cells c2 t2)).heap[w.heap.size + 1]? = some (.cells c2 t2 (0, 0)) := by
 have h := blk_new (w.alloc (.map #[] 0)) (.cells c2 t2)
 rwa [show (w.alloc (.map #[] 0)).heap.size = w.heap.size + 1 from Array.size_push _] at h
theorem blk_new2 (w : World) (c1 c2 : Array Value) (t1 t2 : TypeId) : ((w.alloc (.cells c1 t1)).alloc (.cells c2 t2)).heap[w.heap.size + 1]? = some (.cells c2 t2 (0, 0)) := by
 have h := blk_new (w.alloc (.cells c1 t1)) (.cells c2 t2)
 rwa [show (w.alloc (.cells c1 t1)).heap.size = w.heap.size + 1 from Array.size_push _] at h
theorem size_fault : (Tryd.prog.info? 30).map (·.size) = some 2 := by kernel_rfl
theorem size_pol : (Tryd.prog.info? 27).map (·.size) = some 5 := by kernel_rfl
theorem pol_results (tmps : Array Value) (w : World) (gp gf : Nat) (cs fs : Array Value) (h2 : tmps.getD 2 undef = .pointer (some ⟨gp, 0, none⟩)) (h3 : tmps.getD 3 undef = .pointer (some ⟨gf, 0, none⟩))
  (hp : w.heap[gp]? = some (.cells cs 27 (0, 0))) (hf : w.heap[gf]? = some (.cells fs 30 (0, 0))) (hc : cs.size = 5) (hfs : fs.size = 2) :
  (results Tryd.f12 tmps).run Tryd.prog w = .ok (.tuple #[.agg cs, .agg fs]) w :=
 results_list (rs := [.cell 2 27, .cell 3 30]) rfl (by simp) (.cell gp _ cs (0, 0) _ h2 hp Tryd.underlying27 rfl (by rw [hc]; exact size_pol) (.cell gf _ fs (0, 0) _ h3 hf Tryd.underlying30 rfl (by rw [hfs]; exact size_fault) .nil))
theorem pol_fault (w w2 w' : World) (gp : Nat) (tmps : Array Value) (f : Int × Int) (r : Except (Int × Int) Pst) (hr : r = .error f) (h2 : tmps.getD 2 undef = .pointer (some ⟨gp, 0, none⟩)) (h3 : tmps.getD 3 undef = .pointer (some ⟨gp + 1, 0, none⟩))
  (ps qs : Array Value) (hp : w2.heap[gp]? = some (.cells ps 27 (0, 0))) (hf : w2.heap[gp + 1]? = some (.cells qs 30 (0, 0))) (hps : ps.size = 5) (hqs : qs.size = 2) (hb : Below w2.heap.size w2 w') (hw : Below w.heap.size w w2) (hgp : w.heap.size ≤ gp) :
  bodyPostD Tryd.prog Tryd.f12 (PolQ w r) (.panic (ent f)) { tmps := tmps, defers := [{ target := .fn (Fn.func 20) #[.pointer (some ⟨gp, 0, none⟩), .pointer (some ⟨gp + 1, 0, none⟩)], args := #[] }] } w' := by
 subst hr
 refine leaves_cons (f := 20) (args := #[.pointer (some ⟨gp, 0, none⟩), .pointer (some ⟨gp + 1, 0, none⟩)]) (by simp) (by simp [go_sem]) ?_
 refine (catch_fault gp (gp + 1) f w' ps qs (blk_below hp hb) (blk_below hf hb) hps hqs (by omega)).mono ?_
 rintro e u' w'' ⟨rfl, ⟨pe, rfl⟩, hP, hF, hK, hB⟩
 exact ⟨_, pol_results tmps w'' gp (gp + 1) _ _ h2 h3 hP hF rfl rfl, rfl, hB w (hw.trans (hb.mono hw.size)) hgp (by omega)⟩
set_option maxHeartbeats 16000000 in
set_option maxRecDepth 100000 in
theorem policy_calls0 (s : ByteArray) (k : Nat) (T : List Tk) (c a : Int) (w : World) (hL : Laid w) (h : lex_Tokens.f k s = some (T, c, a)) (hsz : ∀ t ∈ T, t.f2.size ≤ 1000000) (hln : T.length ≤ 1000000) :
  Calls Tryd.prog 12 #[.string s] w (PolQ w (polT s.size (T, c, a))) := by
 have hmf : ∀ (fn : Fn) (first cap : Array Value) (w : World), (Instr.makeFunc fn first cap).run Tryd.prog w = .ok (.func fn first cap) w := fun _ _ _ _ => rfl
 have HSZ := Aside0.mk hsz
 have HLN := Aside0.mk hln
 obtain ⟨gp, hgp⟩ : ∃ gp, gp = w.heap.size := ⟨_, rfl⟩
 obtain ⟨R, hR⟩ : ∃ R, R = polT s.size (T, c, a) := ⟨_, rfl⟩
 rw [← hR]
 have HR := Aside0.mk hR
 clear hR hsz hln
 have HL := Aside0.mk hL
 have HTK := Aside0.mk h
 clear hL h
 go_enter_defers Tryd.func12, Tryd.ntmps12
 go_wp2_with fail
 refine (lex_Tokens.calls k s T c a _ (HL.out.below (below_alloc (below_alloc (Below.refl _ _) _) _)) HTK.out).mono ?_
 rintro e w1 ⟨v0, rfl, hT, hb⟩
 dsimp only
 have HF1 : Aside0 (w1.heap[gp + 1]? = some (.cells #[.int .i64 0, .int .i64 0] 30 (0, 0))) := ⟨by rw [hgp]; exact blk_below (blk_new2 _ _ _ _ _) hb⟩
 have HP1 : Aside0 (w1.heap[gp]? = some (.cells (polcells (.slice none 0 0) (.slice none 0 0) ⟨#[]⟩ (.slice none 0 0) false) 27 (0, 0))) := ⟨by rw [hgp]; exact blk_below (blk_alloc (blk_new _ _) _) hb⟩
 have HB1 : Aside0 (Below w.heap.size w w1) := ⟨(below_alloc (below_alloc (Below.refl _ _) _) _).trans (hb.mono (below_alloc (below_alloc (Below.refl _ _) _) _).size)⟩
 obtain ⟨A0, c0, e0⟩ := Kd.R_slice hT
 obtain ⟨n0, hn0⟩ : ∃ n0, n0 = T.length := ⟨_, rfl⟩
 rw [← hn0] at e0
 subst e0
 rw [size_two, ← hgp] at hT
 have HT1 := Aside0.mk hT
 have HN0 := Aside0.mk hn0
 have HGP := Aside0.mk hgp
 clear hT hb hn0 
 rw [← hgp]
 clear hgp
 have hput : ∀ (a : Act) (v : Value), a.put none v = a := fun _ _ => rfl
 by_cases hc : c = 0
 ·have l1 : (c != (0 : Int)) = false := by simp [hc]
  subst hc
  go_upto_region 2 with (refine wpList_store_row rfl 30 _ _ rfl (gp + 1) #[.int .i64 0, .int .i64 a] rfl rfl 30 #[.int .i64 0, .int .i64 0] HF1.out size_fault rfl (by simp [Value.oneCell']) ?_)
  obtain ⟨w2, hw2⟩ : ∃ w2, w2 = w1.setRow (gp + 1) #[.int .i64 0, .int .i64 a] := ⟨_, rfl⟩
  rw [← hw2]
  have HF2 : Aside0 (w2.heap[gp + 1]? = some (.cells #[.int .i64 0, .int .i64 a] 30 (0, 0))) := ⟨by rw [hw2]; exact setRow_heap _ _ _ _ _ _ HF1.out⟩
  have HP2 : Aside0 (w2.heap[gp]? = some (.cells (polcells (.slice none 0 0) (.slice none 0 0) ⟨#[]⟩ (.slice none 0 0) false) 27 (0, 0))) := ⟨by rw [hw2]; exact (setRow_other _ _ _ _ (by omega)).trans HP1.out⟩
  have HB2 : Aside0 (Below w.heap.size w w2) := ⟨by rw [hw2]; exact below_setRow HB1.out (by rw [HGP.out]; omega) _⟩
  have HT2 : Aside0 (k40.R 40 w2 (gp + 2) (fun _ => True) (.slice A0 n0 c0) T) := ⟨by rw [hw2]; exact Kd.R_mono (Kd.R_kept (Kd.R_bound HT1.out) (kept_setRow _ _ _) (fun k hk he => by have := hk.2.1; omega)) (fun _ _ => trivial)⟩
  clear hw2
  have t0 : w2.cell? ⟨gp + 1, 0, none⟩ = some (.int .i64 0) := blk_cell HF2.out 0
  have hmm := @run_makeMap Tryd.prog
  go_wp2_with (fail)
  obtain ⟨gm, hgm⟩ : ∃ gm, gm = w2.heap.size := ⟨_, rfl⟩
  obtain ⟨w3, hw3⟩ : ∃ w3, w3 = (w2.alloc (.map #[] 0)).alloc (.cells #[.slice A0 n0 c0, .int .i64 0, .int .i64 s.size, .slice none 0 0, .slice none 0 0, .string wBlock, .slice none 0 0, .bool false, .int .i64 0, .map (some gm), .int .i64 0] 63) := ⟨_, rfl⟩
  have hw3' := hw3
  rw [hgm] at hw3'
  unfold wBlock at hw3'
  rw [← hw3', ← hgm]
  have HG3 : Aside0 (w3.heap[gm + 1]? = some (.cells #[.slice A0 n0 c0, .int .i64 0, .int .i64 s.size, .slice none 0 0, .slice none 0 0, .string wBlock, .slice none 0 0, .bool false, .int .i64 0, .map (some gm), .int .i64 0] 63 (0, 0))) := ⟨by rw [hw3, hgm]; exact blk_newm _ _ _⟩
  have HB3 : Aside0 (Below w2.heap.size w2 w3) := ⟨by rw [hw3]; exact below_alloc (below_alloc (Below.refl _ _) _) _⟩
  have HM3 : Aside0 (Met w3 gm (0 + 0) 0 0) := ⟨by rw [hw3, hgm]; exact (met_made w2).kept (Kept.alloc (Kept.refl _ (fun _ => False)) _) (fun h => h)⟩
  have HGM := Aside0.mk hgm
  clear hw3 hw3' hgm
  obtain ⟨b0, hb0⟩ : ∃ b0 : Pb, b0 = ⟨A0, n0, c0, s.size, .slice none 0 0, .slice none 0 0, .string wBlock, .slice none 0 0, .bool false, .int .i64 0, .map (some gm)⟩ := ⟨_, rfl⟩
  have HTC := Kd.R_reads' HT2.out
  have HS3 : Aside0 (PS w2 w3 (gm + 1) T b0 0 0) := ⟨by rw [hb0]; exact ⟨HG3.out, HB3.out, by rw [HGM.out]; omega, by show k40.C w2 A0 n0 T; rw [HN0.out]; exact HTC.2.2, HN0.out, HTC.2.1, HLN.out, Nat.zero_le _⟩⟩
  have HI3 : Aside0 (IS w2 w3 gm (gm + 1) b0 pst0 gm (fun _ => False) (fun _ => False)) := ⟨by
   rw [hb0]
   exact { rC := Kd.R_nil _ _ _ _ _, rS := Kd.R_nil _ _ _ _ _, rR := Kd.R_nil _ _ _ _ _, dC := fun k hk => by simp [Value.ownBlock] at hk, bS := fun _ h => h.elim, bR := fun _ h => h.elim, ng := by omega, l0 := by rw [HGM.out]; exact Nat.le_refl _, lg := by omega, lm := Nat.le_refl _, e5 := rfl, e7 := rfl, e8 := rfl, e9 := rfl, mt := HM3.out, lC := Nat.le_refl _, lS := Nat.le_refl _, lR := Nat.le_refl _, lI := by decide, lM := by decide, lD := by decide }⟩
  have HBA : Aside0 (b0.A = A0 ∧ b0.n = n0 ∧ b0.c = c0 ∧ b0.e = s.size) := ⟨by rw [hb0]; exact ⟨rfl, rfl, rfl, rfl⟩⟩
  have HR0 : Aside0 (R = itemsP T s.size (T.length + 1) pst0 0) := ⟨by rw [HR.out, polT, if_pos rfl]; rfl⟩
  clear hb0 HTC HG3 HB3 HM3 HR hmm
  go_loopg [] T.length (fun gk wr => ∃ (f : Nat) (st : Pst) (p : Nat) (b : Pb) (okS okR : Nat → Prop), Aside0 (T.length + 1 ≤ f + p) ∧ Aside0 (T.length - p ≤ gk) ∧ Aside0 (R = itemsP T s.size f st p) ∧ Aside0 (b.A = A0 ∧ b.n = n0 ∧ b.c = c0 ∧ b.e = s.size) ∧ Aside0 (PS w2 wr (gm + 1) T b p 0) ∧ Aside0 (IS w2 wr gm (gm + 1) b st gm okS okR))
  case atStart => exact ⟨T.length + 1, pst0, 0, b0, _, _, ⟨Nat.le_refl _⟩, ⟨Nat.sub_le _ _⟩, HR0, HBA, HS3, HI3⟩
  case round =>
   clear HS3 HI3 HBA HR0
   obtain ⟨f, st, p, b, okS, okR, HFB, HGK, HFN, HBA, HS, HJ⟩ := hrel
   have c1 : wr.cell? ⟨gm + 1, 1, none⟩ = some (.int .i64 p) := HS.out.cell 1
   by_cases hp : p < n0
   ·have l1 : decide ((p : Int) < (n0 : Int)) = true := decide_eq_true (by omega)
    have l2 : decide (p < n0) = true := decide_eq_true hp
    have h5 := item_calls w2 wr gm (gm + 1) T b p st gm okS okR HSZ.out HS.out HJ.out
    obtain ⟨r5, hr5⟩ : ∃ r5, r5 = itemP T s.size st p := ⟨_, rfl⟩
    rw [HBA.out.2.2.2, ← hr5] at h5
    have H5 := Aside0.mk h5
    obtain ⟨f', hf'⟩ : ∃ f', f = f' + 1 := ⟨f - 1, by have := HFB.out; have := HN0.out; omega⟩
    have HFK : Aside0 (R = itemsK T s.size f' r5) := ⟨by rw [HFN.out, hf', itemsP_succ (by rw [← HN0.out]; exact hp), ← hr5]⟩
    have HFB' : Aside0 (T.length ≤ f' + p) := ⟨by have := HFB.out; omega⟩
    have HR5 := Aside0.mk hr5
    have HPN : Aside0 (p < T.length) := ⟨by rw [← HN0.out]; exact hp⟩
    clear h5 hr5 hf' HFN HFB
    go_wp2_with fail
    refine H5.out.mono ?_
    cases r5 with
    | error x =>
     have hfx : R = .error x := HFK.out
     rintro e w5 ⟨rfl, hb⟩
     dsimp only
     exact pol_fault w w2 w5 gp _ x R hfx rfl rfl _ _ HP2.out HF2.out rfl rfl hb HB2.out (by rw [HGP.out]; exact Nat.le_refl _)
    | ok x =>
     obtain ⟨st5, q5⟩ := x
     rintro e w5 ⟨rfl, b5, okS5, okR5, e1, e2, e3, e4, hs5, hi5, hk5⟩
     dsimp only
     have HS5 := Aside0.mk hs5
     have HJ5 := Aside0.mk hi5
     have HBA5 : Aside0 (b5.A = A0 ∧ b5.n = n0 ∧ b5.c = c0 ∧ b5.e = s.size) := ⟨⟨e1.trans HBA.out.1, e2.trans HBA.out.2.1, e3.trans HBA.out.2.2.1, e4.trans HBA.out.2.2.2⟩⟩
     have HQ5 : Aside0 (p ≤ q5) := ⟨itemP_mono HR5.out.symm⟩
     clear e1 e2 e3 e4 hs5 hi5 hk5 HS HJ H5 HR5 c1 l1 l2
     have h7 := take_calls w2 w5 (gm + 1) T b5 q5 0 5 HS5.out (by decide)
     obtain ⟨r7, hr7⟩ : ∃ r7, r7 = takeP T s.size 5 q5 := ⟨_, rfl⟩
     rw [HBA5.out.2.2.2, ← hr7] at h7
     have H7 := Aside0.mk h7
     have HFE : Aside0 (R = endK T s.size f' st5 r7) := ⟨by rw [HFK.out, hr7]; rfl⟩
     have HR7 := Aside0.mk hr7
     clear h7 hr7 HFK
     go_wp2_with fail
     refine H7.out.mono ?_
     cases r7 with
     | error x =>
      have hfx : R = .error x := HFE.out
      rintro e w7 ⟨rfl, hb⟩
      dsimp only
      exact pol_fault w w2 w7 gp _ x R hfx rfl rfl _ _ HP2.out HF2.out rfl rfl hb HB2.out (by rw [HGP.out]; exact Nat.le_refl _)
     | ok x =>
      obtain ⟨t7, q7⟩ := x
      rintro e w7 ⟨v7, rfl, rfl, hs7, hk7⟩
      dsimp only
      have HS7 := Aside0.mk hs7
      have HJ7 := Aside0.mk (HJ5.out.kept hk7)
      have HQ7 : Aside0 (q7 = q5 + 1) := ⟨takeP_mono HR7.out.symm⟩
      clear hs7 hk7 HS5 HJ5 H7 HR7
      go_wp2
      go_roundg (T.length - q7)
      case measure => have := HGK.out; have := HQ5.out; have := HQ7.out; have := HPN.out; omega
      case rel => exact ⟨f', st5, q7, b5, okS5, okR5, ⟨by have := HFB'.out; have := HQ5.out; have := HQ7.out; omega⟩, ⟨Nat.le_refl _⟩, ⟨HFE.out⟩, HBA5, HS7, HJ7⟩
   ·have l1 : decide ((p : Int) < (n0 : Int)) = false := decide_eq_false (by omega)
    have l2 : decide (p < n0) = false := decide_eq_false hp
    obtain rfl : R = .ok st := by
     rw [HFN.out]
     cases f with
     | zero => rfl
     | succ f => rw [itemsP, if_neg (by rw [← HN0.out]; exact hp)]
    obtain ⟨A3, k3, e3⟩ := Kd.R_slice HJ.out.rC
    obtain ⟨A4, k4, e4⟩ := Kd.R_slice HJ.out.rS
    obtain ⟨A6, k6, e6⟩ := Kd.R_slice HJ.out.rR
    obtain ⟨v3, hv3⟩ : ∃ v3, v3 = b.v3 := ⟨_, rfl⟩
    obtain ⟨v4, hv4⟩ : ∃ v4, v4 = b.v4 := ⟨_, rfl⟩
    obtain ⟨v6, hv6⟩ : ∃ v6, v6 = b.v6 := ⟨_, rfl⟩
    have HC : Aside0 (v3.oneCell' = true ∧ v4.oneCell' = true ∧ v6.oneCell' = true) := ⟨by rw [hv3, hv4, hv6, e3, e4, e6]; exact ⟨rfl, rfl, rfl⟩⟩
    have c3 : wr.cell? ⟨gm + 1, 3, none⟩ = some v3 := by rw [hv3]; exact HS.out.cell 3
    have c4 : wr.cell? ⟨gm + 1, 4, none⟩ = some v4 := by rw [hv4]; exact HS.out.cell 4
    have c5 : wr.cell? ⟨gm + 1, 5, none⟩ = some (.string st.mixed) := (HS.out.cell 5).trans (congrArg some HJ.out.e5)
    have c6 : wr.cell? ⟨gm + 1, 6, none⟩ = some v6 := by rw [hv6]; exact HS.out.cell 6
    have c7 : wr.cell? ⟨gm + 1, 7, none⟩ = some (.bool st.allow) := (HS.out.cell 7).trans (congrArg some HJ.out.e7)
    have HPr : Aside0 (wr.heap[gp]? = some (.cells (polcells (.slice none 0 0) (.slice none 0 0) ⟨#[]⟩ (.slice none 0 0) false) 27 (0, 0))) := ⟨blk_below HP2.out HS.out.bl⟩
    have HFr : Aside0 (wr.heap[gp + 1]? = some (.cells #[.int .i64 0, .int .i64 a] 30 (0, 0))) := ⟨blk_below HF2.out HS.out.bl⟩
    have HV : Aside0 (∀ c1 c2, PolV ((wr.setRow gp c1).setRow (gp + 1) c2) w.heap.size v3 v4 v6 st) := ⟨fun c1 c2 => by rw [hv3, hv4, hv6]; exact pol_rows w w2 wr gp _ _ b st gm okS okR (blk_lt HF2.out) HB2.out.size HJ.out c1 c2⟩
    have HBr : Aside0 (Below w.heap.size w wr) := ⟨HB2.out.trans (HS.out.bl.mono HB2.out.size)⟩
    clear hv3 hv4 hv6 e3 e4 e6
    go_wp2_with (first | refine wpList_store_row rfl 27 (.tmp 2) (.tmp 40) rfl gp (polcells v3 v4 st.mixed v6 st.allow) rfl rfl 27 _ HPr.out size_pol rfl (pol_one HC.out _ _) ?_ | refine wpList_store_row rfl 30 (.tmp 3) (.tmp 41) rfl (gp + 1) #[.int .i64 0, .int .i64 0] rfl rfl 30 #[.int .i64 0, .int .i64 a] ((setRow_other _ _ _ _ (show gp + 1 ≠ gp by omega)).trans HFr.out) size_fault rfl (by simp [Value.oneCell']) ?_)
    rw [hput, hput]
    clear hput
    refine leaves_cons (f := 20) (args := #[.pointer (some ⟨gp, 0, none⟩), .pointer (some ⟨gp + 1, 0, none⟩)]) (by simp) (by simp [go_sem]) ?_
    refine (catch_idle gp (gp + 1) _).mono ?_
    rintro e u' w'' ⟨rfl, rfl, rfl⟩
    refine ⟨_, pol_results _ _ gp (gp + 1) _ _ rfl rfl ?_ ?_ rfl rfl, v3, v4, v6, rfl, HV.out _ _, ?_⟩
    ·exact (setRow_other _ _ _ _ (show gp ≠ gp + 1 by omega)).trans (setRow_heap _ _ _ _ _ _ HPr.out)
    ·exact setRow_heap _ _ _ _ _ _ ((setRow_other _ _ _ _ (show gp + 1 ≠ gp by omega)).trans HFr.out)
    ·exact below_setRow (below_setRow HBr.out (by rw [HGP.out]; omega) _) (by rw [HGP.out]; omega) _
 ·have l1 : (c != (0 : Int)) = true := by simp [hc]
  obtain rfl : R = .error (c, a) := by rw [HR.out, polT, if_neg hc]
  go_upto_region 2 with (refine wpList_store_row rfl 30 _ _ rfl (gp + 1) #[.int .i64 c, .int .i64 a] rfl rfl 30 #[.int .i64 0, .int .i64 0] HF1.out size_fault rfl (by simp [Value.oneCell']) ?_)
  obtain ⟨w2, hw2⟩ : ∃ w2, w2 = w1.setRow (gp + 1) #[.int .i64 c, .int .i64 a] := ⟨_, rfl⟩
  rw [← hw2]
  have HF2 : Aside0 (w2.heap[gp + 1]? = some (.cells #[.int .i64 c, .int .i64 a] 30 (0, 0))) := ⟨by rw [hw2]; exact setRow_heap _ _ _ _ _ _ HF1.out⟩
  have HP2 : Aside0 (w2.heap[gp]? = some (.cells (polcells (.slice none 0 0) (.slice none 0 0) ⟨#[]⟩ (.slice none 0 0) false) 27 (0, 0))) := ⟨by rw [hw2]; exact (setRow_other _ _ _ _ (by omega)).trans HP1.out⟩
  have HB2 : Aside0 (Below w.heap.size w w2) := ⟨by rw [hw2]; exact below_setRow HB1.out (by rw [HGP.out]; omega) _⟩
  have HT2 : Aside0 (k40.R 40 w2 (gp + 2) (fun _ => True) (.slice A0 n0 c0) T) := ⟨by rw [hw2]; exact Kd.R_mono (Kd.R_kept (Kd.R_bound HT1.out) (kept_setRow _ _ _) (fun k hk he => by have := hk.2.1; omega)) (fun _ _ => trivial)⟩
  clear hw2
  have t0 : w2.cell? ⟨gp + 1, 0, none⟩ = some (.int .i64 c) := blk_cell HF2.out 0
  have t1 : w2.cell? ⟨gp + 1, 1, none⟩ = some (.int .i64 a) := blk_cell HF2.out 1
  go_upto_region 3 with (fail)
  refine region_noP ?_
  refine start_ (n := 4) (S := fun w' => w'.cell? ⟨gp + 1, 0, none⟩ = some (.int .i64 c) ∧ w'.cell? ⟨gp + 1, 1, none⟩ = some (.int .i64 a)) (ds := [3]) #[false, false, false, false] (by kernel_rfl) rfl rfl ⟨t0, t1⟩ (fun hHeld => ?_)
  refine pure_ (i := 0) (N := some 14) (v := ?_) (a' := ?_) #[true, false, false, false] rfl rfl (by kernel_rfl) (fun _ _ _ h => h) (Or.inl ⟨by rfl, ?_⟩) ?_ ?_
  rotate_left
  ·exact sTe6_0
  rotate_left
  ·exact nTe6_
  refine take_ (i := 1) (N := some 15) (v := ?_) (a' := ?_) #[true, true, false, false] rfl rfl (by kernel_rfl) (fun _ _ _ h => h) (Or.inl ⟨by rfl, ?_⟩) hHeld ?_ ?_
  rotate_left
  ·rintro w' ⟨s0, s1⟩
   go_simp
   with_reducible rfl
  rotate_left
  ·exact nTe6_
  refine one_ (i := 2) (N := none) #[true, true, true, false] rfl rfl (by kernel_rfl) (by decide) (fun K hK => ?_)
  refine QT.storeRow_ (by rfl) rfl 27 (.tmp 2) (.tmp 14) rfl gp #[.slice none 0 0, .slice none 0 0, .string ⟨#[]⟩, .slice none 0 0, .bool false] rfl rfl 27 _ HP2.out (by kernel_rfl) rfl (by simp [Value.oneCell']) ?_
  refine hK.out _ _ ⟨(cell_setRow_other _ _ _ _ (show gp + 1 ≠ gp by omega)).trans hHeld.1, (cell_setRow_other _ _ _ _ (show gp + 1 ≠ gp by omega)).trans hHeld.2⟩ (fun hHeld => ?_)
  clear hK K
  refine last_ (i := 3) (N := none) #[true, true, true, true] rfl rfl (by kernel_rfl) (by decide) (fun K hK => ?_)
  refine QT.storeRow_ (by rfl) rfl 30 (.tmp 3) (.tmp 15) rfl (gp + 1) #[.int .i64 c, .int .i64 a] rfl rfl 30 #[.int .i64 c, .int .i64 a] ((setRow_other _ _ _ _ (show gp + 1 ≠ gp by omega)).trans HF2.out) (by kernel_rfl) rfl (by simp [Value.oneCell']) ?_
  refine hK.out _ _ ?_
  clear hK K
  refine done_ (by kernel_rfl) ?_

  rw [hput, hput]
  clear hput
  dsimp only [NoP, Exit.then]
  go_wp2
  refine ⟨_, pol_results _ _ gp (gp + 1) _ _ rfl rfl ?_ ?_ rfl rfl, rfl, ?_⟩
  ·exact (setRow_other _ _ _ _ (show gp ≠ gp + 1 by omega)).trans (setRow_heap _ _ _ _ _ _ HP2.out)
  ·exact setRow_heap _ _ _ _ _ _ ((setRow_other _ _ _ _ (show gp + 1 ≠ gp by omega)).trans HF2.out)
  ·exact below_setRow (below_setRow (below_drew HB2.out) (by rw [HGP.out]; omega) _) (by rw [HGP.out]; omega) _
def okTk (T : List Tk) : Bool := decide (T.length ≤ 1000000) && T.all (fun t => decide (t.f2.size ≤ 1000000))
theorem okTk_iff {T : List Tk} : okTk T = true ↔ T.length ≤ 1000000 ∧ ∀ t ∈ T, t.f2.size ≤ 1000000 := by
 simp [okTk]
def polRes : Except (Int × Int) Pst → List ByteArray × List Sh × ByteArray × List Rl × Bool × Int × Int
 | .ok s => (s.csp, s.shares, s.mixed, s.rules, s.allow, 0, 0)
 | .error f => ([], [], ⟨#[]⟩, [], false, f.1, f.2)
end Go.Proofs.YtngedmioeodmfaaDoor.Ps
namespace Go.Proofs.YtngedmioeodmfaaDoor.Pr
open Go.RowKit Go.Proofs.YtngedmioeodmfaaDoorW.PrintWords Go.Proofs.YtngedmioeodmfaaDoorW.PrintLast Go.Proofs.YtngedmioeodmfaaDoorW.PrintMore
attribute [local go_sem] max2_int min2_int max_two min_two max_three min_three max_four min_four
end Go.Proofs.YtngedmioeodmfaaDoor.Pr
namespace Go.Proofs.YtngedmioeodmfaaDoor.Pr
open Go.RowKit Go.Proofs.YtngedmioeodmfaaDoorW.PrintWords Go.Proofs.YtngedmioeodmfaaDoorW.PrintLast Go.Proofs.YtngedmioeodmfaaDoorW.PrintMore
attribute [local go_sem] max2_int min2_int max_two min_two max_three min_three max_four min_four
end Go.Proofs.YtngedmioeodmfaaDoor.Pr
namespace Go.Proofs.YtngedmioeodmfaaDoor.Pu
open Go.RowKit Go.Proofs.YtngedmioeodmfaaDoor.Pr Go.Proofs.YtngedmioeodmfaaDoorW.PrintWords Go.Proofs.YtngedmioeodmfaaDoor.Lx
open Go.Proofs.YtngedmioeodmfaaDoor.Ps hiding Tk
theorem text_le {t : Tk} {bs : List Int} {a : Nat} {rest : List Int} (h : bs.drop a = wof t ++ rest) : t.f2.size ≤ bs.length := by
 have h1 := congrArg List.length h
 rw [List.length_drop, List.length_append] at h1
 have h2 : t.f2.size ≤ (wof t).length := by
  unfold wof
  split
  ·have := escL_ge (bytesOf t.f2)
   rw [bytesOf_length] at this
   simp only [List.length_cons, List.length_append]; omega
  ·rw [bytesOf_length]; exact Nat.le_refl _
 omega
theorem toks_len {x : ByteArray} {ts : List Tk} (h : sm 0 .sk [] (bytesOf x) = .good ts) : ts.length ≤ x.size := by
 have := (placed x ts h).len (Nat.zero_le _)
 rw [bytesOf_length] at this; omega
theorem toks_text {x : ByteArray} {ts : List Tk} (h : sm 0 .sk [] (bytesOf x) = .good ts) : ∀ t ∈ ts, t.f2.size ≤ x.size := by
 intro t ht
 obtain ⟨_, a, rest, hd⟩ := (placed x ts h).all t ht
 have := text_le hd
 rw [bytesOf_length] at this; exact this
theorem okTk_tokM (x : ByteArray) : okTk (tokM x).1 = true := by
 rcases tokM_cases x with ⟨ts, h, hs, hv, hl⟩ | ⟨j, h, hj⟩ | ⟨h, hl⟩
 ·rw [h]
  exact okTk_iff.2 ⟨by show ts.length ≤ 1000000; have := toks_len hs; omega, fun t ht => by have := toks_text hs t ht; omega⟩
 ·rw [h]; rfl
 ·rw [h]; rfl
def polA (x : ByteArray) : Except (Int × Int) Pst := polT x.size (tokM x)
def awakeT : ByteArray := ⟨#[97, 108, 108, 111, 119, 32, 105, 102, 32, 110, 111, 116, 32, 104, 111, 115, 116, 32, 34, 97, 34, 32, 97, 110, 100, 32, 40, 99, 114, 101, 100, 115, 32, 111, 114, 32, 99, 111, 114, 115, 41, 59]⟩
end Go.Proofs.YtngedmioeodmfaaDoor.Pu
namespace Go.Proofs.YtngedmioeodmfaaDoor.Pu
open Go.RowKit Go.Proofs.YtngedmioeodmfaaDoor.Pr Go.Proofs.YtngedmioeodmfaaDoorW.PrintWords Go.Proofs.YtngedmioeodmfaaDoor.Lx
open Go.Proofs.YtngedmioeodmfaaDoor.Ps hiding Tk
abbrev Ky := Int × ByteArray
section
variable {T : List Tk} {e : Int} {p : Nat} {ws : List Ky}
theorem mem_of_B {t : ByteArray} {l : List ByteArray} : memB t l = true ↔ t ∈ l := by simp [memB]
end
end Go.Proofs.YtngedmioeodmfaaDoor.Pu
namespace Go.Proofs.YtngedmioeodmfaaDoor.Pr
open Go.RowKit Go.Proofs.YtngedmioeodmfaaDoorW.PrintWords Go.Proofs.YtngedmioeodmfaaDoorW.PrintLast Go.Proofs.YtngedmioeodmfaaDoorW.PrintMore
attribute [local go_sem] max2_int min2_int max_two min_two max_three min_three max_four min_four
attribute [local go_sem high] eqA30
mutual
def parse_Depth.l0 : Nat → Int → List (S49) → Int → Int → Option (Int)
 | 0, _, _, _, _ => none
 | k + 1, x3, x7, x8, x9 => if x9 < x8 then (if 0 ≤ x9 then (if x9 < (x7.length : Int) then ((parse_Depth.f k ((rd_T49 x7 x9).f0) ((rd_T49 x7 x9).f1.f0) ((rd_T49 x7 x9).f1.f1) ((rd_T49 x7 x9).f2)).bind fun t250 => (parse_Depth.l0 k (mx x3 t250) x7 x8 (wrap64 (x9 + 1)))) else (none)) else (none)) else (some (wrap64 (x3 + 1)))
def parse_Depth.f : Nat → Int → ByteArray → ByteArray → List (S49) → Option (Int)
 | 0, _, _, _, _ => none
 | k + 1, a0_0, a0_1, a0_2, l0_3 => parse_Depth.l0 k 0 l0_3 (l0_3.length : Int) 0
end
set_option maxHeartbeats 8000000 in
set_option maxRecDepth 100000 in
theorem parse_Depth.calls (k : Nat) : ∀ (a0_0 : Int) (a0_1 : ByteArray) (a0_2 : ByteArray) (A0_3 : Option Addr) (c0_3 : Nat) (l0_3 : List (S49)) (r : Int) (w : World) (hr0_3 : Kd.C k49 w A0_3 l0_3.length l0_3) (hc0_3 : l0_3.length ≤ c0_3) (h : parse_Depth.f k a0_0 a0_1 a0_2 l0_3 = some r),
  Calls Tryd.prog 16 #[.agg #[.int .i64 a0_0, .string a0_1, .string a0_2, .slice A0_3 l0_3.length c0_3]] w fun e w' => e = .returned (.int .i64 r) ∧ Below w.heap.size w w' := by
 induction k using Nat.strongRecOn with
 | _ k ih =>
 intro a0_0 a0_1 a0_2 A0_3 c0_3 l0_3 r w hr0_3 hc0_3 h
 cases k with
 | zero => exact absurd h (by simp [parse_Depth.f])
 | succ k =>
 simp only [parse_Depth.f] at h
 have hu49 := Tryd.underlying49
 have HR0_3 := Aside0.mk hr0_3
 have HC0_3 := Aside0.mk hc0_3
 clear hr0_3 hc0_3
 have HB := Aside0.mk (Below.refl w.heap.size w)
 have H : (parse_Depth.l0 k 0 l0_3 (l0_3.length : Int) 0) = some r := h
 clear h
 have H' := Aside0.mk H
 clear H
 go_enter Tryd.func16, Tryd.ntmps16
 go_wp2_with (first | ((with_reducible refine gate_dst (N := 1) rfl ?_); refine box_event ?hg (N := 1) ?hd (cs := #[.int .i64 a0_0, .string a0_1, .string a0_2, .slice A0_3 l0_3.length c0_3]) (t := 49) ?hr ?_; (case hd => rfl); (case hg => rfl); (case hr => first | (go_simp; done) | (go_simp; rfl)); intro gb247 hg w2 hbox hb; have n0_ := Aside0.mk (below_step (by repeat (first | (with_reducible first | exact HB.out | apply below_alloc | apply pw_below_drewN | apply below_drew1) | exact HB.out)) hb); have n1_ := Aside0.mk (hbox); have n2_ := Aside0.mk ((by rw [hg]; exact (below_size (by repeat (first | (with_reducible first | exact HB.out | apply below_alloc | apply pw_below_drewN | apply below_drew1) | exact HB.out))) : w.heap.size ≤ gb247)); have n3_ := Aside0.mk ((by rw [hg]; exact (below_size (by repeat (first | (with_reducible first | exact HB.out | apply below_alloc | apply pw_below_drewN | apply below_drew1) | exact HB.out))) : w.heap.size ≤ gb247)); clear HB; have HB := n0_; have BK247 := n1_; have GW247 := n2_; have GE247 := n3_; clear n0_ n1_ n2_ n3_; clear hb hbox hg; have hcz3_0 : w2.cell? ⟨gb247, 0, none⟩ = some (.int .i64 a0_0) := (blk_cell BK247.out 0).trans rfl; have hcz3_1 : w2.cell? ⟨gb247, 1, none⟩ = some (.string a0_1) := (blk_cell BK247.out 1).trans rfl; have hcz3_2 : w2.cell? ⟨gb247, 2, none⟩ = some (.string a0_2) := (blk_cell BK247.out 2).trans rfl; have hcz3_3 : w2.cell? ⟨gb247, 3, none⟩ = some (.slice A0_3 l0_3.length c0_3) := (blk_cell BK247.out 3).trans rfl; have hfz3_0 := blk_frozen BK247.out 0; have hfz3_1 := blk_frozen BK247.out 1; have hfz3_2 := blk_frozen BK247.out 2; have hfz3_3 := blk_frozen BK247.out 3))
 go_loopg [3, 9] k (fun kq v3 v9 w' => ∃ (x3_1 : Int) (x9_1 : Int), v3 = .int .i64 x3_1 ∧ v9 = .int .i64 x9_1 ∧ Aside0 (parse_Depth.l0 kq x3_1 l0_3 (l0_3.length : Int) x9_1 = some r) ∧ Aside0 (kq ≤ k) ∧ Aside0 (w'.heap[gb247]? = some (.cells #[.int .i64 a0_0, .string a0_1, .string a0_2, (.slice A0_3 l0_3.length c0_3)] 49 (0, 0))) ∧ Aside0 (Below w.heap.size w w'))
 case atStart => exact ⟨(0), (0), (by first | rfl | (simp; done) | (simp [*]; done)), (by first | rfl | (simp; done) | (simp [*]; done)), H', ⟨Nat.le_refl _⟩, ⟨by (with_reducible repeat (first | refine blk_drewN ?_ _ | refine blk_drew ?_ | refine blk_alloc ?_ _)); exact BK247.out⟩, ⟨by repeat (first | (with_reducible first | exact HB.out | apply below_alloc | apply pw_below_drewN | apply below_drew1 | refine below_set ?_ GE247.out) | exact HB.out)⟩⟩
 case round =>
  clear H'
  try clear c1
  try clear p2
  try clear hcz3_0
  try clear hcz3_1
  try clear hcz3_2
  try clear hcz3_3
  try clear hfz3_0
  try clear hfz3_1
  try clear hfz3_2
  try clear hfz3_3
  obtain ⟨x3_1, x9_1, rfl, rfl, HA, HK1, BK247, HB⟩ := hrel
  cases gk with
  | zero => exact absurd HA.out (by simp [parse_Depth.l0])
  | succ k1 =>
   have H := HA.out
   clear HA
   simp only [parse_Depth.l0] at H
   by_cases c4 : x9_1 < (l0_3.length : Int)
   ·rw [if_pos c4] at H
    have c4b0 : decide (x9_1 < (l0_3.length : Int)) = true := decide_eq_true c4
    clear c4
    by_cases c5 : 0 ≤ x9_1
    ·rw [if_pos c5] at H
     have c5b0 : decide (0 ≤ x9_1) = true := decide_eq_true c5
     clear c5
     by_cases c6 : x9_1 < (l0_3.length : Int)
     ·rw [if_pos c6] at H
      have c6b0 : decide (x9_1 < (l0_3.length : Int)) = true := decide_eq_true c6
      clear c6
      replace H := Option.bind_eq_some_iff.mp H
      obtain ⟨t250, A70, H⟩ := H
      replace H : (parse_Depth.l0 k1 (mx x3_1 t250) l0_3 (l0_3.length : Int) (wrap64 (x9_1 + 1))) = some r := H
      have A7 := Aside0.mk A70
      clear A70
      obtain ⟨ji8, hji8⟩ : ∃ j_ : Int, (mx x3_1 t250) = j_ := ⟨_, rfl⟩
      replace H : (parse_Depth.l0 k1 ji8 l0_3 (l0_3.length : Int) (wrap64 (x9_1 + 1))) = some r := by first | (rw [hji8] at H; exact H) | (simp only [hji8] at H ⊢; exact H)
      (try rw [hji8] at A7)
      have hji8_ : (if x3_1 < t250 then t250 else x3_1) = ji8 := hji8
      have H' := Aside0.mk H
      clear H
      have p248 : 0 ≤ (x9_1 : Int) := of_decide_eq_true (by first | (with_reducible assumption) | assumption)
      have q248 : x9_1 < (l0_3.length : Int) := of_decide_eq_true (by first | (with_reducible assumption) | assumption)
      obtain ⟨ad248, A248_3, c248_3, e248, hx248_0, hx248_1, hx248_2, hx248_3, hl248_3, hi248_3⟩ := at_T49 HR0_3.out x9_1 p248 q248
      cases e248
      replace hx248_0 := (HB.out.cell (World.block_lt_of_cell? w _ hx248_0)).trans hx248_0
      replace hx248_1 := (HB.out.cell (World.block_lt_of_cell? w _ hx248_1)).trans hx248_1
      replace hx248_2 := (HB.out.cell (World.block_lt_of_cell? w _ hx248_2)).trans hx248_2
      replace hx248_3 := (HB.out.cell (World.block_lt_of_cell? w _ hx248_3)).trans hx248_3
      have HR248_3 := Aside0.mk hi248_3
      have HC248_3 := Aside0.mk hl248_3
      clear hi248_3 hl248_3
      replace p248 := eq_true p248
      replace q248 := eq_true q248
      go_wp2_with (first | ((with_reducible refine gate_dst (N := 5) rfl ?_); refine box_event ?hg (N := 5) ?hd (cs := #[.int .i64 0, .string (⟨#[]⟩ : ByteArray), .string (⟨#[]⟩ : ByteArray), .slice none 0 0]) (t := 49) ?hr ?_; (case hd => rfl); (case hg => rfl); (case hr => first | (go_simp; done) | (go_simp; rfl)); intro gb249 hg w9 hbox hb; have n0_ := Aside0.mk (blk_below (g := gb247) (o := .cells #[.int .i64 a0_0, .string a0_1, .string a0_2, .slice (some ad248) l0_3.length c0_3] 49 (0, 0)) (by (with_reducible repeat (first | refine blk_drewN ?_ _ | refine blk_drew ?_ | refine blk_alloc ?_ _)); exact BK247.out) hb); have n1_ := Aside0.mk (below_step (by repeat (first | (with_reducible first | exact HB.out | apply below_alloc | apply pw_below_drewN | apply below_drew1 | refine below_set ?_ GE247.out) | exact HB.out)) hb); have n2_ := Aside0.mk (hbox); have n3_ := Aside0.mk ((by rw [hg]; exact (below_size (by repeat (first | (with_reducible first | exact HB.out | apply below_alloc | apply pw_below_drewN | apply below_drew1 | refine below_set ?_ GE247.out) | exact HB.out))) : w.heap.size ≤ gb249)); have n4_ := Aside0.mk ((by rw [hg]; exact (below_size (by repeat (first | (with_reducible first | exact HB.out | apply below_alloc | apply pw_below_drewN | apply below_drew1 | refine below_set ?_ GE247.out) | exact HB.out))) : w.heap.size ≤ gb249)); have n5_ := Aside0.mk ((by rw [hg]; exact Nat.ne_of_lt (blk_lt (g := gb247) (o := .cells #[.int .i64 a0_0, .string a0_1, .string a0_2, .slice (some ad248) l0_3.length c0_3] 49 (0, 0)) (by (with_reducible repeat (first | refine blk_drewN ?_ _ | refine blk_drew ?_ | refine blk_alloc ?_ _)); exact BK247.out)) : gb247 ≠ gb249)); have n6_ := Aside0.mk ((by rw [hg]; exact Nat.ne_of_gt (blk_lt (g := gb247) (o := .cells #[.int .i64 a0_0, .string a0_1, .string a0_2, .slice (some ad248) l0_3.length c0_3] 49 (0, 0)) (by (with_reducible repeat (first | refine blk_drewN ?_ _ | refine blk_drew ?_ | refine blk_alloc ?_ _)); exact BK247.out)) : gb249 ≠ gb247)); clear BK247; clear HB; have BK247 := n0_; have HB := n1_; have BK249 := n2_; have GW249 := n3_; have GE249 := n4_; have NB247_249 := n5_; have NB249_247 := n6_; clear n0_ n1_ n2_ n3_ n4_ n5_ n6_; clear hb hbox hg; have hnb10 := NB249_247.out; have hnc10 := NB247_249.out; have hcz11_0 : w9.cell? ⟨gb249, 0, none⟩ = some (.int .i64 0) := (blk_cell BK249.out 0).trans rfl; have hcz11_1 : w9.cell? ⟨gb249, 1, none⟩ = some (.string (⟨#[]⟩ : ByteArray)) := (blk_cell BK249.out 1).trans rfl; have hcz11_2 : w9.cell? ⟨gb249, 2, none⟩ = some (.string (⟨#[]⟩ : ByteArray)) := (blk_cell BK249.out 2).trans rfl; have hcz11_3 : w9.cell? ⟨gb249, 3, none⟩ = some (.slice none 0 0) := (blk_cell BK249.out 3).trans rfl; have hfz11_0 := blk_frozen BK249.out 0; have hfz11_1 := blk_frozen BK249.out 1; have hfz11_2 := blk_frozen BK249.out 2; have hfz11_3 := blk_frozen BK249.out 3) | ((with_reducible refine gate_callee (f := 16) rfl ?_); refine goesL_ (some 15) rfl rfl Tryd.func16 (by kernel_rfl) rfl #[.agg #[.int .i64 ((rd_T49 l0_3 x9_1).f0), .string ((rd_T49 l0_3 x9_1).f1.f0), .string ((rd_T49 l0_3 x9_1).f1.f1), .slice A248_3 ((rd_T49 l0_3 x9_1).f2).length c248_3]] rfl (by (try simp only [List.map_toArray, List.map_cons, List.map_nil]); first | done | rfl | (simp only [List.length_drop, List.length_take]; rfl)) ?_; (with_reducible refine (ih k1 (by have := HK1.out; omega) ((rd_T49 l0_3 x9_1).f0) ((rd_T49 l0_3 x9_1).f1.f0) ((rd_T49 l0_3 x9_1).f1.f1) _ _ ((rd_T49 l0_3 x9_1).f2) t250 _ ?side1 ?side2 A7.out).mono ?_); (case side1 => exact Kd.C_below HR248_3.out (by repeat (first | (with_reducible first | exact HB.out | apply below_alloc | apply pw_below_drewN | apply below_drew1 | refine below_set ?_ GE247.out | refine below_set ?_ GE249.out) | exact HB.out))); (case side2 => exact HC248_3.out); rintro e w12 ⟨rfl, hb⟩; refine ⟨_, rfl, ?_⟩; have n0_ := Aside0.mk (blk_below (g := gb247) (o := .cells #[.int .i64 a0_0, .string a0_1, .string a0_2, .slice (some ad248) l0_3.length c0_3] 49 (0, 0)) (by (with_reducible repeat (first | refine blk_drewN ?_ _ | refine blk_drew ?_ | refine blk_alloc ?_ _)); refine blk_far ?_ NB247_249.out _; (with_reducible repeat (first | refine blk_drewN ?_ _ | refine blk_drew ?_ | refine blk_alloc ?_ _)); refine blk_far ?_ NB247_249.out _; (with_reducible repeat (first | refine blk_drewN ?_ _ | refine blk_drew ?_ | refine blk_alloc ?_ _)); refine blk_far ?_ NB247_249.out _; (with_reducible repeat (first | refine blk_drewN ?_ _ | refine blk_drew ?_ | refine blk_alloc ?_ _)); refine blk_far ?_ NB247_249.out _; (with_reducible repeat (first | refine blk_drewN ?_ _ | refine blk_drew ?_ | refine blk_alloc ?_ _)); exact BK247.out) hb); have n1_ := Aside0.mk (blk_below (g := gb249) (o := .cells #[.int .i64 ((rd_T49 l0_3 x9_1).f0), .string ((rd_T49 l0_3 x9_1).f1.f0), .string ((rd_T49 l0_3 x9_1).f1.f1), .slice A248_3 ((rd_T49 l0_3 x9_1).f2).length c248_3] 49 (0, 0)) (by (with_reducible repeat (first | refine blk_drewN ?_ _ | refine blk_drew ?_ | refine blk_alloc ?_ _)); refine blk_put (cs := #[.int .i64 ((rd_T49 l0_3 x9_1).f0), .string ((rd_T49 l0_3 x9_1).f1.f0), .string ((rd_T49 l0_3 x9_1).f1.f1), .slice none 0 0]) ?_ 3 _ rfl; (with_reducible repeat (first | refine blk_drewN ?_ _ | refine blk_drew ?_ | refine blk_alloc ?_ _)); refine blk_put (cs := #[.int .i64 ((rd_T49 l0_3 x9_1).f0), .string ((rd_T49 l0_3 x9_1).f1.f0), .string (⟨#[]⟩ : ByteArray), .slice none 0 0]) ?_ 2 _ rfl; (with_reducible repeat (first | refine blk_drewN ?_ _ | refine blk_drew ?_ | refine blk_alloc ?_ _)); refine blk_put (cs := #[.int .i64 ((rd_T49 l0_3 x9_1).f0), .string (⟨#[]⟩ : ByteArray), .string (⟨#[]⟩ : ByteArray), .slice none 0 0]) ?_ 1 _ rfl; (with_reducible repeat (first | refine blk_drewN ?_ _ | refine blk_drew ?_ | refine blk_alloc ?_ _)); refine blk_put (cs := #[.int .i64 0, .string (⟨#[]⟩ : ByteArray), .string (⟨#[]⟩ : ByteArray), .slice none 0 0]) ?_ 0 _ rfl; (with_reducible repeat (first | refine blk_drewN ?_ _ | refine blk_drew ?_ | refine blk_alloc ?_ _)); exact BK249.out) hb); have n2_ := Aside0.mk (below_step (by repeat (first | (with_reducible first | exact HB.out | apply below_alloc | apply pw_below_drewN | apply below_drew1 | refine below_set ?_ GE247.out | refine below_set ?_ GE249.out) | exact HB.out)) hb); clear BK247; clear BK249; clear HB; have BK247 := n0_; have BK249 := n1_; have HB := n2_; clear n0_ n1_ n2_; (try clear hb); (try clear hb2); (try clear hk); (try clear hi)))
      go_roundg k1
      case measure => have := HK1.out; omega
      case rel => exact ⟨(ji8), (wrap64 (x9_1 + 1)), (by first | rfl | (simp; done) | (simp only [← hji8] <;> (first | rfl | simp)) | (simp [*]; done)), (by first | rfl | (simp; done) | (simp [*]; done)), H', ⟨by have := HK1.out; omega⟩, ⟨by (with_reducible repeat (first | refine blk_drewN ?_ _ | refine blk_drew ?_ | refine blk_alloc ?_ _)); exact BK247.out⟩, ⟨by repeat (first | (with_reducible first | exact HB.out | apply below_alloc | apply pw_below_drewN | apply below_drew1 | refine below_set ?_ GE247.out | refine below_set ?_ GE249.out) | exact HB.out)⟩⟩
     ·rw [if_neg c6] at H
      exact absurd H (by simp)
    ·rw [if_neg c5] at H
     exact absurd H (by simp)
   ·rw [if_neg c4] at H
    have c4b0 : decide (x9_1 < (l0_3.length : Int)) = false := decide_eq_false c4
    clear c4
    obtain rfl := Option.some.inj H
    go_wp2
    go_ret
    exact ⟨by first | rfl | (simp [errW_none, errW_some] <;> rfl) | (simp [*, errW_none, errW_some] <;> rfl), by repeat (first | (with_reducible first | exact HB.out | apply below_alloc | apply pw_below_drewN | apply below_drew1 | refine below_set ?_ GE247.out) | exact HB.out)⟩
end Go.Proofs.YtngedmioeodmfaaDoor.Pr
namespace Go.Proofs.YtngedmioeodmfaaDoor.Pu
open Go.RowKit Go.Proofs.YtngedmioeodmfaaDoor.Pr Go.Proofs.YtngedmioeodmfaaDoorW.PrintWords Go.Proofs.YtngedmioeodmfaaDoor.Lx
open Go.Proofs.YtngedmioeodmfaaDoor.Ps hiding Tk
section
variable {T : List Tk} {e : Int}
theorem wrapNot_ok {r : Res Cd} {x : Cd × Nat} (h : wrapNot r = .ok x) : ∃ c q, r = .ok (c, q) ∧ x = (cond0 4 [c], q) := by
 cases r with
 | error y => cases h
 | ok y => obtain ⟨c, q⟩ := y; simp only [wrapNot] at h; exact ⟨c, q, rfl, (Except.ok.inj h).symm⟩
theorem closeP_ok {r : Res Cd} {x : Cd × Nat} (h : closeP T e r = .ok x) : ∃ c q, r = .ok (c, q) ∧ closeK c (takeP T e 4 q) = .ok x := by
 cases r with
 | error y => cases h
 | ok y => obtain ⟨c, q⟩ := y; exact ⟨c, q, rfl, h⟩
theorem atomK_ge {w : ByteArray} {q : Nat} {c : Cd} {r : Nat} (h : atomK T e w q = .ok (c, r)) : q ≤ r := by
 unfold atomK at h
 split at h
 ·cases h; exact Nat.le_refl _
 split at h
 ·cases h; exact Nat.le_refl _
 split at h
 ·obtain ⟨t, ht⟩ := atomT_mono h; have := takeP_mono ht; omega
 split at h
 ·obtain ⟨t, ht⟩ := atomT_mono h; have := takeP_mono ht; omega
 split at h
 ·obtain ⟨t, ht⟩ := atomT_mono h; have := takeP_mono ht; omega
 ·cases h; exact Nat.le_refl _
theorem atomP_gt {p : Nat} {c : Cd} {q : Nat} (h : atomP T e p = .ok (c, q)) : p < q := by
 rw [atomP] at h
 cases h1 : wordP T e atomWords p with
 | error x => rw [h1] at h; cases h
 | ok x =>
  obtain ⟨w, q1⟩ := x
  have := wordP_mono h1
  rw [h1] at h
  have := atomK_ge h
  omega
end
end Go.Proofs.YtngedmioeodmfaaDoor.Pu
namespace Go.Proofs.YtngedmioeodmfaaDoor.Pr
open Go.RowKit Go.Proofs.YtngedmioeodmfaaDoorW.PrintWords Go.Proofs.YtngedmioeodmfaaDoorW.PrintLast Go.Proofs.YtngedmioeodmfaaDoorW.PrintMore
attribute [local go_sem] max2_int min2_int max_two min_two max_three min_three max_four min_four
attribute [local go_sem high] eqA30
end Go.Proofs.YtngedmioeodmfaaDoor.Pr
namespace Go.Proofs.YtngedmioeodmfaaDoor.Pr
open Go.RowKit Go.Proofs.YtngedmioeodmfaaDoorW.PrintWords Go.Proofs.YtngedmioeodmfaaDoorW.PrintLast Go.Proofs.YtngedmioeodmfaaDoorW.PrintMore
attribute [local go_sem] max2_int min2_int max_two min_two max_three min_three max_four min_four
end Go.Proofs.YtngedmioeodmfaaDoor.Pr
namespace Go.Proofs.YtngedmioeodmfaaDoor.Pu
open Go.RowKit Go.Proofs.YtngedmioeodmfaaDoor.Pr Go.Proofs.YtngedmioeodmfaaDoorW.PrintWords Go.Proofs.YtngedmioeodmfaaDoor.Lx
open Go.Proofs.YtngedmioeodmfaaDoor.Ps hiding Tk
mutual
def sizeC : S49 → Nat
 | ⟨_, _, l⟩ => 1 + sizeL l
def sizeL : List (S49) → Nat
 | [] => 0
 | c :: l => sizeC c + sizeL l
end
theorem sizeC_eq (c : Cd) : sizeC c = 1 + sizeL c.f2 := by cases c; rw [sizeC]
theorem sizeL_app : ∀ a b : List Cd, sizeL (a ++ b) = sizeL a + sizeL b
 | [], b => by rw [List.nil_append, sizeL]; omega
 | c :: a, b => by rw [List.cons_append, sizeL, sizeL, sizeL_app a b]; omega
theorem sizeL_len : ∀ l : List Cd, l.length ≤ sizeL l
 | [] => Nat.zero_le _
 | c :: l => by rw [sizeL, List.length_cons, sizeC_eq]; have := sizeL_len l; omega
theorem size_mem : ∀ {l : List Cd} {c : Cd}, c ∈ l → sizeC c ≤ sizeL l
 | d :: l, c, h => by
  rw [sizeL]
  rcases List.mem_cons.1 h with rfl | h
  ·omega
  ·have := size_mem h; omega
section
variable {T : List Tk} {e : Int}
def Sized (f : Nat → Res Cd) : Prop := ∀ p c q, f p = .ok (c, q) → sizeC c + p ≤ q
theorem kidsL_size {one : Nat → Res Cd} (h : Sized one) {w : ByteArray} : ∀ (f : Nat) (acc : List Cd) (p : Nat) (l : List Cd) (q : Nat), kidsL T e one w f acc p = .ok (l, q) → sizeL l + p + l.length ≤ sizeL acc + q + acc.length
 | 0, acc, p, l, q, hr => by cases hr; omega
 | f + 1, acc, p, l, q, hr => by
  rw [kidsL] at hr
  split at hr
  ·cases h1 : one (p + 1) with
   | error x => rw [h1] at hr; cases hr
   | ok x =>
    obtain ⟨c, q1⟩ := x
    rw [h1] at hr
    have := h _ _ _ h1
    have := kidsL_size h f _ _ _ _ hr
    rw [sizeL_app, List.length_append, List.length_singleton, sizeL, sizeL] at this
    omega
  ·cases hr; omega
theorem kidsL_more {one : Nat → Res Cd} {w : ByteArray} : ∀ {f : Nat} {acc : List Cd} {p : Nat} {l : List Cd} {q : Nat}, kidsL T e one w f acc p = .ok (l, q) → acc.length ≤ l.length
 | 0, acc, p, l, q, hr => by cases hr; exact Nat.le_refl _
 | f + 1, acc, p, l, q, hr => by
  rw [kidsL] at hr
  split at hr
  ·cases h1 : one (p + 1) with
   | error x => rw [h1] at hr; cases hr
   | ok x =>
    obtain ⟨c, q1⟩ := x
    rw [h1] at hr
    have := kidsL_more hr
    rw [List.length_append] at this
    omega
  ·cases hr; exact Nat.le_refl _
theorem kidsP_size {one : Nat → Res Cd} (h : Sized one) {w : ByteArray} {kind : Int} : Sized (kidsP T e kind w one) := by
 intro p c q hr
 rw [kidsP] at hr
 cases h1 : one p with
 | error x => rw [h1] at hr; cases hr
 | ok x =>
  obtain ⟨c1, q1⟩ := x
  rw [h1] at hr
  have hs := h _ _ _ h1
  simp only at hr
  cases hk : kidsL T e one w (T.length + 1 - q1) [c1] q1 with
  | error x => rw [hk] at hr; cases hr
  | ok y =>
   obtain ⟨l, q2⟩ := y
   rw [hk] at hr
   have hl := kidsL_size h _ _ _ _ _ hk
   simp only [sizeL, List.length_singleton] at hl
   simp only at hr
   split at hr
   ·rename_i h1l
    have h3 := Except.ok.inj hr; simp only [Prod.mk.injEq] at h3
    obtain ⟨x, rfl⟩ : ∃ x, l = [x] := List.length_eq_one_iff.1 h1l
    rw [← h3.1, ← h3.2]
    simp only [sizeL, List.length_singleton] at hl
    show sizeC x + p ≤ q2
    omega
   ·rename_i h1l
    have h3 := Except.ok.inj hr; simp only [Prod.mk.injEq] at h3
    rw [← h3.1, ← h3.2, cond0, sizeC]
    have hge : 1 ≤ l.length := by
     have := kidsL_more hk
     simpa using this
    omega
theorem atomP_size : Sized (atomP T e) := by
 intro p c q h
 have hg := atomP_gt h
 have : sizeC c = 1 := by
  rw [atomP] at h
  cases h1 : wordP T e atomWords p with
  | error x => rw [h1] at h; cases h
  | ok x =>
   obtain ⟨w, q1⟩ := x
   rw [h1] at h
   simp only at h
   unfold atomK at h
   have hT : ∀ {f : ByteArray → ByteArray} {r : Res ByteArray}, atomT w f r = .ok (c, q) → sizeC c = 1 := by
    intro f r hr
    cases r with
    | error x => cases hr
    | ok x => obtain ⟨t, q3⟩ := x; simp only [atomT] at hr; have h3 := Except.ok.inj hr; simp only [Prod.mk.injEq] at h3; rw [← h3.1, sizeC, sizeL]
   split at h
   ·have h3 := Except.ok.inj h; simp only [Prod.mk.injEq] at h3; rw [← h3.1, cond0, sizeC, sizeL]
   split at h
   ·have h3 := Except.ok.inj h; simp only [Prod.mk.injEq] at h3; rw [← h3.1, cond0, sizeC, sizeL]
   split at h
   ·exact hT h
   split at h
   ·exact hT h
   split at h
   ·exact hT h
   ·have h3 := Except.ok.inj h; simp only [Prod.mk.injEq] at h3; rw [← h3.1, sizeC, sizeL]
 omega
theorem notN_size : ∀ n, Sized (notN T e n)
 | 0 => by
  intro p c q h
  rw [notN] at h
  split at h
  ·cases h
  split at h
  ·cases h
  ·exact atomP_size _ _ _ h
 | n + 1 => by
  intro p c q h
  rw [notN] at h
  split at h
  ·obtain ⟨c1, q1, h1, h2⟩ := wrapNot_ok h
   simp only [Prod.mk.injEq] at h2
   have := notN_size n _ _ _ h1
   rw [h2.1, h2.2, cond0, sizeC, sizeL, sizeL]; omega
  split at h
  ·obtain ⟨c1, q1, h1, h2⟩ := closeP_ok h
   have := kidsP_size (kidsP_size (notN_size n)) _ _ _ h1
   cases ht : takeP T e 4 q1 with
   | error x => rw [ht] at h2; cases h2
   | ok x =>
    obtain ⟨t, q2⟩ := x
    have := takeP_mono ht
    rw [ht] at h2
    simp only [closeK] at h2
    have h4 := Except.ok.inj h2; simp only [Prod.mk.injEq] at h4
    rw [← h4.1]; omega
  ·exact atomP_size _ _ _ h
theorem condP_size : Sized (condP T e) := kidsP_size (kidsP_size (notN_size 30))
end
theorem rd_mem {l : List Cd} {i : Nat} (h : i < l.length) : rd_T49 l (i : Int) ∈ l := by
 have : rd_T49 l (i : Int) = l[i] := by simp [rd_T49, h]
 rw [this]; exact List.getElem_mem h
end Go.Proofs.YtngedmioeodmfaaDoor.Pu
namespace Go.Proofs.YtngedmioeodmfaaDoor.Pu
open Go.RowKit Go.Proofs.YtngedmioeodmfaaDoor.Pr Go.Proofs.YtngedmioeodmfaaDoorW.PrintWords Go.Proofs.YtngedmioeodmfaaDoorW.PrintLast Go.Proofs.YtngedmioeodmfaaDoorW.PrintMore Go.Proofs.YtngedmioeodmfaaDoor.Lx
open Go.Proofs.YtngedmioeodmfaaDoor.Ps hiding Tk
def joinB (l : List ByteArray) (sep : ByteArray) : ByteArray := ⟨(Go.Lib.join (l.map (·.data.toList)) sep.data.toList).toArray⟩
theorem joinB_one (x sep : ByteArray) : joinB [x] sep = x := by
 unfold joinB
 rw [List.map_cons, List.map_nil, Go.Lib.join_one, Go.Lib.mk_data]
theorem joinB_size (l : List ByteArray) (sep : ByteArray) : (joinB l sep).size = (Go.Lib.join (l.map (·.data.toList)) sep.data.toList).length := by
 simp [joinB, ByteArray.size]
theorem join_calls {v : Value} (l : List ByteArray) (sep : ByteArray) (w : World) {base : Nat} {ok : Nat → Prop} (hR : Kd.string.R 9 w base ok v l) (h0 : 0 < l.length) (hl : l.length ≤ 1000000) (hz : (joinB l sep).size ≤ 140737488355328) :
  Calls Tryd.prog 41 #[v, .string sep] w fun e w' => e = .returned (.string (joinB l sep)) ∧ Below w.heap.size w w' := by
 obtain ⟨g, cap, rfl, hb, hlt, _⟩ := Kd.R_form hR h0
 have hr := Kd.R_reads' hR
 refine Tryd.strings_Join g 0 cap l sep w (fun j x hx => ?_) hlt (by omega) hr.2.1 (by rw [← joinB_size]; exact hz)
 obtain ⟨hj, hjx⟩ := List.getElem?_eq_some_iff.1 hx
 obtain ⟨ad, hA, hc⟩ := (Kd.reads_of_C (d := ByteArray.empty) hr.2.2).at_ (j : Int) (by omega) (by omega)
 obtain rfl : (⟨g, 0, none⟩ : Addr) = ad := Option.some.inj hA
 have e1 : rdOf ByteArray.empty l (j : Int) = x := by simp [rdOf, hj, hjx]
 rw [e1] at hc
 simpa [add_plain] using hc
def quoteB (s : ByteArray) : ByteArray := strOfNums (quoteL (bytesOf s))
theorem quote_calls (s : ByteArray) (hs : s.size ≤ 1000000) (w : World) : Calls Tryd.prog 38 #[.string s] w fun e w' => e = .returned (.string (quoteB s)) ∧ Below w.heap.size w w' := by
 obtain ⟨k, hk⟩ := quote_ev s hs
 exact lex_Quote.calls k s _ w (hk k (Nat.le_refl _))
def bAnd : ByteArray := ⟨#[32, 97, 110, 100, 32]⟩
def bOr : ByteArray := ⟨#[32, 111, 114, 32]⟩
def bNot : ByteArray := ⟨#[110, 111, 116, 32]⟩
def bOpen : ByteArray := ⟨#[40]⟩
def bShut : ByteArray := ⟨#[41]⟩
def bSp : ByteArray := ⟨#[32]⟩
def amongB (k : Int) (t : ByteArray) : ByteArray := if k = 6 ∨ k = 5 then bOpen ++ t ++ bShut else t
mutual
/-- A condition's text. -/
def condT : S49 → ByteArray
 | ⟨k, a, l⟩ => if k = 1 then wTrue else if k = 2 then wFalse else if k = 4 then bNot ++ joinB (amongsT l) bAnd else if k = 5 then joinB (amongsT l) bAnd else if k = 6 then joinB (amongsT l) bOr
  else if a.f0 = wHost ∨ a.f0 = wPath then a.f0 ++ bSp ++ quoteB a.f1 else if a.f0 = wMethod ∨ a.f0 = wDest ∨ a.f0 = wScheme ∨ a.f0 = wHeader then a.f0 ++ bSp ++ a.f1 else a.f0
def amongsT : List (S49) → List ByteArray
 | [] => []
 | c :: l => amongB c.f0 (condT c) :: amongsT l
end
theorem amongsT_map (l : List Cd) : amongsT l = l.map fun c => amongB c.f0 (condT c) := by
 induction l with
 | nil => rfl
 | cons c l ih => rw [amongsT, ih]; rfl
theorem condT_eq (c : Cd) : condT c = if c.f0 = 1 then wTrue else if c.f0 = 2 then wFalse else if c.f0 = 4 then bNot ++ joinB (amongsT c.f2) bAnd else if c.f0 = 5 then joinB (amongsT c.f2) bAnd else if c.f0 = 6 then joinB (amongsT c.f2) bOr
  else if c.f1.f0 = wHost ∨ c.f1.f0 = wPath then c.f1.f0 ++ bSp ++ quoteB c.f1.f1 else if c.f1.f0 = wMethod ∨ c.f1.f0 = wDest ∨ c.f1.f0 = wScheme ∨ c.f1.f0 = wHeader then c.f1.f0 ++ bSp ++ c.f1.f1 else c.f1.f0 := by
 cases c; rw [condT]
theorem info_str2 : (Tryd.prog.info? 9).map (fun i => (i.zero, i.size, i.bytes)) = some (some (.string ⟨#[]⟩), Kd.string.sz, 16) := by kernel_rfl
def cdV (c : Cd) (A : Option Addr) (c3 : Nat) : Value := .agg #[.int .i64 c.f0, .string c.f1.f0, .string c.f1.f1, .slice A c.f2.length c3]
def TxC (c : Cd) : Prop := ∀ (A : Option Addr) (c3 : Nat) (w : World), k49.C w A c.f2.length c.f2 → c.f2.length ≤ c3 → Calls Tryd.prog 40 #[cdV c A c3] w fun e w' => e = .returned (.string (condT c)) ∧ Below w.heap.size w w'
set_option maxHeartbeats 16000000
set_option maxRecDepth 100000
theorem among_calls (c : Cd) (hc : TxC c) (hz : (condT c).size ≤ 1000000000) (A : Option Addr) (c3 : Nat) (w : World) (hC : k49.C w A c.f2.length c.f2) (hl : c.f2.length ≤ c3) :
  Calls Tryd.prog 79 #[cdV c A c3] w fun e w' => e = .returned (.string (amongB c.f0 (condT c))) ∧ Below w.heap.size w w' := by
 obtain ⟨n, hn⟩ : ∃ n, n = c.f2.length := ⟨_, rfl⟩
 have h1 := hc A c3 (w.alloc (.cells #[.int .i64 c.f0, .string c.f1.f0, .string c.f1.f1, .slice A c.f2.length c3] 49)) (Kd.C_alloc hC _) hl
 unfold cdV at h1 ⊢
 rw [← hn] at h1 ⊢
 obtain ⟨k, hk⟩ : ∃ k, k = c.f0 := ⟨_, rfl⟩
 obtain ⟨t, ht⟩ : ∃ t, t = condT c := ⟨_, rfl⟩
 rw [← hk, ← ht] at h1 ⊢
 rw [← ht] at hz
 obtain ⟨a0, ha0⟩ : ∃ a, a = c.f1.f0 := ⟨_, rfl⟩
 obtain ⟨a1, ha1⟩ : ∃ a, a = c.f1.f1 := ⟨_, rfl⟩
 rw [← ha0, ← ha1] at h1 ⊢
 obtain ⟨w1, hw1⟩ : ∃ w1, w1 = w.alloc (.cells #[.int .i64 k, .string a0, .string a1, .slice A n c3] 49) := ⟨_, rfl⟩
 rw [← hw1] at h1
 have HX : Aside0 (w1.heap[w.heap.size]? = some (.cells #[.int .i64 k, .string a0, .string a1, .slice A n c3] 49 (0, 0))) := ⟨by rw [hw1]; exact blk_new _ _⟩
 have HB1 : Aside0 (Below w.heap.size w w1) := ⟨by rw [hw1]; exact below_alloc (Below.refl _ _) _⟩
 have H1 := Aside0.mk h1
 have HW1 := Aside0.mk hw1
 have t0 : w1.cell? ⟨w.heap.size, 0, none⟩ = some (.int .i64 k) := blk_cell HX.out 0
 clear h1 hw1 hn hk ht ha0 ha1 hC hl hc
 by_cases h6 : k = 6
 ·have l6 : (k == (6 : Int)) = true := by simp [h6]
  have hs : amongB k t = bOpen ++ t ++ bShut := by rw [amongB, if_pos (.inl h6)]
  rw [hs]
  clear h6 hs
  exact sTe6_1
 ·have l6 : (k == (6 : Int)) = false := by simp [h6]
  by_cases h5 : k = 5
  ·have l5 : (k == (5 : Int)) = true := by simp [h5]
   have hs : amongB k t = bOpen ++ t ++ bShut := by rw [amongB, if_pos (.inr h5)]
   rw [hs]
   clear h6 h5 hs
   exact sTe6_1
  ·have l5 : (k == (5 : Int)) = false := by simp [h5]
   have hs : amongB k t = t := by rw [amongB, if_neg (fun h => h.elim h6 h5)]
   rw [hs]
   clear h6 h5 hs
   exact sTe6_1
theorem amongsT_len (l : List Cd) : (amongsT l).length = l.length := by rw [amongsT_map, List.length_map]
theorem amongsT_next {l : List Cd} {i : Nat} (h : i < l.length) : (amongsT l).take (i + 1) = (amongsT l).take i ++ [amongB l[i].f0 (condT l[i])] := by
 rw [List.take_add_one, amongsT_map, List.getElem?_map, List.getElem?_eq_getElem h]; rfl
theorem joined_calls (l : List Cd) (hall : ∀ c ∈ l, TxC c ∧ (condT c).size ≤ 1000000000) (h0 : 0 < l.length) (hn : l.length ≤ 1000000) (word : ByteArray) (hwd : word.size ≤ 1000) (hz : (joinB (amongsT l) (bSp ++ word ++ bSp)).size ≤ 140737488355328) (A : Option Addr) (n cap : Nat) (w : World) (hC : k49.C w A l.length l) (hnl : n = l.length) (hcap : n ≤ cap) :
  Calls Tryd.prog 64 #[.slice A n cap, .string word] w fun e w' => e = .returned (.string (joinB (amongsT l) (bSp ++ word ++ bSp))) ∧ Below w.heap.size w w' := by
 have HAL := Aside0.mk hall
 have HC := Aside0.mk hC
 have HN := Aside0.mk hnl
 have HL := Aside0.mk hn
 have HZ := Aside0.mk hz
 have H0 := Aside0.mk h0
 clear hall hC hnl hn hz h0
 go_enter Tryd.func64, Tryd.ntmps64
 go_wp2
 go_loopg [5, 10] l.length (fun gk v5 v10 wr => ∃ (i : Nat), v10 = .int .i64 i ∧ Aside0 (i ≤ l.length) ∧ Aside0 (l.length - i ≤ gk) ∧ Aside0 (Kd.string.R 9 wr w.heap.size (fun _ => True) v5 ((amongsT l).take i)) ∧ Aside0 (Below w.heap.size w wr))
 case atStart => exact ⟨0, rfl, ⟨Nat.zero_le _⟩, ⟨Nat.sub_le _ _⟩, ⟨Kd.R_nil _ _ _ _ _⟩, ⟨Below.refl _ _⟩⟩
 case round =>
  obtain ⟨i, rfl, HI, HGK, HR, HB⟩ := hrel
  by_cases hi : i < n
  ·have l1 : decide (i < n) = true := decide_eq_true hi
   have l2 : decide ((i : Int) < (n : Int)) = true := decide_eq_true (by omega)
   have l3 : (i : Int) < (n : Int) := by omega
   have HIL : Aside0 (i < l.length) := ⟨by rw [← HN.out]; exact hi⟩
   have hib : (i : Int) ≤ 1000000 := by have := HL.out; have := HIL.out; omega
   obtain ⟨ad, A3, c3, hA, q0, q1, q2, q3, hl3, hC3⟩ := at_T49 HC.out (i : Int) (by omega) (by have := HIL.out; omega)
   have hA2 : A = some ad := hA
   subst hA2
   obtain ⟨x, hx⟩ : ∃ x, x = rd_T49 l (i : Int) := ⟨_, rfl⟩
   have HX : Aside0 (x = l[i]'HIL.out) := ⟨by rw [hx]; have := HIL.out; simp [rd_T49, this]⟩
   rw [← hx] at q0 q1 q2 q3 hl3 hC3
   simp only [Int.toNat_natCast] at q0 q1 q2 q3
   replace q0 := (HB.out.cell (World.block_lt_of_cell? w _ q0)).trans q0
   replace q1 := (HB.out.cell (World.block_lt_of_cell? w _ q1)).trans q1
   replace q2 := (HB.out.cell (World.block_lt_of_cell? w _ q2)).trans q2
   replace q3 := (HB.out.cell (World.block_lt_of_cell? w _ q3)).trans q3
   have hbl := World.block_lt_of_cell? wr _ q0
   obtain ⟨m, hm⟩ : ∃ m, m = x.f2.length := ⟨_, rfl⟩
   rw [← hm] at q3
   obtain ⟨wb, hwb⟩ : ∃ wb, wb = (wr.alloc (.cells #[.int .i64 0, .string ⟨#[]⟩, .string ⟨#[]⟩, .slice none 0 0] 49)).setRow wr.heap.size #[.int .i64 x.f0, .string x.f1.f0, .string x.f1.f1, .slice A3 m c3] := ⟨_, rfl⟩
   have HBB : Aside0 (Below wr.heap.size wr wb) := ⟨by rw [hwb]; exact below_setRow (below_alloc (Below.refl _ _) _) (Nat.le_refl _) _⟩
   have HXX : Aside0 (wb.heap[wr.heap.size]? = some (.cells #[.int .i64 x.f0, .string x.f1.f0, .string x.f1.f1, .slice A3 m c3] 49 (0, 0))) := ⟨by rw [hwb]; exact setRow_heap _ _ _ _ _ _ (blk_new wr (.cells #[.int .i64 0, .string ⟨#[]⟩, .string ⟨#[]⟩, .slice none 0 0] 49))⟩
   have hmem : x ∈ l := by rw [HX.out]; exact List.getElem_mem _
   have h5 := among_calls x (HAL.out x hmem).1 (HAL.out x hmem).2 A3 c3 wb (Kd.C_below hC3 (HB.out.trans (HBB.out.mono HB.out.size))) hl3
   unfold cdV at h5
   rw [← hm] at h5
   have H5 := Aside0.mk h5
   have HWB := Aside0.mk hwb
   clear hwb h5 hx hA hC3 hl3 hm hmem hi
   obtain ⟨x0, hx0⟩ : ∃ x0, x0 = x.f0 := ⟨_, rfl⟩
   obtain ⟨x1, hx1⟩ : ∃ x1, x1 = x.f1.f0 := ⟨_, rfl⟩
   obtain ⟨x2, hx2⟩ : ∃ x2, x2 = x.f1.f1 := ⟨_, rfl⟩
   obtain ⟨tx, htx⟩ : ∃ tx, tx = amongB x.f0 (condT x) := ⟨_, rfl⟩
   rw [← htx, ← hx0, ← hx1, ← hx2] at H5
   rw [← hx0, ← hx1, ← hx2] at HXX HWB
   rw [← hx0] at q0
   rw [← hx1] at q1
   rw [← hx2] at q2
   have HTX : Aside0 ((amongsT l).take (i + 1) = (amongsT l).take i ++ [tx]) := ⟨by rw [amongsT_next HIL.out, htx, HX.out]⟩
   clear hx0 hx1 hx2 htx
   go_upto_region 5 with (refine wpList_store_row rfl 49 _ _ rfl wr.heap.size #[.int .i64 x0, .string x1, .string x2, .slice A3 m c3] rfl rfl 49 #[.int .i64 0, .string ⟨#[]⟩, .string ⟨#[]⟩, .slice none 0 0] (blk_new _ _) size_cd rfl (by simp [Value.oneCell']) ?_)
   rw [← HWB.out]
   clear HWB q0 q1 q2 q3 hbl
   go_wp2_with (refine wpList_load_row rfl 49 _ rfl wr.heap.size rfl 49 #[.int .i64 x0, .string x1, .string x2, .slice A3 m c3] (0, 0) _ HXX.out Tryd.underlying49 rfl size_cd ?_)
   refine H5.out.mono ?_
   rintro e w6 ⟨rfl, hb6⟩
   dsimp only
   have HB6 : Aside0 (Below w.heap.size w w6) := ⟨HB.out.trans ((HBB.out.trans (hb6.mono HBB.out.size)).mono HB.out.size)⟩
   have HR6 : Aside0 (Kd.string.R 9 w6 w.heap.size (fun _ => True) u5 ((amongsT l).take i)) := ⟨Kd.R_below (Kd.R_below HR.out HBB.out) hb6⟩
   have hlb : (((amongsT l).take i).length + 1) * 16 ≤ 140737488355328 := by rw [List.length_take, amongsT_len]; have := HL.out; omega
   clear hb6 HB HR HBB HXX H5
   go_wp2_with (at_builtin; refine Kd.R_append Kd.string (w0 := w) w.heap.size rfl (.tmp 14) (.tmp 17) 23 9 (.string ⟨#[]⟩) 16 rfl Tryd.underlying23 info_str2 rfl (by decide) (by decide) u5 ((amongsT l).take i) tx [.string tx] (fun _ => True) (fun _ => False) rfl rfl rfl (fun _ hk => hk.elim) (fun _ _ => trivial) HR6.out HB6.out HB6.out.size hlb ?_)
   intro v7 w7 hO7 hB7 hg7 hat7
   rw [← HTX.out] at hO7
   have HO7 := Aside0.mk hO7
   have HB7 := Aside0.mk hB7
   clear hO7 hB7 hg7 hat7 hlb
   go_wp2
   go_roundg (l.length - (i + 1))
   case measure => have := HGK.out; have := HIL.out; omega
   case rel => exact ⟨i + 1, by first | rfl | go_num, ⟨HIL.out⟩, ⟨Nat.le_refl _⟩, HO7, HB7⟩
  ·have l1 : decide (i < n) = false := decide_eq_false hi
   have l2 : decide ((i : Int) < (n : Int)) = false := decide_eq_false (by omega)
   have l3 : ¬ (i : Int) < (n : Int) := by omega
   have HR1 : Aside0 (Kd.string.R 9 wr w.heap.size (fun _ => True) u5 (amongsT l)) := ⟨by
    have h := HR.out
    rwa [List.take_of_length_le (by rw [amongsT_len]; have := HN.out; omega)] at h⟩
   have HJ := Aside0.mk (join_calls (amongsT l) (bSp ++ word ++ bSp) wr HR1.out (by rw [amongsT_len]; exact H0.out) (by rw [amongsT_len]; exact HL.out) HZ.out)
   clear hi HR
   go_wp2_with fail
   refine HJ.out.mono ?_
   rintro e w2 ⟨rfl, hb⟩
   dsimp only
   have HB2 : Aside0 (Below w.heap.size w w2) := ⟨HB.out.trans (hb.mono HB.out.size)⟩
   clear hb
   go_wp2
   go_ret
   exact ⟨rfl, HB2.out⟩
end Go.Proofs.YtngedmioeodmfaaDoor.Pu
