/- 15 texts of the proof, put together, less what is not used; what a tool printed stands among them. -/
import Derived.Test.YtngedmioeodmfaaDoorMTe7
set_option maxRecDepth 100000
namespace Go.Proofs
open Go.RowKit
theorem nTe8_ {p_ : Prop} (h_ : p_ := by
 simp only [Act.put, List.setIfInBounds_toArray, List.set_cons_zero, List.set_cons_succ, i64_w, i32_w]
 rfl) : p_ := h_
theorem sTe8_0 {p_ : Prop} (h_ : p_ := by
 go_enter Tryd.func28, Tryd.ntmps28
 go_wp2
 go_quiet ((go_at_call 24; exact Calls.quiet_of_same (bad_quiet w0 _ g T _ e c a _ l0 (IsS67.drewN H.out _))))
 go_wp2_with fail
 refine (parapetref19_Reader_wrong.calls g T _ e c a 8 _ _ _ _ w0 _ (IsS67.drewN H.out _) (pw_below_drewN HB.out _) HW2.out).mono ?_
 rintro e2 w2 ⟨rfl, hs, hb2, hk⟩
 dsimp only
 go_wp2
 go_ret
 exact ⟨rfl, hs, hb2, (keepN _ g).trans hk (.inl rfl)⟩) : p_ := h_
theorem sTe8_1 {p_ : Prop} (h_ : p_ := by
 exact ⟨by first | rfl | (simp [errW_none, errW_some] <;> rfl) | (simp [*, errW_none, errW_some] <;> rfl), by repeat (first | (with_reducible first | exact HI0.out | apply IsS67.alloc | apply IsS67.drewN | apply IsS67.drew | apply IsS67.set_1 | apply IsS67.set_2 | apply IsS67.set_3 | apply IsS67.set_4) | exact HI0.out), by repeat (first | (with_reducible first | exact HB.out | apply below_alloc | apply pw_below_drewN | apply below_drew1 | refine below_set ?_ (IsS67.ge HI0.out)) | exact HB.out), by repeat (first | (with_reducible first | exact HK.out | apply KeepBut.set_ | apply keep_drewN | apply keep_drew | apply keep_alloc) | exact HK.out)⟩) : p_ := h_
theorem sTe8_2 {p_ : Prop} (h_ : p_ := by
 go_enter Tryd.func54, Tryd.ntmps54
 go_wp2
 go_quiet ((go_at_call 24; exact Calls.quiet_of_same (bad_quiet w0 _ g T _ e c a _ l0 (IsS67.drewN H.out _))))
 go_wp2
 go_ret
 exact ⟨rfl, _, rfl⟩) : p_ := h_
theorem sTe8_3 {p_ : Prop} (h_ : p_ := by
 intro w'
 go_simp
 with_reducible rfl) : p_ := h_
theorem sTe8_4 {p_ : Prop} (h_ : p_ := by
 exact bodyPost_ret (cond_ret rfl rfl (setRow_heap _ _ _ _ _ _ HX6.out)) rfl ⟨_, _, 8, _, _, by rw [HR.out]; exact ⟨by decide, by omega, rfl, rfl⟩, rfl, Kd.V_nil _ _ _ _ _, (HA6.out.setRow HG.out.1 HG.out.2.1 HG.out.2.2 _).to⟩) : p_ := h_
end Go.Proofs
namespace Go.Proofs.YtngedmioeodmfaaDoor.Pu
open Go.RowKit Go.Proofs.YtngedmioeodmfaaDoor.Pr Go.Proofs.YtngedmioeodmfaaDoorW.PrintWords Go.Proofs.YtngedmioeodmfaaDoorW.PrintLast Go.Proofs.YtngedmioeodmfaaDoorW.PrintMore Go.Proofs.YtngedmioeodmfaaDoor.Lx
open Go.Proofs.YtngedmioeodmfaaDoor.Ps hiding Tk
theorem take_pre {A B C : List ByteArray} (i : Nat) : A ++ B.take i <+: A ++ (B ++ C) := by
 refine ⟨B.drop i ++ C, ?_⟩
 rw [List.append_assoc, ← List.append_assoc (B.take i), List.take_append_drop]
set_option maxHeartbeats 16000000
set_option maxRecDepth 100000
theorem rtext_calls {csp : List ByteArray} {sh : List (S44)} {mixed : ByteArray} {rules : List (S51)} {allow : Bool} (hO : OkP csp sh mixed rules allow) (hR : ∀ r ∈ rules, Shape r.f1 ∧ sizeC r.f1 ≤ 100000) (A0 A1 A3 : Option Addr) (n0 c0 n1 c1 n3 c3 : Nat) (w : World)
  (hC0 : Kd.string.C w A0 csp.length csp) (hn0 : n0 = csp.length) (hc0 : n0 ≤ c0) (hC1 : k44.C w A1 sh.length sh) (hn1 : n1 = sh.length) (hc1 : n1 ≤ c1) (hC3 : k51.C w A3 rules.length rules) (hn3 : n3 = rules.length) (hc3 : n3 ≤ c3) :
  Calls Tryd.prog 19 #[.agg #[.slice A0 n0 c0, .slice A1 n1 c1, .string mixed, .slice A3 n3 c3, .bool allow]] w fun e w' => e = .returned (.string (polText csp sh mixed rules allow)) ∧ Below w.heap.size w w' := by
 obtain ⟨w1, hw1⟩ : ∃ w1, w1 = w.alloc (.cells #[.slice A0 n0 c0, .slice A1 n1 c1, .string mixed, .slice A3 n3 c3, .bool allow] 27) := ⟨_, rfl⟩
 have HX : Aside0 (w1.heap[w.heap.size]? = some (.cells #[.slice A0 n0 c0, .slice A1 n1 c1, .string mixed, .slice A3 n3 c3, .bool allow] 27 (0, 0))) := ⟨by rw [hw1]; exact blk_new _ _⟩
 have HB1 : Aside0 (Below w.heap.size w w1) := ⟨by rw [hw1]; exact below_alloc (Below.refl _ _) _⟩
 have HC0 : Aside0 (Kd.string.C w1 A0 csp.length csp) := ⟨by rw [hw1]; exact Kd.C_alloc hC0 _⟩
 have HC1 : Aside0 (k44.C w1 A1 sh.length sh) := ⟨by rw [hw1]; exact Kd.C_alloc hC1 _⟩
 have HC3 : Aside0 (k51.C w1 A3 rules.length rules) := ⟨by rw [hw1]; exact Kd.C_alloc hC3 _⟩
 have HW1 := Aside0.mk hw1
 have HO := Aside0.mk hO
 have HR := Aside0.mk hR
 have HN0 := Aside0.mk hn0
 have HN1 := Aside0.mk hn1
 have HN3 := Aside0.mk hn3
 obtain ⟨Z, hZ⟩ : ∃ Z, Z = p0 csp ++ (p1 sh ++ ([bMix ++ mixed ++ bSemi] ++ (p3 rules ++ [bDef ++ sayB allow ++ bSemi]))) := ⟨_, rfl⟩
 have HZ : Aside0 (cat Z = polText csp sh mixed rules allow) := ⟨by rw [hZ, ← cat_pol]; simp only [List.append_assoc]⟩
 have HZS : Aside0 ((cat Z).size ≤ 100000000000002) := ⟨by rw [HZ.out, polText, size_app]; have := hO.zz; have e : bSemi.size = 2 := rfl; omega⟩
 have HZE := Aside0.mk hZ
 clear hw1 hn0 hn1 hn3 hC0 hC1 hC3 hO hR hZ
 go_enter Tryd.func19, Tryd.ntmps19
 go_upto_region 1 with (fail)
 rw [← HW1.out]
 go_wp2
 go_loopg [3, 4] csp.length (fun gk v3 v4 wr => ∃ (i : Nat) (s : ByteArray), v4 = .int .i64 i ∧ v3 = .string s ∧ Aside0 (i ≤ csp.length) ∧ Aside0 (csp.length - i ≤ gk) ∧ Aside0 (s = cat ((p0 csp).take i)) ∧ Aside0 (Below w1.heap.size w1 wr))
 case atStart => exact ⟨0, _, rfl, rfl, ⟨Nat.zero_le _⟩, ⟨Nat.sub_le _ _⟩, ⟨rfl⟩, ⟨Below.refl _ _⟩⟩
 case round =>
  obtain ⟨i, s, rfl, rfl, HI, HGK, HS, HB⟩ := hrel
  have t0 : wr.cell? ⟨w.heap.size, 0, none⟩ = some (.slice A0 n0 c0) := blk_cell (blk_below HX.out HB.out) 0
  by_cases hi : i < n0
  ·have l1 : decide (i < n0) = true := decide_eq_true hi
   have l2 : decide ((i : Int) < (n0 : Int)) = true := decide_eq_true (by omega)
   have l3 : (i : Int) < (n0 : Int) := by omega
   have HIL : Aside0 (i < csp.length) := ⟨by rw [← HN0.out]; exact hi⟩
   have hib : (i : Int) ≤ 1000000 := by have := HO.out.cl; have := HIL.out; omega
   obtain ⟨ad, hA, q⟩ := Kd.at_string HC0.out (i : Int) (by omega) (by have := HIL.out; omega)
   obtain rfl : A0 = some ad := hA
   rw [rd_str HIL.out] at q
   obtain ⟨x, hx⟩ : ∃ x, x = csp[i]'HIL.out := ⟨_, rfl⟩
   have hxs := HO.out.cs x (by rw [hx]; exact List.getElem_mem _)
   rw [← hx] at q
   have HQ := Aside0.mk (rquote_calls x hxs.1 wr)
   obtain ⟨qx, hqx⟩ : ∃ qx, qx = quoteB x := ⟨_, rfl⟩
   have HTX : Aside0 (s ++ (⟨#[99, 115, 112, 32]⟩ : ByteArray) ++ qx ++ (⟨#[59, 10]⟩ : ByteArray) = cat ((p0 csp).take (i + 1))) := ⟨by rw [p0, take_map _ _ HIL.out, cat_snoc, ← hx, ap4, hqx, HS.out]; rfl⟩
   have hsz : s.size ≤ 100000000000002 := by
    rw [HS.out]
    refine Nat.le_trans (cat_le ?_) HZS.out
    rw [HZE.out]
    exact take_pre (A := []) i
   rw [← hqx] at HQ hxs
   have hqs := hxs.2
   have hz1 : (s ++ (⟨#[99, 115, 112, 32]⟩ : ByteArray)).size ≤ 100000000000002 + 10 := by rw [size_app, show (⟨#[99, 115, 112, 32]⟩ : ByteArray).size = 4 from rfl]; omega
   have hz2 : (s ++ (⟨#[99, 115, 112, 32]⟩ : ByteArray) ++ qx).size ≤ 100000000000002 + 10000010 := by rw [size_app]; omega
   clear hqx hx hxs hi
   simp only [Int.toNat_natCast] at q
   replace q := (HB.out.cell (World.block_lt_of_cell? w1 _ q)).trans q
   go_wp2_with fail
   refine HQ.out.mono ?_
   rintro e w6 ⟨rfl, hb6⟩
   dsimp only
   have HB6 : Aside0 (Below w1.heap.size w1 w6) := ⟨HB.out.trans (hb6.mono HB.out.size)⟩
   clear hb6 HB HQ q t0
   go_wp2_with fail
   go_roundg (csp.length - (i + 1))
   case measure => have := HGK.out; have := HIL.out; omega
   case rel => exact ⟨i + 1, _, by first | rfl | go_num, rfl, ⟨HIL.out⟩, ⟨Nat.le_refl _⟩, HTX, HB6⟩
  ·have l1 : decide (i < n0) = false := decide_eq_false hi
   have l2 : decide ((i : Int) < (n0 : Int)) = false := decide_eq_false (by omega)
   have l3 : ¬ (i : Int) < (n0 : Int) := by omega
   have HS0 : Aside0 (s = cat (p0 csp ++ (p1 sh).take 0)) := ⟨by
    have h := HS.out
    rw [List.take_of_length_le (by rw [p0, List.length_map]; have := HN0.out; omega)] at h
    rw [List.take_zero, List.append_nil]; exact h⟩
   clear hi HI HGK HS
   go_wp2
   clear l1 l2 l3 t0
   go_loopg [3, 5] sh.length (fun gk v3 v5 wq => ∃ (j : Nat) (s : ByteArray), v5 = .int .i64 j ∧ v3 = .string s ∧ Aside0 (j ≤ sh.length) ∧ Aside0 (sh.length - j ≤ gk) ∧ Aside0 (s = cat (p0 csp ++ (p1 sh).take j)) ∧ Aside0 (Below w1.heap.size w1 wq))
   case atStart => exact ⟨0, _, rfl, rfl, ⟨Nat.zero_le _⟩, ⟨Nat.sub_le _ _⟩, HS0, HB⟩
   case round =>
    clear HS0 HB
    obtain ⟨j, s, rfl, rfl, HJ, HGK, HS, HB⟩ := hrel
    obtain ⟨wq, hwq⟩ : ∃ x, x = wr := ⟨_, rfl⟩
    subst hwq
    have t1 : wq.cell? ⟨w.heap.size, 1, none⟩ = some (.slice A1 n1 c1) := blk_cell (blk_below HX.out HB.out) 1
    by_cases hj : j < n1
    ·have l1 : decide (j < n1) = true := decide_eq_true hj
     have l2 : decide ((j : Int) < (n1 : Int)) = true := decide_eq_true (by omega)
     have l3 : (j : Int) < (n1 : Int) := by omega
     have HJL : Aside0 (j < sh.length) := ⟨by rw [← HN1.out]; exact hj⟩
     have hjb : (j : Int) ≤ 1000000 := by have := HO.out.sl; have := HJL.out; omega
     obtain ⟨ad, A5, c5, A6, c6, hA, q0, q1, q2, q3, hl5, hC5, hl6, hC6⟩ := at_T44 HC1.out (j : Int) (by omega) (by have := HJL.out; omega)
     obtain rfl : A1 = some ad := hA
     have hrd : rd_T44 sh (j : Int) = sh[j]'HJL.out := by have := HJL.out; simp [rd_T44, this]
     obtain ⟨x, hx⟩ : ∃ x, x = sh[j]'HJL.out := ⟨_, rfl⟩
     have HMEM : Aside0 (x ∈ sh) := ⟨by rw [hx]; exact List.getElem_mem _⟩
     rw [hrd, ← hx] at q0 q1 q2 q3 hl5 hC5 hl6 hC6
     have HSJ : Aside0 (cat (p0 csp ++ (p1 sh).take (j + 1)) = s ++ (shareT x ++ bSemi)) := ⟨by rw [HS.out, p1, take_map _ _ HJL.out, ← List.append_assoc, cat_snoc, ← hx]⟩
     simp only [Int.toNat_natCast] at q0 q1 q2 q3
     replace q0 := (HB.out.cell (World.block_lt_of_cell? w1 _ q0)).trans q0
     replace q1 := (HB.out.cell (World.block_lt_of_cell? w1 _ q1)).trans q1
     replace q2 := (HB.out.cell (World.block_lt_of_cell? w1 _ q2)).trans q2
     replace q3 := (HB.out.cell (World.block_lt_of_cell? w1 _ q3)).trans q3
     have hbl := World.block_lt_of_cell? wq _ q0
     have HC5 := Aside0.mk hC5
     have HC6 := Aside0.mk hC6
     have hss := HO.out.ss x HMEM.out
     obtain ⟨o, ho⟩ : ∃ o, o = x.f0 := ⟨_, rfl⟩
     obtain ⟨m1, hm1⟩ : ∃ m1, m1 = x.f1.length := ⟨_, rfl⟩
     obtain ⟨m2, hm2⟩ : ∃ m2, m2 = x.f2.length := ⟨_, rfl⟩
     obtain ⟨cr, hcr⟩ : ∃ cr, cr = x.f3 := ⟨_, rfl⟩
     rw [← ho] at q0 hss
     rw [← hm1] at q1 hl5
     rw [← hm2] at q2 hl6
     rw [← hcr] at q3
     have Hm1 := Aside0.mk hm1
     have Hm2 := Aside0.mk hm2
     obtain ⟨wb, hwb⟩ : ∃ wb, wb = (wq.alloc (.cells #[.string ⟨#[]⟩, .slice none 0 0, .slice none 0 0, .bool false] 44)).setRow wq.heap.size #[.string o, .slice A5 m1 c5, .slice A6 m2 c6, .bool cr] := ⟨_, rfl⟩
     have HBB : Aside0 (Below wq.heap.size wq wb) := ⟨by rw [hwb]; exact below_setRow (below_alloc (Below.refl _ _) _) (Nat.le_refl _) _⟩
     have HXX : Aside0 (wb.heap[wq.heap.size]? = some (.cells #[.string o, .slice A5 m1 c5, .slice A6 m2 c6, .bool cr] 44 (0, 0))) := ⟨by rw [hwb]; exact setRow_heap _ _ _ _ _ _ (blk_new wq (.cells #[.string ⟨#[]⟩, .slice none 0 0, .slice none 0 0, .bool false] 44))⟩
     have HWB := Aside0.mk hwb
     have HQ := Aside0.mk (rquote_calls o hss.1 wb)
     obtain ⟨qx, hqx⟩ : ∃ qx, qx = quoteB o := ⟨_, rfl⟩
     rw [← hqx] at HQ hss
     have hqs := hss.2
     rw [ho] at hqx
     have HQX := Aside0.mk hqx
     have HCR := Aside0.mk hcr
     have hsz : s.size ≤ 100000000000002 := by
      rw [HS.out]
      refine Nat.le_trans (cat_le ?_) HZS.out
      rw [HZE.out]
      exact take_pre j
     have hz1 : (s ++ (⟨#[115, 104, 97, 114, 101, 32]⟩ : ByteArray)).size ≤ 100000000000002 + 10 := by rw [size_app, show (⟨#[115, 104, 97, 114, 101, 32]⟩ : ByteArray).size = 6 from rfl]; omega
     have hz2 : (s ++ (⟨#[115, 104, 97, 114, 101, 32]⟩ : ByteArray) ++ qx).size ≤ 100000000000002 + 20000000 := by rw [size_app]; omega
     clear hqx hcr ho hwb hrd hx hm1 hm2 hj hss
     go_upto_region 10 with (refine wpList_store_row rfl 44 _ _ rfl wq.heap.size #[.string o, .slice A5 m1 c5, .slice A6 m2 c6, .bool cr] rfl rfl 44 #[.string ⟨#[]⟩, .slice none 0 0, .slice none 0 0, .bool false] (blk_new _ _) size_sh rfl (by simp [Value.oneCell']) ?_)
     rw [← HWB.out]
     have u0c : wb.cell? ⟨wq.heap.size, 0, none⟩ = some (.string o) := blk_cell HXX.out 0
     clear HWB q0 q1 q2 q3 hbl t1
     go_wp2_with fail
     refine HQ.out.mono ?_
     rintro e w6 ⟨rfl, hb6⟩
     dsimp only
     have HX6 : Aside0 (w6.heap[wq.heap.size]? = some (.cells #[.string o, .slice A5 m1 c5, .slice A6 m2 c6, .bool cr] 44 (0, 0))) := ⟨blk_below HXX.out hb6⟩
     have HB6 : Aside0 (Below w1.heap.size w1 w6) := ⟨HB.out.trans ((HBB.out.trans (hb6.mono HBB.out.size)).mono HB.out.size)⟩
     clear hb6 HB HBB HXX HQ u0c l1 l2 l3
     go_wp2
     go_loopg [3, 7] x.f1.length (fun gk v3 v7 wz => ∃ (i : Nat) (acc : ByteArray), v7 = .int .i64 i ∧ v3 = .string acc ∧ wz = w6 ∧ Aside0 (i ≤ x.f1.length) ∧ Aside0 (x.f1.length - i ≤ gk) ∧ Aside0 (acc = addAll bMeth (s ++ (⟨#[115, 104, 97, 114, 101, 32]⟩ : ByteArray) ++ qx) (x.f1.take i)) ∧ Aside0 (acc.size ≤ 100000020000002 + i * 2000000))
     case atStart => exact ⟨0, _, rfl, rfl, rfl, ⟨Nat.zero_le _⟩, ⟨Nat.sub_le _ _⟩, ⟨rfl⟩, ⟨by omega⟩⟩
     case round =>
      obtain ⟨i, acc, rfl, rfl, hwz, HI, HGI, HACC, HAS⟩ := hrel
      obtain rfl := hwz.symm
      have u1c : w6.cell? ⟨wq.heap.size, 1, none⟩ = some (.slice A5 m1 c5) := blk_cell HX6.out 1
      by_cases hi : i < m1
      ·have g1 : decide (i < m1) = true := decide_eq_true hi
       have g2 : decide ((i : Int) < (m1 : Int)) = true := decide_eq_true (by omega)
       have g3 : (i : Int) < (m1 : Int) := by omega
       have HIL : Aside0 (i < x.f1.length) := ⟨by rw [← Hm1.out]; exact hi⟩
       have hsm := HO.out.sm x HMEM.out
       have hib : (i : Int) ≤ 1000000 := by have := HIL.out; omega
       obtain ⟨ad3, hA, q⟩ := Kd.at_string HC5.out (i : Int) (by omega) (by have := HIL.out; omega)
       obtain rfl : A5 = some ad3 := hA
       rw [rd_str HIL.out] at q
       obtain ⟨y, hy⟩ : ∃ y, y = x.f1[i]'HIL.out := ⟨_, rfl⟩
       have hys : y.size ≤ 1000000 := hsm.2 y (by rw [hy]; exact List.getElem_mem _)
       rw [← hy] at q
       have HNX : Aside0 (acc ++ (⟨#[32, 109, 101, 116, 104, 111, 100, 32]⟩ : ByteArray) ++ y = addAll bMeth (s ++ (⟨#[115, 104, 97, 114, 101, 32]⟩ : ByteArray) ++ qx) (x.f1.take (i + 1))) := ⟨by rw [addAll_next _ _ _ HIL.out, ← HACC.out, ← hy, ByteArray.append_assoc]; rfl⟩
       have has : acc.size ≤ 100000020000002 + 2000000000000 := by have := HAS.out; omega
       have hz3 : (acc ++ (⟨#[32, 109, 101, 116, 104, 111, 100, 32]⟩ : ByteArray)).size ≤ 100000020000002 + 2000000000010 := by rw [size_app, show (⟨#[32, 109, 101, 116, 104, 111, 100, 32]⟩ : ByteArray).size = 8 from rfl]; omega
       have HAX : Aside0 ((acc ++ (⟨#[32, 109, 101, 116, 104, 111, 100, 32]⟩ : ByteArray) ++ y).size ≤ 100000020000002 + (i + 1) * 2000000) := ⟨by
        rw [size_app, size_app]
        have := HAS.out
        have : (⟨#[32, 109, 101, 116, 104, 111, 100, 32]⟩ : ByteArray).size ≤ 100 := by decide
        omega⟩
       simp only [Int.toNat_natCast] at q
       replace q := (HB6.out.cell (World.block_lt_of_cell? w1 _ q)).trans q
       clear hsm hy hi
       go_wp2
       go_roundg (x.f1.length - (i + 1))
       case measure => have := HGI.out; have := HIL.out; omega
       case rel => exact ⟨i + 1, _, by first | rfl | go_num, rfl, rfl, ⟨HIL.out⟩, ⟨Nat.le_refl _⟩, HNX, HAX⟩
      ·have g1 : decide (i < m1) = false := decide_eq_false hi
       have g2 : decide ((i : Int) < (m1 : Int)) = false := decide_eq_false (by omega)
       have g3 : ¬ (i : Int) < (m1 : Int) := by omega
       have HACC3 : Aside0 (acc = addAll bMeth (s ++ (⟨#[115, 104, 97, 114, 101, 32]⟩ : ByteArray) ++ qx) x.f1) := ⟨by
        have h := HACC.out
        rwa [List.take_of_length_le (by have := Hm1.out; omega)] at h⟩
       have HAS3 : Aside0 (acc.size ≤ 100000020000002 + 2000000000000) := ⟨by have := HAS.out; have := HI.out; have := (HO.out.sm x HMEM.out).1; omega⟩
       clear hi HACC HAS HI HGI
       obtain ⟨acc3, hacc3⟩ : ∃ x, x = acc := ⟨_, rfl⟩
       rw [← hacc3] at HACC3 HAS3 ⊢
       clear hacc3
       go_wp2
       clear u1c g1 g2 g3
       go_loopg [3, 8] x.f2.length (fun gk v3 v7 wz => ∃ (i : Nat) (acc : ByteArray), v7 = .int .i64 i ∧ v3 = .string acc ∧ wz = w6 ∧ Aside0 (i ≤ x.f2.length) ∧ Aside0 (x.f2.length - i ≤ gk) ∧ Aside0 (acc = addAll bHead (addAll bMeth (s ++ (⟨#[115, 104, 97, 114, 101, 32]⟩ : ByteArray) ++ qx) x.f1) (x.f2.take i)) ∧ Aside0 (acc.size ≤ 102000020000002 + i * 2000000))
       case atStart => exact ⟨0, _, rfl, rfl, rfl, ⟨Nat.zero_le _⟩, ⟨Nat.sub_le _ _⟩, HACC3, ⟨by have := HAS3.out; omega⟩⟩
       case round =>
        obtain ⟨i, acc, rfl, rfl, hwz, HI, HGI, HACC, HAS⟩ := hrel
        obtain rfl := hwz.symm
        have u1c : w6.cell? ⟨wq.heap.size, 2, none⟩ = some (.slice A6 m2 c6) := blk_cell HX6.out 2
        by_cases hi : i < m2
        ·have g1 : decide (i < m2) = true := decide_eq_true hi
         have g2 : decide ((i : Int) < (m2 : Int)) = true := decide_eq_true (by omega)
         have g3 : (i : Int) < (m2 : Int) := by omega
         have HIL : Aside0 (i < x.f2.length) := ⟨by rw [← Hm2.out]; exact hi⟩
         have hsm := HO.out.sn x HMEM.out
         have hib : (i : Int) ≤ 1000000 := by have := HIL.out; omega
         obtain ⟨ad3, hA, q⟩ := Kd.at_string HC6.out (i : Int) (by omega) (by have := HIL.out; omega)
         obtain rfl : A6 = some ad3 := hA
         rw [rd_str HIL.out] at q
         obtain ⟨y, hy⟩ : ∃ y, y = x.f2[i]'HIL.out := ⟨_, rfl⟩
         have hys : y.size ≤ 1000000 := hsm.2 y (by rw [hy]; exact List.getElem_mem _)
         rw [← hy] at q
         have HNX : Aside0 (acc ++ (⟨#[32, 104, 101, 97, 100, 101, 114, 32]⟩ : ByteArray) ++ y = addAll bHead (addAll bMeth (s ++ (⟨#[115, 104, 97, 114, 101, 32]⟩ : ByteArray) ++ qx) x.f1) (x.f2.take (i + 1))) := ⟨by rw [addAll_next _ _ _ HIL.out, ← HACC.out, ← hy, ByteArray.append_assoc]; rfl⟩
         have has : acc.size ≤ 102000020000002 + 2000000000000 := by have := HAS.out; omega
         have hz3 : (acc ++ (⟨#[32, 104, 101, 97, 100, 101, 114, 32]⟩ : ByteArray)).size ≤ 102000020000002 + 2000000000010 := by rw [size_app, show (⟨#[32, 104, 101, 97, 100, 101, 114, 32]⟩ : ByteArray).size = 8 from rfl]; omega
         have HAX : Aside0 ((acc ++ (⟨#[32, 104, 101, 97, 100, 101, 114, 32]⟩ : ByteArray) ++ y).size ≤ 102000020000002 + (i + 1) * 2000000) := ⟨by
          rw [size_app, size_app]
          have := HAS.out
          have : (⟨#[32, 104, 101, 97, 100, 101, 114, 32]⟩ : ByteArray).size ≤ 100 := by decide
          omega⟩
         simp only [Int.toNat_natCast] at q
         replace q := (HB6.out.cell (World.block_lt_of_cell? w1 _ q)).trans q
         clear hsm hy hi
         go_wp2
         go_roundg (x.f2.length - (i + 1))
         case measure => have := HGI.out; have := HIL.out; omega
         case rel => exact ⟨i + 1, _, by first | rfl | go_num, rfl, rfl, ⟨HIL.out⟩, ⟨Nat.le_refl _⟩, HNX, HAX⟩
        ·have g1 : decide (i < m2) = false := decide_eq_false hi
         have g2 : decide ((i : Int) < (m2 : Int)) = false := decide_eq_false (by omega)
         have g3 : ¬ (i : Int) < (m2 : Int) := by omega
         have HACC4 : Aside0 (acc = addAll bHead (addAll bMeth (s ++ (⟨#[115, 104, 97, 114, 101, 32]⟩ : ByteArray) ++ qx) x.f1) x.f2) := ⟨by
          have h := HACC.out
          rwa [List.take_of_length_le (by have := Hm2.out; omega)] at h⟩
         have hac : acc.size ≤ 102000020000002 + 2000000000000 := by have := HAS.out; have := HI.out; have := (HO.out.sn x HMEM.out).1; omega
         have HAC5 : Aside0 (acc = s ++ addAll bHead (addAll bMeth (bShare ++ quoteB x.f0) x.f1) x.f2) := ⟨by rw [HACC4.out, addAll_app, addAll_app, ← HQX.out, ByteArray.append_assoc]; rfl⟩
         clear hi HACC HAS HI HGI HACC4
         have u3c : w6.cell? ⟨wq.heap.size, 3, none⟩ = some (.bool cr) := blk_cell HX6.out 3
         cases cr with
         | true =>
          have HY : Aside0 (acc ++ (⟨#[32, 99, 114, 101, 100, 115]⟩ : ByteArray) ++ (⟨#[59, 10]⟩ : ByteArray) = cat (p0 csp ++ (p1 sh).take (j + 1))) := ⟨by
           rw [HSJ.out]
           unfold shareT
           rw [if_pos HCR.out.symm, HAC5.out, ByteArray.append_assoc, ByteArray.append_assoc, ByteArray.append_assoc]; rfl⟩
          have hz4 : (acc ++ (⟨#[32, 99, 114, 101, 100, 115]⟩ : ByteArray)).size ≤ 110000000000002 := by rw [size_app, show (⟨#[32, 99, 114, 101, 100, 115]⟩ : ByteArray).size = 6 from rfl]; omega
          go_wp2
          go_roundg (sh.length - (j + 1))
          case measure => have := HGK.out; have := HJL.out; omega
          case rel => exact ⟨j + 1, _, by first | rfl | go_num, rfl, ⟨HJL.out⟩, ⟨Nat.le_refl _⟩, HY, HB6⟩
         | false =>
          have HY : Aside0 (acc ++ (⟨#[59, 10]⟩ : ByteArray) = cat (p0 csp ++ (p1 sh).take (j + 1))) := ⟨by
           rw [HSJ.out]
           unfold shareT
           rw [if_neg (by rw [← HCR.out]; decide), HAC5.out, ByteArray.append_assoc]; rfl⟩
          go_wp2
          go_roundg (sh.length - (j + 1))
          case measure => have := HGK.out; have := HJL.out; omega
          case rel => exact ⟨j + 1, _, by first | rfl | go_num, rfl, ⟨HJL.out⟩, ⟨Nat.le_refl _⟩, HY, HB6⟩
    ·have l1 : decide (j < n1) = false := decide_eq_false hj
     have l2 : decide ((j : Int) < (n1 : Int)) = false := decide_eq_false (by omega)
     have l3 : ¬ (j : Int) < (n1 : Int) := by omega
     obtain ⟨wr, hwr⟩ : ∃ x, x = wq := ⟨_, rfl⟩
     subst hwr
     have HS1 : Aside0 (s = cat (p0 csp ++ p1 sh)) := ⟨by
      have h := HS.out
      rwa [List.take_of_length_le (by rw [p1, List.length_map]; have := HN1.out; omega)] at h⟩
     have hsz : s.size ≤ 100000000000002 := by
      rw [HS1.out]
      refine Nat.le_trans (cat_le ?_) HZS.out
      rw [HZE.out, ← List.append_assoc]
      exact ⟨_, rfl⟩
     have t2 : wr.cell? ⟨w.heap.size, 2, none⟩ = some (.string mixed) := blk_cell (blk_below HX.out HB.out) 2
     have hmx := HO.out.mx
     have hz1 : (s ++ (⟨#[109, 105, 120, 101, 100, 32]⟩ : ByteArray)).size ≤ 100000000000002 + 10 := by rw [size_app, show (⟨#[109, 105, 120, 101, 100, 32]⟩ : ByteArray).size = 6 from rfl]; omega
     have hz2 : (s ++ (⟨#[109, 105, 120, 101, 100, 32]⟩ : ByteArray) ++ mixed).size ≤ 100000000000002 + 20000000 := by rw [size_app]; omega
     obtain ⟨L, hL⟩ : ∃ L, L = p0 csp ++ p1 sh ++ [bMix ++ mixed ++ bSemi] := ⟨_, rfl⟩
     have HS2 : Aside0 (s ++ (⟨#[109, 105, 120, 101, 100, 32]⟩ : ByteArray) ++ mixed ++ (⟨#[59, 10]⟩ : ByteArray) = cat (L ++ (p3 rules).take 0)) := ⟨by rw [List.take_zero, List.append_nil, hL, cat_snoc, ← HS1.out, ap4]; rfl⟩
     have HLE := Aside0.mk hL
     clear hj HS HJ HGK hL
     go_wp2
     clear l1 l2 l3 t2 t1 hz1 hz2 hsz
     go_loopg [3, 9] rules.length (fun gk v3 v9 wq => ∃ (j : Nat) (s : ByteArray), v9 = .int .i64 j ∧ v3 = .string s ∧ Aside0 (j ≤ rules.length) ∧ Aside0 (rules.length - j ≤ gk) ∧ Aside0 (s = cat (L ++ (p3 rules).take j)) ∧ Aside0 (Below w1.heap.size w1 wq))
     case atStart => exact ⟨0, _, rfl, rfl, ⟨Nat.zero_le _⟩, ⟨Nat.sub_le _ _⟩, HS2, HB⟩
     case round =>
      clear HS1 HS2 HB
      obtain ⟨j, s, rfl, rfl, HJ, HGK, HS, HB⟩ := hrel
      obtain ⟨wq, hwq⟩ : ∃ x, x = wr := ⟨_, rfl⟩
      subst hwq
      have t3 : wq.cell? ⟨w.heap.size, 3, none⟩ = some (.slice A3 n3 c3) := blk_cell (blk_below HX.out HB.out) 3
      have hsz : s.size ≤ 100000000000002 := by
       rw [HS.out]
       refine Nat.le_trans (cat_le ?_) HZS.out
       rw [HZE.out, HLE.out, List.append_assoc (p0 csp), List.append_assoc (p0 csp)]
       have h := take_pre (A := p0 csp ++ p1 sh ++ [bMix ++ mixed ++ bSemi]) (B := p3 rules) (C := [bDef ++ sayB allow ++ bSemi]) j
       simpa only [List.append_assoc] using h
      by_cases hj : j < n3
      ·have l1 : decide (j < n3) = true := decide_eq_true hj
       have l2 : decide ((j : Int) < (n3 : Int)) = true := decide_eq_true (by omega)
       have l3 : (j : Int) < (n3 : Int) := by omega
       have HJL : Aside0 (j < rules.length) := ⟨by rw [← HN3.out]; exact hj⟩
       have hjb : (j : Int) ≤ 1000000 := by have := HO.out.rl; have := HJL.out; omega
       obtain ⟨ad, A5, c5, hA, q0, q1, q2, q3, q4, hl5, hC5⟩ := at_T51 HC3.out (j : Int) (by omega) (by have := HJL.out; omega)
       obtain rfl : A3 = some ad := hA
       have hrd : rd_T51 rules (j : Int) = rules[j]'HJL.out := by have := HJL.out; simp [rd_T51, this]
       obtain ⟨x, hx⟩ : ∃ x, x = rules[j]'HJL.out := ⟨_, rfl⟩
       have HMEM : Aside0 (x ∈ rules) := ⟨by rw [hx]; exact List.getElem_mem _⟩
       rw [hrd, ← hx] at q0 q1 q2 q3 q4 hl5 hC5
       have HSJ : Aside0 (cat (L ++ (p3 rules).take (j + 1)) = s ++ (ruleT x ++ bSemi)) := ⟨by rw [HS.out, p3, take_map _ _ HJL.out, ← List.append_assoc, cat_snoc, ← hx]⟩
       simp only [Int.toNat_natCast] at q0 q1 q2 q3 q4
       obtain ⟨y, hy⟩ : ∃ y, y = x.f0 := ⟨_, rfl⟩
       obtain ⟨k, hk⟩ : ∃ k, k = x.f1.f0 := ⟨_, rfl⟩
       obtain ⟨a0, ha0⟩ : ∃ a, a = x.f1.f1.f0 := ⟨_, rfl⟩
       obtain ⟨a1, ha1⟩ : ∃ a, a = x.f1.f1.f1 := ⟨_, rfl⟩
       obtain ⟨m, hm⟩ : ∃ m, m = x.f1.f2.length := ⟨_, rfl⟩
       have HV : Aside0 (cdV x.f1 A5 c5 = .agg #[.int .i64 k, .string a0, .string a1, .slice A5 m c5]) := ⟨by rw [hk, ha0, ha1, hm]; rfl⟩
       rw [← hy] at q0
       rw [← hk] at q1
       rw [← ha0] at q2
       rw [← ha1] at q3
       rw [← hm] at q4
       have HQ1 : Aside0 (_ ∧ _ ∧ _ ∧ _ ∧ _) := ⟨⟨q0, q1, q2, q3, q4⟩⟩
       replace q0 : wq.drew.cell? _ = _ := (HB.out.cell (World.block_lt_of_cell? w1 _ q0)).trans q0
       replace q1 : wq.drew.cell? _ = _ := (HB.out.cell (World.block_lt_of_cell? w1 _ q1)).trans q1
       replace q2 : wq.drew.cell? _ = _ := (HB.out.cell (World.block_lt_of_cell? w1 _ q2)).trans q2
       replace q3 : wq.drew.cell? _ = _ := (HB.out.cell (World.block_lt_of_cell? w1 _ q3)).trans q3
       replace q4 : wq.drew.cell? _ = _ := (HB.out.cell (World.block_lt_of_cell? w1 _ q4)).trans q4
       have hbl := World.block_lt_of_cell? wq.drew _ q0
       have HC5 := Aside0.mk hC5
       have HL5 := Aside0.mk hl5
       have HSY := Aside0.mk (verb_calls y wq.drew)
       have HBW : Aside0 (Below w1.heap.size w1 wq.drew) := ⟨below_drew HB.out⟩
       obtain ⟨sy, hsy⟩ : ∃ sy, sy = sayB y := ⟨_, rfl⟩
       have hss : sy.size ≤ 10 := by rw [hsy]; cases y <;> decide
       rw [← hsy] at HSY
       obtain ⟨ct, hct⟩ : ∃ ct, ct = condT x.f1 := ⟨_, rfl⟩
       have hcs : ct.size ≤ 1000000000 := by rw [hct]; exact (HO.out.rr x HMEM.out).size
       have HRT : Aside0 (s ++ sy ++ (⟨#[32, 105, 102, 32]⟩ : ByteArray) ++ ct ++ (⟨#[59, 10]⟩ : ByteArray) = cat (L ++ (p3 rules).take (j + 1))) := ⟨by
        rw [HSJ.out, ruleT, ← hy, ← hsy, ← hct]
        simp only [ByteArray.append_assoc]; rfl⟩
       have HCT := Aside0.mk hct
       have hz1 : (s ++ sy).size ≤ 100000000000002 + 10 := by rw [size_app]; omega
       have hz2 : (s ++ sy ++ (⟨#[32, 105, 102, 32]⟩ : ByteArray)).size ≤ 100000000000002 + 20 := by rw [size_app, show (⟨#[32, 105, 102, 32]⟩ : ByteArray).size = 4 from rfl]; omega
       have hz3 : (s ++ sy ++ (⟨#[32, 105, 102, 32]⟩ : ByteArray) ++ ct).size ≤ 100000000000002 + 1000000020 := by rw [size_app]; omega
       have hz4 : (⟨#[32, 105, 102, 32]⟩ : ByteArray).size = 4 := rfl
       have hz5 : (⟨#[59, 10]⟩ : ByteArray).size = 2 := rfl
       clear hrd hx hm hk ha0 ha1 hy hj hsy hct hC5 hl5
       go_upto_region 26 with (fail)
       have t3 : wq.drew.cell? ⟨w.heap.size, 3, none⟩ = some (.slice (some ad) n3 c3) := t3
       refine start_ (n := 20) (S := fun w' => w'.cell? ⟨w.heap.size, 3, none⟩ = some (.slice (some ad) n3 c3) ∧ w'.cell? (ad.add (j * 5)) = some (.bool y) ∧ w'.cell? ⟨(ad.add (j * 5)).block, (ad.add (j * 5)).off + 1, none⟩ = some (.int .i64 k) ∧ w'.cell? ⟨(ad.add (j * 5)).block, (ad.add (j * 5)).off + 2, none⟩ = some (.string a0) ∧ w'.cell? ⟨(ad.add (j * 5)).block, (ad.add (j * 5)).off + 3, none⟩ = some (.string a1) ∧ w'.cell? ⟨(ad.add (j * 5)).block, (ad.add (j * 5)).off + 4, none⟩ = some (.slice A5 m c5)) (ds := []) #[false, false, false, false, false, false, false, false, false, false, false, false, false, false, false, false, false, false, false, false] (by kernel_rfl) rfl rfl ⟨t3, q0, q1, q2, q3, q4⟩ (fun hHeld => ?_)
       refine pure_ (i := 0) (N := some 94) (v := ?_) (a' := ?_) #[true, false, false, false, false, false, false, false, false, false, false, false, false, false, false, false, false, false, false, false] rfl rfl (by kernel_rfl) (fun _ _ _ h => h) (Or.inl ⟨by rfl, ?_⟩) ?_ ?_
       rotate_left
       ·exact sTe8_3
       rotate_left
       ·exact nTe8_
       refine pure_ (i := 1) (N := some 95) (v := ?_) (a' := ?_) #[true, true, false, false, false, false, false, false, false, false, false, false, false, false, false, false, false, false, false, false] rfl rfl (by kernel_rfl) (fun _ _ _ h => h) (Or.inl ⟨by rfl, ?_⟩) ?_ ?_
       rotate_left
       ·exact sTe8_3
       rotate_left
       ·exact nTe8_
       refine pure_ (i := 3) (N := some 97) (v := ?_) (a' := ?_) #[true, true, false, true, false, false, false, false, false, false, false, false, false, false, false, false, false, false, false, false] rfl rfl (by kernel_rfl) (fun _ _ _ h => h) (Or.inl ⟨by rfl, ?_⟩) ?_ ?_
       rotate_left
       ·exact sTe8_3
       rotate_left
       ·exact nTe8_
       refine pure_ (i := 10) (N := some 104) (v := ?_) (a' := ?_) #[true, true, false, true, false, false, false, false, false, false, true, false, false, false, false, false, false, false, false, false] rfl rfl (by kernel_rfl) (fun _ _ _ h => h) (Or.inl ⟨by rfl, ?_⟩) ?_ ?_
       rotate_left
       ·exact sTe8_3
       rotate_left
       ·exact nTe8_
       refine pure_ (i := 12) (N := some 106) (v := ?_) (a' := ?_) #[true, true, false, true, false, false, false, false, false, false, true, false, true, false, false, false, false, false, false, false] rfl rfl (by kernel_rfl) (fun _ _ _ h => h) (Or.inl ⟨by rfl, ?_⟩) ?_ ?_
       rotate_left
       ·exact sTe8_3
       rotate_left
       ·exact nTe8_
       refine take_ (i := 2) (N := some 96) (v := ?_) (a' := ?_) #[true, true, true, true, false, false, false, false, false, false, true, false, true, false, false, false, false, false, false, false] rfl rfl (by kernel_rfl) (fun _ _ _ h => h) (Or.inl ⟨by rfl, ?_⟩) hHeld ?_ ?_
       rotate_left
       ·rintro w' ⟨s0, s1, s2, s3, s4, s5⟩
        go_simp
        with_reducible rfl
       rotate_left
       ·exact nTe8_
       refine pure_ (i := 4) (N := some 98) (v := ?_) (a' := ?_) #[true, true, true, true, true, false, false, false, false, false, true, false, true, false, false, false, false, false, false, false] rfl rfl (by kernel_rfl) (fun _ _ _ h => h) (Or.inl ⟨by rfl, ?_⟩) ?_ ?_
       rotate_left
       ·exact sTe8_3
       rotate_left
       ·exact nTe8_
       refine pure_ (i := 5) (N := some 99) (v := ?_) (a' := ?_) #[true, true, true, true, true, true, false, false, false, false, true, false, true, false, false, false, false, false, false, false] rfl rfl (by kernel_rfl) (fun _ _ _ h => h) (Or.inl ⟨by rfl, ?_⟩) ?_ ?_
       rotate_left
       ·exact sTe8_3
       rotate_left
       ·exact nTe8_
       refine take_ (i := 6) (N := some 100) (v := ?_) (a' := ?_) #[true, true, true, true, true, true, true, false, false, false, true, false, true, false, false, false, false, false, false, false] rfl rfl (by kernel_rfl) (fun _ _ _ h => h) (Or.inl ⟨by rfl, ?_⟩) hHeld ?_ ?_
       rotate_left
       ·rintro w' ⟨s0, s1, s2, s3, s4, s5⟩
        go_simp
        with_reducible rfl
       rotate_left
       ·exact nTe8_
       refine take_ (i := 11) (N := some 105) (v := ?_) (a' := ?_) #[true, true, true, true, true, true, true, false, false, false, true, true, true, false, false, false, false, false, false, false] rfl rfl (by kernel_rfl) (fun _ _ _ h => h) (Or.inl ⟨by rfl, ?_⟩) hHeld ?_ ?_
       rotate_left
       ·rintro w' ⟨s0, s1, s2, s3, s4, s5⟩
        go_simp
        with_reducible rfl
       rotate_left
       ·exact nTe8_
       refine pure_ (i := 13) (N := some 107) (v := ?_) (a' := ?_) #[true, true, true, true, true, true, true, false, false, false, true, true, true, true, false, false, false, false, false, false] rfl rfl (by kernel_rfl) (fun _ _ _ h => h) (Or.inl ⟨by rfl, ?_⟩) ?_ ?_
       rotate_left
       ·exact sTe8_3
       rotate_left
       ·exact nTe8_
       refine pure_ (i := 14) (N := some 108) (v := ?_) (a' := ?_) #[true, true, true, true, true, true, true, false, false, false, true, true, true, true, true, false, false, false, false, false] rfl rfl (by kernel_rfl) (fun _ _ _ h => h) (Or.inl ⟨by rfl, ?_⟩) ?_ ?_
       rotate_left
       ·exact sTe8_3
       rotate_left
       ·exact nTe8_
       refine take_ (i := 15) (N := some 109) (v := ?_) (a' := ?_) #[true, true, true, true, true, true, true, false, false, false, true, true, true, true, true, true, false, false, false, false] rfl rfl (by kernel_rfl) (fun _ _ _ h => h) (Or.inl ⟨by rfl, ?_⟩) hHeld ?_ ?_
       rotate_left
       ·rintro w' ⟨s0, s1, s2, s3, s4, s5⟩
        go_simp
        with_reducible rfl
       rotate_left
       ·exact nTe8_
       refine one_ (i := 7) (N := some 101) #[true, true, true, true, true, true, true, true, false, false, true, true, true, true, true, true, false, false, false, false] rfl rfl (by kernel_rfl) (by decide) (fun K hK => ?_)
       refine goes_ Tryd.func43 (by kernel_rfl) rfl #[.bool y] (by rfl) rfl rfl (by simp only [List.map_toArray, List.map_cons, List.map_nil]; rfl) ?_
       refine HSY.out.mono ?_
       rintro e w6 ⟨rfl, hb6⟩
       refine ⟨_, rfl, ?_⟩
       have HB6 : Aside0 (Below w1.heap.size w1 w6) := ⟨HBW.out.trans (hb6.mono HBW.out.size)⟩
       have HCC := Aside0.mk (rtext_cond (HR.out x HMEM.out).1 (HR.out x HMEM.out).2 A5 c5 w6 (Kd.C_below HC5.out HB6.out) HL5.out)
       rw [HV.out, ← HCT.out] at HCC
       clear hb6
       refine hK.out _ _ ⟨(blk_cell (blk_below HX.out HB6.out) 3), ((HB6.out.cell (World.block_lt_of_cell? w1 _ HQ1.out.1)).trans HQ1.out.1), ((HB6.out.cell (World.block_lt_of_cell? w1 _ HQ1.out.2.1)).trans HQ1.out.2.1), ((HB6.out.cell (World.block_lt_of_cell? w1 _ HQ1.out.2.2.1)).trans HQ1.out.2.2.1), ((HB6.out.cell (World.block_lt_of_cell? w1 _ HQ1.out.2.2.2.1)).trans HQ1.out.2.2.2.1), ((HB6.out.cell (World.block_lt_of_cell? w1 _ HQ1.out.2.2.2.2)).trans HQ1.out.2.2.2.2)⟩ (fun hHeld => ?_)
       clear hK K
       refine norm_ (a' := ?_) ?_ ?_
       rotate_left
       ·show Act.put _ (some 101) _ = _
        exact nTe8_
       refine pure_ (i := 8) (N := some 102) (v := ?_) (a' := ?_) #[true, true, true, true, true, true, true, true, true, false, true, true, true, true, true, true, false, false, false, false] rfl rfl (by kernel_rfl) (fun _ _ _ h => h) (Or.inl ⟨by rfl, ?_⟩) ?_ ?_
       rotate_left
       ·intro w'
        go_simp
        rw [if_neg (by omega)]
       rotate_left
       ·exact nTe8_
       refine pure_ (i := 9) (N := some 103) (v := ?_) (a' := ?_) #[true, true, true, true, true, true, true, true, true, true, true, true, true, true, true, true, false, false, false, false] rfl rfl (by kernel_rfl) (fun _ _ _ h => h) (Or.inl ⟨by rfl, ?_⟩) ?_ ?_
       rotate_left
       ·intro w'
        go_simp
        rw [if_neg (by omega)]
       rotate_left
       ·exact nTe8_
       refine one_ (i := 16) (N := some 110) #[true, true, true, true, true, true, true, true, true, true, true, true, true, true, true, true, true, false, false, false] rfl rfl (by kernel_rfl) (by decide) (fun K hK => ?_)
       refine goes_ Tryd.func44 (by kernel_rfl) rfl #[.agg #[.int .i64 k, .string a0, .string a1, .slice A5 m c5]] (by rfl) rfl rfl (by simp only [List.map_toArray, List.map_cons, List.map_nil]; rfl) ?_
       refine HCC.out.mono ?_
       rintro e w8 ⟨rfl, hb8⟩
       refine ⟨_, rfl, ?_⟩
       have HB8 : Aside0 (Below w1.heap.size w1 w8) := ⟨HB6.out.trans (hb8.mono HB6.out.size)⟩
       clear hb8
       refine hK.out _ _ ⟨(blk_cell (blk_below HX.out HB8.out) 3), ((HB8.out.cell (World.block_lt_of_cell? w1 _ HQ1.out.1)).trans HQ1.out.1), ((HB8.out.cell (World.block_lt_of_cell? w1 _ HQ1.out.2.1)).trans HQ1.out.2.1), ((HB8.out.cell (World.block_lt_of_cell? w1 _ HQ1.out.2.2.1)).trans HQ1.out.2.2.1), ((HB8.out.cell (World.block_lt_of_cell? w1 _ HQ1.out.2.2.2.1)).trans HQ1.out.2.2.2.1), ((HB8.out.cell (World.block_lt_of_cell? w1 _ HQ1.out.2.2.2.2)).trans HQ1.out.2.2.2.2)⟩ (fun hHeld => ?_)
       clear hK K
       refine norm_ (a' := ?_) ?_ ?_
       rotate_left
       ·show Act.put _ (some 110) _ = _
        exact nTe8_
       refine pure_ (i := 17) (N := some 111) (v := ?_) (a' := ?_) #[true, true, true, true, true, true, true, true, true, true, true, true, true, true, true, true, true, true, false, false] rfl rfl (by kernel_rfl) (fun _ _ _ h => h) (Or.inl ⟨by rfl, ?_⟩) ?_ ?_
       rotate_left
       ·intro w'
        go_simp
        rw [if_neg (by omega)]
       rotate_left
       ·exact nTe8_
       refine pure_ (i := 18) (N := some 112) (v := ?_) (a' := ?_) #[true, true, true, true, true, true, true, true, true, true, true, true, true, true, true, true, true, true, true, false] rfl rfl (by kernel_rfl) (fun _ _ _ h => h) (Or.inl ⟨by rfl, ?_⟩) ?_ ?_
       rotate_left
       ·intro w'
        go_simp
        rw [if_neg (by omega)]
       rotate_left
       ·exact nTe8_
       refine pure_ (i := 19) (N := some 3) (v := ?_) (a' := ?_) #[true, true, true, true, true, true, true, true, true, true, true, true, true, true, true, true, true, true, true, true] rfl rfl (by kernel_rfl) (fun _ _ _ h => h) (Or.inl ⟨by rfl, ?_⟩) ?_ ?_
       rotate_left
       ·exact sTe8_3
       rotate_left
       ·exact nTe8_
       refine done_ (by kernel_rfl) ?_

       clear t3 q0 q1 q2 q3 q4 hbl l1 l2 l3
       go_wp2
       go_roundg (rules.length - (j + 1))
       case measure => have := HGK.out; have := HJL.out; omega
       case rel => exact ⟨j + 1, _, by first | rfl | go_num, rfl, ⟨HJL.out⟩, ⟨Nat.le_refl _⟩, HRT, HB8⟩
      ·have l1 : decide (j < n3) = false := decide_eq_false hj
       have l2 : decide ((j : Int) < (n3 : Int)) = false := decide_eq_false (by omega)
       have l3 : ¬ (j : Int) < (n3 : Int) := by omega
       have HS3 : Aside0 (s = cat (L ++ p3 rules)) := ⟨by
        have h := HS.out
        rwa [List.take_of_length_le (by rw [p3, List.length_map]; have := HN3.out; omega)] at h⟩
       have t4 : wq.cell? ⟨w.heap.size, 4, none⟩ = some (.bool allow) := blk_cell (blk_below HX.out HB.out) 4
       have HSY := Aside0.mk (verb_calls allow wq)
       obtain ⟨sy, hsy⟩ : ∃ sy, sy = sayB allow := ⟨_, rfl⟩
       have hss : sy.size ≤ 10 := by rw [hsy]; cases allow <;> decide
       rw [← hsy] at HSY
       have hz1 : (s ++ (⟨#[100, 101, 102, 97, 117, 108, 116, 32]⟩ : ByteArray)).size ≤ 100000000000002 + 10 := by rw [size_app, show (⟨#[100, 101, 102, 97, 117, 108, 116, 32]⟩ : ByteArray).size = 8 from rfl]; omega
       have hz2 : (s ++ (⟨#[100, 101, 102, 97, 117, 108, 116, 32]⟩ : ByteArray) ++ sy).size ≤ 100000000000002 + 20 := by rw [size_app]; omega
       have HE : Aside0 (s ++ (⟨#[100, 101, 102, 97, 117, 108, 116, 32]⟩ : ByteArray) ++ sy ++ (⟨#[59, 10]⟩ : ByteArray) = polText csp sh mixed rules allow) := ⟨by rw [HS3.out, hsy, ← cat_pol, cat_snoc, HLE.out, ap4]; rfl⟩
       clear hj HS HJ HGK hsy
       go_wp2_with fail
       refine HSY.out.mono ?_
       rintro e w6 ⟨rfl, hb6⟩
       dsimp only
       have HB6 : Aside0 (Below w1.heap.size w1 w6) := ⟨HB.out.trans (hb6.mono HB.out.size)⟩
       clear hb6 HSY t4 t3
       go_wp2
       go_ret
       exact ⟨by rw [← HE.out]; rfl, HB1.out.trans (HB6.out.mono HB1.out.size)⟩
end Go.Proofs.YtngedmioeodmfaaDoor.Pu
namespace Go.Proofs.YtngedmioeodmfaaDoor.Pu
open Go.RowKit Go.Proofs.YtngedmioeodmfaaDoor.Pr Go.Proofs.YtngedmioeodmfaaDoorW.PrintWords Go.Proofs.YtngedmioeodmfaaDoorW.PrintMore Go.Proofs.YtngedmioeodmfaaDoor.Lx
open Go.Proofs.YtngedmioeodmfaaDoor.Ps hiding Tk
theorem mx_le {a b n : Int} (ha : 0 ≤ a ∧ a ≤ n) (hb : 0 ≤ b ∧ b ≤ n) : 0 ≤ mx a b ∧ mx a b ≤ n := by
 unfold mx; split
 ·exact hb
 ·exact ha
def DepB (c : Cd) (d : Int) : Prop := Ev (fun k => parse_Depth.f k c.f0 c.f1.f0 c.f1.f1 c.f2) d ∧ Ev (fun k => parapetref19_Depth.f k c.f0 c.f1.f0 c.f1.f1 c.f2) d
theorem dep_loop (l : List Cd) (a0 : Int) (a1 a2 : ByteArray) (h : ∀ c ∈ l, ∃ d : Int, (0 ≤ d ∧ d ≤ 1000000) ∧ DepB c d) (hl : l.length ≤ 1000000) : ∀ (m i : Nat) (x : Int), i + m = l.length → 0 ≤ x ∧ x ≤ 1000000 →
  ∃ d : Int, (0 ≤ d ∧ d ≤ 1000001) ∧ Ev (fun k => parse_Depth.l0 k x l (l.length : Int) (i : Int)) d ∧ Ev (fun k => parapetref19_Depth.l0 k x (i : Int) a0 a1 a2 l) d
 | 0, i, x, hi, hx => by
  refine ⟨x + 1, ⟨by omega, by omega⟩, ?_, ?_⟩
  ·refine Ev.step (f := fun _ => some (x + 1)) (fun k => ?_) (Ev.const fun _ => rfl)
   simp only [parse_Depth.l0]
   rw [if_neg (by omega), w64 (by omega) (by omega)]
  ·refine Ev.step (f := fun _ => some (x + 1)) (fun k => ?_) (Ev.const fun _ => rfl)
   simp only [parapetref19_Depth.l0]
   rw [if_neg (by omega), w64 (by omega) (by omega)]
 | m + 1, i, x, hi, hx => by
  obtain ⟨d, hd, h1, h2⟩ := h _ (rd_mem (l := l) (i := i) (by omega))
  obtain ⟨r, hr, e1, e2⟩ := dep_loop l a0 a1 a2 h hl m (i + 1) (mx x d) (by omega) (mx_le hx hd)
  refine ⟨r, hr, ?_, ?_⟩
  ·refine Ev.step (f := fun k => (parse_Depth.f k (rd_T49 l (i : Int)).f0 (rd_T49 l (i : Int)).f1.f0 (rd_T49 l (i : Int)).f1.f1 (rd_T49 l (i : Int)).f2).bind fun t => parse_Depth.l0 k (mx x t) l (l.length : Int) ((i + 1 : Nat) : Int)) (fun k => ?_) (Ev.bind h1 e1)
   simp only [parse_Depth.l0]
   rw [if_pos (by omega), if_pos (by omega), if_pos (by omega), w64 (by omega) (by omega)]
   rfl
  ·refine Ev.step (f := fun k => (parapetref19_Depth.f k (rd_T49 l (i : Int)).f0 (rd_T49 l (i : Int)).f1.f0 (rd_T49 l (i : Int)).f1.f1 (rd_T49 l (i : Int)).f2).bind fun t => parapetref19_Depth.l0 k (mx x t) ((i + 1 : Nat) : Int) a0 a1 a2 l) (fun k => ?_) (Ev.bind h2 e2)
   simp only [parapetref19_Depth.l0]
   rw [if_pos (by omega), if_pos (by omega), w64 (by omega) (by omega)]
   rfl
theorem mx_sz {a b : Int} {n : Nat} (ha : a ≤ n) (hb : b ≤ n) : mx a b ≤ n := by
 unfold mx; split
 ·exact hb
 ·exact ha
theorem dep_bound (l : List Cd) (n : Nat) (h : ∀ c ∈ l, ∀ d, DepB c d → d ≤ n) : ∀ (m i : Nat) (x r : Int), i + m = l.length → x ≤ n → 0 ≤ x → (∀ c ∈ l, ∃ d : Int, (0 ≤ d ∧ d ≤ 1000000) ∧ DepB c d) → n ≤ 1000000 → l.length ≤ 1000000 → Ev (fun k => parse_Depth.l0 k x l (l.length : Int) (i : Int)) r → r ≤ n + 1
 | 0, i, x, r, hi, hx, hx0, _, hn, hl, he => by
  obtain ⟨K, hK⟩ := he
  have h1 := hK (K + 1) (Nat.le_succ _)
  simp only [parse_Depth.l0] at h1
  rw [if_neg (by omega), w64 (by omega) (by omega)] at h1
  have := Option.some.inj h1
  omega
 | m + 1, i, x, r, hi, hx, hx0, hall, hn, hl, he => by
  obtain ⟨d, hd, hb⟩ := hall _ (rd_mem (l := l) (i := i) (by omega))
  have hdn := h _ (rd_mem (l := l) (i := i) (by omega)) d hb
  refine dep_bound l n h m (i + 1) (mx x d) r (by omega) (mx_sz hx hdn) (mx_le (n := 1000000) ⟨hx0, by omega⟩ hd).1 hall hn hl ?_
  obtain ⟨K, hK⟩ := he
  obtain ⟨K2, hK2⟩ := hb.1
  refine ⟨max K K2, fun k hk => ?_⟩
  have h1 := hK (k + 1) (by omega)
  simp only [parse_Depth.l0] at h1
  rw [if_pos (by omega), if_pos (by omega), if_pos (by omega), w64 (by omega) (by omega)] at h1
  have h2 := hK2 k (by omega)
  simp only at h2
  rw [h2] at h1
  exact h1
theorem dep_unique {g : Nat → Option Int} {a b : Int} (h1 : Ev g a) (h2 : Ev g b) : a = b := by
 obtain ⟨k1, h1⟩ := h1
 obtain ⟨k2, h2⟩ := h2
 have e1 := h1 (max k1 k2) (by omega)
 have e2 := h2 (max k1 k2) (by omega)
 rw [e1] at e2
 exact Option.some.inj e2
theorem dep_both : ∀ (n : Nat) (c : Cd), sizeC c ≤ n → n ≤ 1000000 → ∃ d : Int, (0 ≤ d ∧ d ≤ n) ∧ DepB c d
 | 0, c, h, _ => by rw [sizeC_eq] at h; omega
 | n + 1, c, h, hn => by
  rw [sizeC_eq] at h
  have hk : ∀ d ∈ c.f2, ∃ e : Int, (0 ≤ e ∧ e ≤ n) ∧ DepB d e := fun d hd => dep_both n d (by have := size_mem hd; omega) (by omega)
  have hk2 : ∀ d ∈ c.f2, ∃ e : Int, (0 ≤ e ∧ e ≤ 1000000) ∧ DepB d e := fun d hd => by
   obtain ⟨e, he, hb⟩ := hk d hd
   exact ⟨e, ⟨he.1, by omega⟩, hb⟩
  have hl : c.f2.length ≤ 1000000 := by have := sizeL_len c.f2; omega
  obtain ⟨d, hd, h1, h2⟩ := dep_loop c.f2 c.f0 c.f1.f0 c.f1.f1 hk2 hl c.f2.length 0 0 (by omega) ⟨by omega, by omega⟩
  have hb := dep_bound c.f2 n (fun x hx e he => by
   obtain ⟨e2, he2, hb2⟩ := hk x hx
   have := dep_unique he.1 hb2.1
   omega) c.f2.length 0 0 d (by omega) (by omega) (by omega) hk2 (by omega) hl h1
  refine ⟨d, ⟨hd.1, by omega⟩, ?_, ?_⟩
  ·exact Ev.step (f := fun k => parse_Depth.l0 k 0 c.f2 (c.f2.length : Int) 0) (fun k => by rw [parse_Depth.f]) h1
  ·exact Ev.step (f := fun k => parapetref19_Depth.l0 k 0 0 c.f0 c.f1.f0 c.f1.f1 c.f2) (fun k => by rw [parapetref19_Depth.f]) h2
theorem depth_calls {c : Cd} (h : sizeC c ≤ 100000) : ∃ d : Int, (∀ (A : Option Addr) (c3 : Nat) (w : World), k49.C w A c.f2.length c.f2 → c.f2.length ≤ c3 → Calls Tryd.prog 16 #[.agg #[.int .i64 c.f0, .string c.f1.f0, .string c.f1.f1, .slice A c.f2.length c3]] w fun e w' => e = .returned (.int .i64 d) ∧ Below w.heap.size w w') ∧
  (∀ (A : Option Addr) (c3 : Nat) (w : World), k49.C w A c.f2.length c.f2 → c.f2.length ≤ c3 → Calls Tryd.prog 18 #[.agg #[.int .i64 c.f0, .string c.f1.f0, .string c.f1.f1, .slice A c.f2.length c3]] w fun e w' => e = .returned (.int .i64 d) ∧ Below w.heap.size w w') := by
 obtain ⟨d, _, ⟨k1, h1⟩, ⟨k2, h2⟩⟩ := dep_both (sizeC c) c (Nat.le_refl _) (by omega)
 exact ⟨d, fun A c3 w hC hl => parse_Depth.calls k1 _ _ _ A c3 _ d w hC hl (h1 k1 (Nat.le_refl _)), fun A c3 w hC hl => parapetref19_Depth.calls k2 _ _ _ A c3 _ d w hC hl (h2 k2 (Nat.le_refl _))⟩
end Go.Proofs.YtngedmioeodmfaaDoor.Pu
namespace Go.Proofs.YtngedmioeodmfaaDoor.Pu
open Go.RowKit Go.Proofs.YtngedmioeodmfaaDoor.Pr Go.Proofs.YtngedmioeodmfaaDoorW.PrintWords Go.Proofs.YtngedmioeodmfaaDoorW.PrintLast Go.Proofs.YtngedmioeodmfaaDoorW.PrintMore Go.Proofs.YtngedmioeodmfaaDoor.Lx
open Go.Proofs.YtngedmioeodmfaaDoor.Ps hiding Tk
theorem pol_any0 (x : ByteArray) (w : World) (hL : Laid w) : Calls Tryd.prog 12 #[.string x] w (PolQ w (polA x)) := by
 obtain ⟨k, hk⟩ := tokens_ev x
 obtain ⟨T, hT⟩ : ∃ T, T = tokM x := ⟨_, rfl⟩
 have h := hk k (Nat.le_refl _)
 have ho := okTk_iff.1 (okTk_tokM x)
 rw [polA]
 rw [← hT] at h ho ⊢
 obtain ⟨T, c, a⟩ := T
 exact policy_calls0 x k T c a w hL h ho.2 ho.1
theorem pol_any (x : ByteArray) (hx : x.size ≤ 1000000) (w : World) (hL : Laid w) : Calls Tryd.prog 12 #[.string x] w (PolQ w (polA x)) := pol_any0 x w hL
def awakeC : Cd := ⟨5, ⟨⟨#[]⟩, ⟨#[]⟩⟩, [⟨4, ⟨⟨#[]⟩, ⟨#[]⟩⟩, [⟨3, ⟨wHost, ⟨#[97]⟩⟩, []⟩]⟩, ⟨6, ⟨⟨#[]⟩, ⟨#[]⟩⟩, [⟨3, ⟨wCreds, ⟨#[]⟩⟩, []⟩, ⟨3, ⟨wCors, ⟨#[]⟩⟩, []⟩]⟩]⟩
theorem polA_awake : polA awakeT = .ok ⟨[], [], wBlock, [⟨true, awakeC⟩], false, 1, 0, 0⟩ := by kernel_rfl
theorem rule_open {w : World} {base : Nat} {ok : Nat → Prop} {v : Value} {c : Rl} (h : k51.R 51 w base ok v [c]) : ∃ gl cap v4, v = .slice (some ⟨gl, 0, none⟩) 1 cap ∧ 1 ≤ cap ∧ w.cell? ⟨gl, 1, none⟩ = some (.int .i64 c.f1.f0) ∧ w.cell? ⟨gl, 4, none⟩ = some v4 ∧ ∃ ok', k49.R 49 w base ok' v4 c.f1.f2 := by
 obtain ⟨gl, cap, rfl, _, _, _⟩ := Kd.R_form h (by simp)
 obtain ⟨A', c', he, hcc, _⟩ := Kd.R_reads h
 cases he
 obtain ⟨h0, inner, hown, hr⟩ := h
 have hlen : inner.length = 5 := hr.1
 have hM := hr.2 0 c rfl
 have hin : (inner.drop (0 * 5)).take 5 = inner := by rw [Nat.zero_mul, List.drop_zero, List.take_of_length_le (by omega)]
 have hM' : k51.M w base (fun k => ok k ∧ some k ≠ (Value.slice (some ⟨gl, 0, none⟩) 1 cap).ownBlock) c inner := by
  have h2 : k51.M w base (fun k => ok k ∧ some k ≠ (Value.slice (some ⟨gl, 0, none⟩) 1 cap).ownBlock) c ((inner.drop (0 * 5)).take 5) := hM
  rwa [hin] at h2
 obtain ⟨v4, e4, hR⟩ := k51_openM hM'
 subst e4
 exact ⟨gl, cap, v4, rfl, hcc, by simpa [add_plain] using hown.cells (g := gl) rfl 1 _ rfl, by simpa [add_plain] using hown.cells (g := gl) rfl 4 _ rfl, _, hR⟩
set_option maxHeartbeats 16000000 in
set_option maxRecDepth 100000 in
theorem awake_walk (w : World) (hL : Laid w) : Calls Tryd.prog 11 #[] w fun e w' => e = .returned (.bool true) ∧ Below w.heap.size w w' := by
 have h1 := pol_any awakeT (by decide) w hL
 rw [polA_awake] at h1
 have H1 := Aside0.mk h1
 clear h1 hL
 go_enter Tryd.func11, Tryd.ntmps11
 go_wp2_with fail
 refine H1.out.mono ?_
 rintro e w1 ⟨v0, v1, v3, rfl, hv, hb⟩
 unfold polcells faultV
 dsimp only
 have HB := Aside0.mk hb
 obtain ⟨A0, c0, e0⟩ := Kd.R_slice hv.rC
 obtain ⟨A1, c1, e1⟩ := Kd.R_slice hv.rS
 obtain ⟨g3, c3, v4, e3, hl3, lk, lq, ok4, hR4⟩ := rule_open hv.rR
 obtain ⟨g4, c4, e4, _, _, _⟩ := Kd.R_form hR4 (by decide)
 rw [e4] at lq hR4
 obtain ⟨ad2, A5, c5, hA2, r0, _q5⟩ := at_T49 (Kd.R_reads' hR4).2.2 1 (by decide) (by decide)
 obtain rfl : (⟨g4, 0, none⟩ : Addr) = ad2 := Option.some.inj hA2
 subst e0 e1 e3
 obtain ⟨w2, hw2⟩ : ∃ w2, w2 = (((w1.alloc (.cells #[.slice none 0 0, .slice none 0 0, .string ⟨#[]⟩, .slice none 0 0, .bool false] 27)).alloc (.cells #[.int .i64 0, .int .i64 0] 30)).setRow w1.heap.size (polcells (.slice A0 0 c0) (.slice A1 0 c1) wBlock (.slice (some ⟨g3, 0, none⟩) 1 c3) false)).setRow (w1.heap.size + 1) #[.int .i64 0, .int .i64 0] := ⟨_, rfl⟩
 have hb2 : Below w1.heap.size w1 w2 := by rw [hw2]; exact below_setRow (below_setRow (below_alloc (below_alloc (Below.refl _ _) _) _) (Nat.le_refl _) _) (Nat.le_succ _) _
 have p0 : w2.heap[w1.heap.size]? = some (.cells (polcells (.slice A0 0 c0) (.slice A1 0 c1) wBlock (.slice (some ⟨g3, 0, none⟩) 1 c3) false) 27 (0, 0)) := by rw [hw2]; exact (setRow_other _ _ _ _ (by omega)).trans (setRow_heap _ _ _ _ _ _ (blk_alloc (blk_new _ _) _))
 have p1 : w2.heap[w1.heap.size + 1]? = some (.cells #[.int .i64 0, .int .i64 0] 30 (0, 0)) := by rw [hw2]; exact setRow_heap _ _ _ _ _ _ ((setRow_other _ _ _ _ (by omega)).trans (blk_new2 _ _ _ _ _))
 have u0 : w2.cell? ⟨w1.heap.size + 1, 0, none⟩ = some (.int .i64 0) := blk_cell p1 0
 have u2 : w2.cell? ⟨w1.heap.size, 2, none⟩ = some (.string wBlock) := blk_cell p0 2
 have u3 : w2.cell? ⟨w1.heap.size, 3, none⟩ = some (.slice (some ⟨g3, 0, none⟩) 1 c3) := blk_cell p0 3
 replace lk : w1.cell? ⟨g3, 1, none⟩ = some (.int .i64 5) := lk
 replace lq : w1.cell? ⟨g3, 4, none⟩ = some (.slice (some ⟨g4, 0, none⟩) 2 c4) := lq
 have lr : w1.cell? ⟨g4, 4, none⟩ = some (.int .i64 6) := by simpa [add_plain, rd_T49, awakeC] using r0
 replace lk := (hb2.cell (World.block_lt_of_cell? w1 _ lk)).trans lk
 replace lq := (hb2.cell (World.block_lt_of_cell? w1 _ lq)).trans lq
 replace lr := (hb2.cell (World.block_lt_of_cell? w1 _ lr)).trans lr
 have HB2 := Aside0.mk (HB.out.trans (hb2.mono HB.out.size))
 have tb : (wBlock.toList == [98, 108, 111, 99, 107]) = true := by decide +kernel
 have hl4 : 2 ≤ c4 := (Kd.R_reads' hR4).2.1
 clear _q5 hv hb hR4 hA2 r0 hb2 p0 p1 HB H1
 go_upto_region 2 with (first | refine wpList_store_row rfl 27 _ _ rfl w1.heap.size (polcells (.slice A0 0 c0) (.slice A1 0 c1) wBlock (.slice (some ⟨g3, 0, none⟩) 1 c3) false) rfl rfl 27 (polcells (.slice none 0 0) (.slice none 0 0) ⟨#[]⟩ (.slice none 0 0) false) (blk_alloc (blk_new _ _) _) size_pol rfl (pol_one ⟨rfl, rfl, rfl⟩ _ _) ?_ | refine wpList_store_row rfl 30 _ _ rfl (w1.heap.size + 1) #[.int .i64 0, .int .i64 0] rfl rfl 30 #[.int .i64 0, .int .i64 0] ((setRow_other _ _ _ _ (by omega)).trans (blk_new2 _ _ _ _ _)) size_fault rfl (by simp [Value.oneCell']) ?_)
 rw [← hw2]
 clear hw2
 go_wp2
 go_ret
 exact ⟨rfl, HB2.out⟩
end Go.Proofs.YtngedmioeodmfaaDoor.Pu
namespace Go.Proofs.YtngedmioeodmfaaDoor.Pu
open Go.RowKit Go.Proofs.YtngedmioeodmfaaDoor.Pr Go.Proofs.YtngedmioeodmfaaDoorW.PrintWords Go.Proofs.YtngedmioeodmfaaDoorW.PrintLast Go.Proofs.YtngedmioeodmfaaDoorW.PrintMore Go.Proofs.YtngedmioeodmfaaDoor.Lx
open Go.Proofs.YtngedmioeodmfaaDoor.Ps hiding Tk
def NZ {α : Type} (r : Except (Int × Int) α) : Prop := ∀ x, r = .error x → x.1 ≠ 0
theorem NZ.ok {α : Type} {a : α} : NZ (.ok a : Except (Int × Int) α) := fun _ h => by cases h
theorem NZ.err {α : Type} {c a : Int} (h : c ≠ 0) : NZ (.error (c, a) : Except (Int × Int) α) := fun _ he => by cases he; exact h
theorem NZ.bind {α β : Type} {r : Except (Int × Int) α} {s : Except (Int × Int) β} (h : NZ r) (he : ∀ x, r = .error x → s = .error x) (hk : ∀ a, r = .ok a → NZ s) : NZ s := by
 cases hr : r with
 | error x => rw [he x hr]; intro y hy; cases hy; exact h x hr
 | ok a => exact hk a hr
section
variable {T : List Tk} {e : Int}
theorem take_nz {k : Int} {p : Nat} : NZ (takeP T e k p) := by
 rw [takeP]; split
 ·exact .ok
 ·exact .err (by decide)
theorem word_nz {ws : List ByteArray} {p : Nat} : NZ (wordP T e ws p) := by
 rw [wordP]; split
 ·exact take_nz
 ·exact .err (by decide)
theorem kidsL_nz {one : Nat → Res Cd} (h : ∀ p, NZ (one p)) {w : ByteArray} : ∀ f acc p, NZ (kidsL T e one w f acc p)
 | 0, acc, p => .ok
 | f + 1, acc, p => by
  rw [kidsL]
  split
  ·refine (h (p + 1)).bind (fun x hx => by rw [hx]) (fun a ha => ?_)
   rw [ha]
   exact kidsL_nz h f _ _
  ·exact .ok
theorem kidsP_nz {one : Nat → Res Cd} (h : ∀ p, NZ (one p)) {w : ByteArray} {kind : Int} (p : Nat) : NZ (kidsP T e kind w one p) := by
 rw [kidsP]
 refine (h p).bind (fun x hx => by rw [hx]) (fun a ha => ?_)
 rw [ha]
 obtain ⟨c, q⟩ := a
 refine (kidsL_nz (T := T) (e := e) h (w := w) (T.length + 1 - q) [c] q).bind (fun x hx => by simp only [hx]) (fun b hb => ?_)
 simp only [hb]
 split <;> exact .ok
theorem atomT_nz {w : ByteArray} {f : ByteArray → ByteArray} {r : Res ByteArray} (h : NZ r) : NZ (atomT w f r) := h.bind (fun x hx => by rw [hx]; rfl) (fun a ha => by rw [ha]; exact .ok)
theorem atomP_nz {p : Nat} : NZ (atomP T e p) := by
 rw [atomP]
 refine word_nz.bind (fun x hx => by rw [hx]) (fun a ha => ?_)
 rw [ha]
 unfold atomK
 dsimp only
 repeat' split
 all_goals first | exact .ok | exact atomT_nz take_nz
theorem closeP_nz {r : Res Cd} (h : NZ r) : NZ (closeP T e r) := h.bind (fun x hx => by rw [hx]; rfl) (fun a ha => by
 rw [ha]
 exact (take_nz (T := T) (e := e) (k := 4) (p := a.2)).bind (fun x hx => by rw [closeP, hx]; rfl) (fun b hb => by rw [closeP, hb]; exact .ok))
theorem wrapNot_nz {r : Res Cd} (h : NZ r) : NZ (wrapNot r) := h.bind (fun x hx => by rw [hx]; rfl) (fun a ha => by rw [ha]; exact .ok)
theorem notN_nz : ∀ n p, NZ (notN T e n p)
 | 0, p => by
  rw [notN]
  split
  ·exact .err (by decide)
  ·split
   ·exact .err (by decide)
   ·exact atomP_nz
 | n + 1, p => by
  rw [notN]
  split
  ·exact wrapNot_nz (notN_nz n _)
  ·split
   ·exact closeP_nz (kidsP_nz (kidsP_nz (notN_nz n)) _)
   ·exact atomP_nz
theorem condP_nz {p : Nat} : NZ (condP T e p) := kidsP_nz (kidsP_nz (notN_nz 30)) p
theorem shareL_nz : ∀ f s p, NZ (shareL T e f s p)
 | 0, s, p => .ok
 | f + 1, s, p => by
  by_cases hi : isP T e [wMethod, wHeader, wCreds] p = true
  ·rw [shareL_succ _ _ _ _ _ hi.symm]
   refine take_nz.bind (fun x hx => by rw [hx]; rfl) (fun a ha => ?_)
   rw [ha]
   obtain ⟨w, q⟩ := a
   rw [shareK]
   split
   ·exact take_nz.bind (fun x hx => by rw [hx]; rfl) (fun b hb => by rw [hb]; exact shareL_nz f _ _)
   ·split
    ·exact take_nz.bind (fun x hx => by rw [hx]; rfl) (fun b hb => by rw [hb]; exact shareL_nz f _ _)
    ·exact shareL_nz f _ _
  ·rw [shareL, if_neg hi]; exact .ok
theorem shareP_nz {p : Nat} : NZ (shareP T e p) := by
 rw [shareP]
 refine take_nz.bind (fun x hx => by rw [hx]) (fun a ha => ?_)
 rw [ha]
 exact shareL_nz _ _ _
theorem itemK_nz {s : Pst} {w : ByteArray} {q : Nat} : NZ (itemK T e s w q) := by
 by_cases h0 : w = wCsp
 ·rw [itemK_csp h0]; exact take_nz.bind (fun x hx => by rw [hx]; rfl) (fun b hb => by rw [hb]; exact .ok)
 by_cases h1 : w = wShare
 ·rw [itemK_share h0 h1]; exact shareP_nz.bind (fun x hx => by rw [hx]; rfl) (fun b hb => by rw [hb]; exact .ok)
 by_cases h2 : w = wMixed
 ·rw [itemK_mixed h0 h1 h2]; exact word_nz.bind (fun x hx => by rw [hx]; rfl) (fun b hb => by rw [hb]; exact .ok)
 by_cases h3 : w = wDefault
 ·rw [itemK_default h0 h1 h2 h3]; exact word_nz.bind (fun x hx => by rw [hx]; rfl) (fun b hb => by rw [hb]; exact .ok)
 rw [itemK_rule h0 h1 h2 h3]
 refine word_nz.bind (fun x hx => by rw [hx]; rfl) (fun b hb => ?_)
 rw [hb]
 exact condP_nz.bind (fun x hx => by rw [ifK, hx]; rfl) (fun c hc => by rw [ifK, hc]; exact .ok)
theorem itemP_nz {s : Pst} {p : Nat} : NZ (itemP T e s p) := by
 rw [itemP]
 split
 ·have h1 : NZ (onceP T e s p) := by
   rw [onceP]
   repeat' split
   all_goals first | exact .ok | exact .err (by decide)
  refine h1.bind (fun x hx => by rw [hx]) (fun a ha => ?_)
  rw [ha]
  dsimp only
  split
  ·exact .err (by decide)
  ·refine take_nz.bind (fun x hx => by rw [hx]) (fun b hb => ?_)
   rw [hb]
   exact itemK_nz
 ·exact .err (by decide)
theorem itemsP_nz : ∀ f s p, NZ (itemsP T e f s p)
 | 0, s, p => .ok
 | f + 1, s, p => by
  rw [itemsP]
  split
  ·refine itemP_nz.bind (fun x hx => by rw [hx]) (fun a ha => ?_)
   rw [ha]
   obtain ⟨s1, q⟩ := a
   refine (take_nz (T := T) (e := e) (k := 5) (p := q)).bind (fun x hx => by simp only [hx]) (fun b hb => ?_)
   simp only [hb]
   exact itemsP_nz f _ _
  ·exact .ok
end
theorem polA_nz (x : ByteArray) : NZ (polA x) := by
 rw [polA, polT_eq]
 split
 ·exact itemsP_nz _ _ _
 ·rename_i h; exact .err h
def sv2 (w : World) (P F : Array Value) : World := (((w.alloc (.cells #[.slice none 0 0, .slice none 0 0, .string ⟨#[]⟩, .slice none 0 0, .bool false] 27)).alloc (.cells #[.int .i64 0, .int .i64 0] 30)).setRow w.heap.size P).setRow (w.heap.size + 1) F
theorem sv2_below (w : World) (P F : Array Value) : Below w.heap.size w (sv2 w P F) := below_setRow (below_setRow (below_alloc (below_alloc (Below.refl _ _) _) _) (Nat.le_refl _) _) (Nat.le_succ _) _
theorem sv2_pol (w : World) (P F : Array Value) : (sv2 w P F).heap[w.heap.size]? = some (.cells P 27 (0, 0)) := (setRow_other _ _ _ _ (by omega)).trans (setRow_heap _ _ _ _ _ _ (blk_alloc (blk_new _ _) _))
theorem sv2_flt (w : World) (P F : Array Value) : (sv2 w P F).heap[w.heap.size + 1]? = some (.cells F 30 (0, 0)) := setRow_heap _ _ _ _ _ _ ((setRow_other _ _ _ _ (by omega)).trans (blk_new2 _ _ _ _ _))
end Go.Proofs.YtngedmioeodmfaaDoor.Pu
namespace Go.Proofs.YtngedmioeodmfaaDoor.Ps
open Go.RowKit Go.Proofs.YtngedmioeodmfaaDoor.Pr Go.Proofs.YtngedmioeodmfaaDoorW.PrintWords Go.Proofs.YtngedmioeodmfaaDoorW.PrintLast Go.Proofs.YtngedmioeodmfaaDoorW.PrintMore
abbrev RdS (w0 W : World) (g : Nat) (T : List (S40)) (i e c a : Int) : Prop := IsS67 w0 W g T i e c a
def rtok (T : List (S40)) (i : Int) : S40 := rd_T40 T i
theorem bad_quiet (w0 w : World) (g : Nat) (T : List (S40)) (i e c a : Int) (b : Bool) (hb : (c != 0) = b) (h : RdS w0 w g T i e c a) :
  Calls Tryd.prog 24 #[.pointer (some ⟨g, 0, none⟩)] w fun e' w' => e' = .returned (.bool b) ∧ w' = w := by
 subst hb
 obtain ⟨A0, c0, hb, hg, hC⟩ := h
 have t3 := cellS67_3 hb
 clear hC
 go_enter Tryd.func24, Tryd.ntmps24
 go_wp2
 go_ret
 exact ⟨rfl, rfl⟩
theorem keepN {w : World} (n : Nat) (g : Nat) : KeepBut w (w.drewN n) g none := keep_drewN (KeepBut.refl w g none) n
set_option maxHeartbeats 8000000 in
set_option maxRecDepth 100000 in
theorem is_walk (w0 w : World) (g : Nat) (T : List (S40)) (i e c a : Int) (s : ByteArray) (h : RdS w0 w g T i e c a) (hB : Below w0.heap.size w0 w) (hi : 0 ≤ i) :
  Calls Tryd.prog 54 #[.pointer (some ⟨g, 0, none⟩), .string s] w fun e' w' => e' = .returned (.bool (c == 0 && (decide (i < T.length) && ((rtok T i).f0 == 1 && (rtok T i).f2.toList == s.toList)))) ∧ ∃ n, w' = w.drewN n := by
 have H := Aside0.mk h
 have HB := Aside0.mk hB
 clear hB
 obtain ⟨A0, c0, hb, hg, hC⟩ := h
 have t1 := cellS67_1 hb
 have t0 := cellS67_0 hb
 have t3 := cellS67_3 hb
 obtain ⟨j, rfl⟩ : ∃ j : Nat, i = (j : Int) := ⟨i.toNat, by omega⟩
 have HC := Aside0.mk hC
 have HBB := Aside0.mk hb
 obtain ⟨n, hn⟩ : ∃ n, n = T.length := ⟨_, rfl⟩
 rw [← hn] at t0 ⊢
 have HN := Aside0.mk hn
 clear hb hg hC hn hi
 by_cases hc : c = 0
 ·have l0 : (c != (0 : Int)) = false := by simp [hc]
  have m0 : (c == (0 : Int)) = true := by simp [hc]
  rw [m0, Bool.true_and]
  by_cases hlt : j < n
  ·have l1 : decide (j < n) = true := decide_eq_true hlt
   have l2 : decide ((j : Int) < (n : Int)) = true := decide_eq_true (by omega)
   rw [l2, Bool.true_and]
   obtain ⟨ad, hA1, q0, q1, q2⟩ := at_T40 HC.out (j : Int) (by omega) (by rw [← HN.out]; omega)
   have hA2 : A0 = some ad := hA1
   subst hA2
   obtain ⟨k, hk⟩ : ∃ k, k = rtok T j := ⟨_, rfl⟩
   change _ = some (Value.int .i64 (rtok T j).f0) at q0
   change _ = some (Value.int .i64 (rtok T j).f1) at q1
   change _ = some (Value.string (rtok T j).f2) at q2
   rw [← hk] at q0 q1 q2 ⊢
   simp only [Int.toNat_natCast] at q0 q1 q2
   replace q0 := (HB.out.cell (World.block_lt_of_cell? w0 _ q0)).trans q0
   replace q2 := (HB.out.cell (World.block_lt_of_cell? w0 _ q2)).trans q2
   have hbl := World.block_lt_of_cell? w _ q0
   obtain ⟨k0, k1, k2⟩ := k
   dsimp only at q0 q2 ⊢
   have hlt2 : (j : Int) < (n : Int) := by omega
   clear q1 hA1 hk hlt hc m0
   by_cases hk0 : k0 = 1
   ·have l3 : (k0 == (1 : Int)) = true := by simp [hk0]
    rw [l3, Bool.true_and]
    clear hk0
    exact sTe8_2
   ·have l3 : (k0 == (1 : Int)) = false := by simp [hk0]
    rw [l3, Bool.false_and]
    clear hk0
    exact sTe8_2
  ·have l1 : decide (j < n) = false := decide_eq_false hlt
   have l2 : decide ((j : Int) < (n : Int)) = false := decide_eq_false (by omega)
   rw [l2, Bool.false_and]
   clear hlt hc m0
   exact sTe8_2
 ·have l0 : (c != (0 : Int)) = true := by simp [hc]
  have m0 : (c == (0 : Int)) = false := by simp [hc]
  rw [m0, Bool.false_and]
  clear hc m0
  exact sTe8_2
set_option maxHeartbeats 8000000 in
set_option maxRecDepth 100000 in
theorem kind_walk (w0 w : World) (g : Nat) (T : List (S40)) (i e c a : Int) (h : RdS w0 w g T i e c a) (hB : Below w0.heap.size w0 w) (hi : 0 ≤ i) :
  Calls Tryd.prog 25 #[.pointer (some ⟨g, 0, none⟩)] w fun e' w' => e' = .returned (.int .i64 (if c = 0 ∧ i < T.length then (rtok T i).f0 else 0)) ∧ ∃ n, w' = w.drewN n := by
 have H := Aside0.mk h
 have HB := Aside0.mk hB
 clear hB
 obtain ⟨A0, c0, hb, hg, hC⟩ := h
 have t1 := cellS67_1 hb
 have t0 := cellS67_0 hb
 have t3 := cellS67_3 hb
 obtain ⟨j, rfl⟩ : ∃ j : Nat, i = (j : Int) := ⟨i.toNat, by omega⟩
 have HC := Aside0.mk hC
 have HBB := Aside0.mk hb
 obtain ⟨n, hn⟩ : ∃ n, n = T.length := ⟨_, rfl⟩
 rw [← hn] at t0 ⊢
 have HN := Aside0.mk hn
 clear hb hg hC hn hi
 by_cases hc : c = 0
 ·have l0 : (c != (0 : Int)) = false := by simp [hc]
  by_cases hlt : j < n
  ·have l1 : decide (n ≤ j) = false := decide_eq_false (by omega)
   have l2 : decide ((n : Int) ≤ (j : Int)) = false := decide_eq_false (by omega)
   have l3 : ¬ (n : Int) ≤ (j : Int) := by omega
   rw [if_pos ⟨hc, by omega⟩]
   obtain ⟨ad, hA1, q0, q1, q2⟩ := at_T40 HC.out (j : Int) (by omega) (by rw [← HN.out]; omega)
   have hA2 : A0 = some ad := hA1
   subst hA2
   obtain ⟨k, hk⟩ : ∃ k, k = rtok T j := ⟨_, rfl⟩
   change _ = some (Value.int .i64 (rtok T j).f0) at q0
   rw [← hk] at q0 ⊢
   simp only [Int.toNat_natCast] at q0
   replace q0 := (HB.out.cell (World.block_lt_of_cell? w0 _ q0)).trans q0
   have hbl := World.block_lt_of_cell? w _ q0
   obtain ⟨k0, k1, k2⟩ := k
   dsimp only at q0 ⊢
   have hlt2 : (j : Int) < (n : Int) := by omega
   clear q1 q2 hA1 hk hc
   go_enter Tryd.func25, Tryd.ntmps25
   go_wp2
   go_quiet ((go_at_call 24; exact Calls.quiet_of_same (bad_quiet w0 _ g T _ e c a _ l0 (IsS67.drewN H.out _))))
   go_wp2
   go_quiet (fail)
   go_wp2
   go_ret
   exact ⟨rfl, _, World.drewN_drewN _ _ _⟩
  ·have l1 : decide (n ≤ j) = true := decide_eq_true (by omega)
   have l2 : decide ((n : Int) ≤ (j : Int)) = true := decide_eq_true (by omega)
   have l3 : (n : Int) ≤ (j : Int) := by omega
   rw [if_neg (by omega)]
   clear hlt hc
   go_enter Tryd.func25, Tryd.ntmps25
   go_wp2
   go_quiet ((go_at_call 24; exact Calls.quiet_of_same (bad_quiet w0 _ g T _ e c a _ l0 (IsS67.drewN H.out _))))
   go_wp2
   go_ret
   exact ⟨rfl, _, rfl⟩
 ·have l0 : (c != (0 : Int)) = true := by simp [hc]
  rw [if_neg (fun h => hc h.1)]
  clear hc
  go_enter Tryd.func25, Tryd.ntmps25
  go_wp2
  go_quiet ((go_at_call 24; exact Calls.quiet_of_same (bad_quiet w0 _ g T _ e c a _ l0 (IsS67.drewN H.out _))))
  go_wp2
  go_ret
  exact ⟨rfl, _, rfl⟩
def atR (T : List (S40)) (i e : Int) : Int := if i < T.length then (rtok T i).f1 else e
theorem wrong_f (T : List (S40)) (i e c a k : Int) (hi : 0 ≤ i) : parapetref19_Reader_wrong.f T i e c a k = some (i, e, if c = 0 then k else c, if c = 0 then atR T i e else a) := by
 by_cases hc : c = 0
 ·subst hc
  rw [parapetref19_Reader_wrong.f, parapetref19_Reader_bad.f, Option.bind_some, if_neg (by simp), parapetref19_Reader_at.f, atR, if_pos rfl, if_pos rfl]
  by_cases hl : i < (T.length : Int)
  ·rw [if_pos hl, if_pos hl, if_pos hi]; rfl
  ·rw [if_neg hl, if_neg hl]; rfl
 ·rw [parapetref19_Reader_wrong.f, parapetref19_Reader_bad.f, Option.bind_some, if_pos (by simp [hc]), if_neg hc, if_neg hc]
def nextR (T : List (S40)) (i e c a k : Int) : ByteArray × Int × Int × Int × Int :=
 if c = 0 ∧ i < T.length ∧ (rtok T i).f0 = k then ((rtok T i).f2, i + 1, e, c, a) else (⟨#[]⟩, i, e, if c = 0 then 8 else c, if c = 0 then atR T i e else a)
set_option maxHeartbeats 8000000 in
set_option maxRecDepth 100000 in
theorem next_walk (w0 w : World) (g : Nat) (T : List (S40)) (i e c a kd : Int) (h : RdS w0 w g T i e c a) (hB : Below w0.heap.size w0 w) (hi : 0 ≤ i) (hT : T.length ≤ 1000000) (r1 : ByteArray) (r2 r3 r4 r5 : Int) (hr : nextR T i e c a kd = (r1, r2, r3, r4, r5)) :
  Calls Tryd.prog 28 #[.pointer (some ⟨g, 0, none⟩), .int .i64 kd] w fun e' w' => e' = .returned (.string r1) ∧ RdS w0 w' g T r2 r3 r4 r5 ∧ Below w0.heap.size w0 w' ∧ KeepBut w w' g none := by
 have H := Aside0.mk h
 have HB := Aside0.mk hB
 have HT := Aside0.mk hT
 have HW := Aside0.mk (wrong_f T i e c a 8 hi)
 clear hB hT
 obtain ⟨A0, c0, hb, hg, hC⟩ := h
 have t1 := cellS67_1 hb
 have t0 := cellS67_0 hb
 have t3 := cellS67_3 hb
 obtain ⟨j, rfl⟩ : ∃ j : Nat, i = (j : Int) := ⟨i.toNat, by omega⟩
 have HC := Aside0.mk hC
 have HBB := Aside0.mk hb
 obtain ⟨n, hn⟩ : ∃ n, n = T.length := ⟨_, rfl⟩
 rw [← hn] at t0
 have HN := Aside0.mk hn
 clear hb hg hC hn hi
 by_cases hc : c = 0
 ·have l0 : (c != (0 : Int)) = false := by simp [hc]
  by_cases hlt : j < n
  ·have l1 : decide (n ≤ j) = false := decide_eq_false (by omega)
   have l2 : decide ((n : Int) ≤ (j : Int)) = false := decide_eq_false (by omega)
   have l3 : ¬ (n : Int) ≤ (j : Int) := by omega
   obtain ⟨ad, hA1, q0, q1, q2⟩ := at_T40 HC.out (j : Int) (by omega) (by rw [← HN.out]; omega)
   have hA2 : A0 = some ad := hA1
   subst hA2
   obtain ⟨k, hk⟩ : ∃ k, k = rtok T j := ⟨_, rfl⟩
   change _ = some (Value.int .i64 (rtok T j).f0) at q0
   change _ = some (Value.string (rtok T j).f2) at q2
   rw [← hk] at q0 q2
   simp only [Int.toNat_natCast] at q0 q2
   have hg0 : ad.block ≠ g := by have h1 := World.block_lt_of_cell? w0 _ q0; rw [add_block] at h1; have h2 := IsS67.ge H.out; omega
   replace q0 := (HB.out.cell (World.block_lt_of_cell? w0 _ q0)).trans q0
   replace q2 := (HB.out.cell (World.block_lt_of_cell? w0 _ q2)).trans q2
   have hbl := World.block_lt_of_cell? w _ q0
   obtain ⟨k0, k1, k2⟩ := k
   dsimp only at q0 q2
   have hlt2 : (j : Int) < (n : Int) := by omega
   clear q1 hA1
   by_cases hk0 : k0 = kd
   ·have l4 : (k0 != kd) = false := by simp [hk0]
    rw [nextR, if_pos ⟨hc, by rw [← HN.out]; exact hlt2, by rw [← hk]; exact hk0⟩, ← hk] at hr
    simp only [Prod.mk.injEq] at hr
    obtain ⟨rfl, rfl, rfl, rfl, rfl⟩ := hr
    have hjb : (j : Int) ≤ 1000000 := by have := HT.out; have := HN.out; omega
    have HG0 := Aside0.mk hg0
    have f1 := blk_frozen HBB.out 1
    clear hk hc hk0 hg0 hlt
    go_enter Tryd.func28, Tryd.ntmps28
    go_wp2
    go_quiet ((go_at_call 24; exact Calls.quiet_of_same (bad_quiet w0 _ g T _ e c a _ l0 (IsS67.drewN H.out _))))
    go_upto_region 5 with (fail)
    obtain ⟨w2, hw2⟩ : ∃ w2, w2 = (w.drewN nq).setCell ⟨g, 1, none⟩ (.int .i64 ((j : Int) + 1)) := ⟨_, rfl⟩
    rw [← hw2]
    have HS2 : Aside0 (RdS w0 w2 g T ((j : Int) + 1) e c a) := ⟨by rw [hw2]; exact IsS67.set_1 (IsS67.drewN H.out nq) _⟩
    have HB2 : Aside0 (Below w0.heap.size w0 w2) := ⟨by rw [hw2]; exact (pw_below_drewN HB.out nq).setCell (p := ⟨g, 1, none⟩) (IsS67.ge H.out) _⟩
    have HK2 : Aside0 (KeepBut w w2 g none) := ⟨by rw [hw2]; exact KeepBut.set_ (keepN nq g) 1 _⟩
    have hb2 : w2.heap[g]? = some (.cells #[.slice (some ad) T.length c0, .int .i64 ((j : Int) + 1), .int .i64 e, .int .i64 c, .int .i64 a] 67 (0, 0)) := by rw [hw2]; simpa using blk_set (show (w.drewN nq).heap[g]? = _ from HBB.out) 1 (.int .i64 ((j : Int) + 1))
    rw [← HN.out] at hb2
    have hq2 : w2.cell? (ad.add (j * 3)) = w.cell? (ad.add (j * 3)) := by rw [hw2]; exact cell_far (p := ⟨g, 1, none⟩) (by rw [add_block]; exact HG0.out) _
    have hx2 : w2.cell? ⟨(ad.add (j * 3)).block, (ad.add (j * 3)).off + 2, none⟩ = some (.string k2) := by rw [hw2]; exact (cell_far (W := w.drewN nq) (a := ⟨(ad.add (j * 3)).block, (ad.add (j * 3)).off + 2, none⟩) (p := ⟨g, 1, none⟩) (show (ad.add (j * 3)).block ≠ g by rw [add_block]; exact HG0.out) _).trans q2
    clear t0 t1 t3 q0 q2 hw2 hq2 hbl f1
    have t0 : w2.cell? ⟨g, 0, none⟩ = some (.slice (some ad) n c0) := blk_cell hb2 0
    have t1 : w2.cell? ⟨g, 1, none⟩ = some (.int .i64 ((j : Int) + 1)) := blk_cell hb2 1
    clear hb2
    go_quiet (fail)
    go_wp2
    go_ret
    exact ⟨rfl, HS2.out, pw_below_drewN HB2.out _, (HK2.out.trans (keepN _ g) (.inl rfl))⟩
   ·have l4 : (k0 != kd) = true := by simp [hk0]
    rw [nextR, if_neg (by rw [← hk]; exact fun h => hk0 h.2.2)] at hr
    have HW2 := Aside0.mk (HW.out.trans (congrArg some (congrArg Prod.snd hr)))
    obtain rfl : (⟨#[]⟩ : ByteArray) = r1 := congrArg Prod.fst hr
    clear hr
    clear hk hc hk0 q2 hg0 hlt
    exact sTe8_0
  ·have l1 : decide (n ≤ j) = true := decide_eq_true (by omega)
   have l2 : decide ((n : Int) ≤ (j : Int)) = true := decide_eq_true (by omega)
   have l3 : (n : Int) ≤ (j : Int) := by omega
   rw [nextR, if_neg (fun h => by have := h.2.1; rw [← HN.out] at this; omega)] at hr
   have HW2 := Aside0.mk (HW.out.trans (congrArg some (congrArg Prod.snd hr)))
   obtain rfl : (⟨#[]⟩ : ByteArray) = r1 := congrArg Prod.fst hr
   clear hr
   clear hlt hc
   exact sTe8_0
 ·have l0 : (c != (0 : Int)) = true := by simp [hc]
  rw [nextR, if_neg (fun h => hc h.1)] at hr
  have HW2 := Aside0.mk (HW.out.trans (congrArg some (congrArg Prod.snd hr)))
  obtain rfl : (⟨#[]⟩ : ByteArray) = r1 := congrArg Prod.fst hr
  clear hr
  clear hc
  exact sTe8_0
end Go.Proofs.YtngedmioeodmfaaDoor.Ps
namespace Go.Proofs.YtngedmioeodmfaaDoor.Pr
open Go.RowKit Go.Proofs.YtngedmioeodmfaaDoorW.PrintWords Go.Proofs.YtngedmioeodmfaaDoorW.PrintLast Go.Proofs.YtngedmioeodmfaaDoorW.PrintMore
attribute [local go_sem] max2_int min2_int max_two min_two max_three min_three max_four min_four
def parapetref19_Reader_is.f (s0_0 : List (S40)) (s0_1 : Int) (s0_2 : Int) (s0_3 : Int) (s0_4 : Int) (a1 : ByteArray) : Option (Bool × Int × Int × Int × Int) :=
 if 0 ≤ s0_1 then some ((s0_3 == 0 && (decide (s0_1 < s0_0.length) && ((Go.Proofs.YtngedmioeodmfaaDoor.Ps.rtok s0_0 s0_1).f0 == 1 && (Go.Proofs.YtngedmioeodmfaaDoor.Ps.rtok s0_0 s0_1).f2.toList == a1.toList))), s0_1, s0_2, s0_3, s0_4) else none
theorem parapetref19_Reader_is.calls (g : Nat) (s0_0 : List (S40)) (s0_1 : Int) (s0_2 : Int) (s0_3 : Int) (s0_4 : Int) (a1 : ByteArray) (r1 : Bool) (r2 : Int) (r3 : Int) (r4 : Int) (r5 : Int) (w0 w : World) (hI : IsS67 w0 w g s0_0 s0_1 s0_2 s0_3 s0_4) (hB : Below w0.heap.size w0 w) (h : parapetref19_Reader_is.f s0_0 s0_1 s0_2 s0_3 s0_4 a1 = some (r1, r2, r3, r4, r5)) :
  Calls Tryd.prog 54 #[.pointer (some ⟨g, 0, none⟩), .string a1] w fun e w' => e = .returned (.bool r1) ∧ IsS67 w0 w' g s0_0 r2 r3 r4 r5 ∧ Below w0.heap.size w0 w' ∧ KeepBut w w' g none := by
 unfold parapetref19_Reader_is.f at h
 by_cases hi : 0 ≤ s0_1
 ·rw [if_pos hi] at h
  simp only [Option.some.injEq, Prod.mk.injEq] at h
  obtain ⟨rfl, rfl, rfl, rfl, rfl⟩ := h
  refine (Go.Proofs.YtngedmioeodmfaaDoor.Ps.is_walk w0 w g s0_0 s0_1 s0_2 s0_3 s0_4 a1 hI hB hi).mono ?_
  rintro e w' ⟨rfl, n, rfl⟩
  exact ⟨rfl, IsS67.drewN hI n, pw_below_drewN hB n, keep_drewN (KeepBut.refl w g none) n⟩
 ·rw [if_neg hi] at h; cases h
end Go.Proofs.YtngedmioeodmfaaDoor.Pr
namespace Go.Proofs.YtngedmioeodmfaaDoor.Pr
open Go.RowKit Go.Proofs.YtngedmioeodmfaaDoorW.PrintWords Go.Proofs.YtngedmioeodmfaaDoorW.PrintLast Go.Proofs.YtngedmioeodmfaaDoorW.PrintMore
attribute [local go_sem] max2_int min2_int max_two min_two max_three min_three max_four min_four
def parapetref19_Reader_take.f (s0_0 : List (S40)) (s0_1 : Int) (s0_2 : Int) (s0_3 : Int) (s0_4 : Int) (a1 : ByteArray) : Option (Bool × Int × Int × Int × Int) := (parapetref19_Reader_is.f s0_0 s0_1 s0_2 s0_3 s0_4 a1).bind fun bt381 => (if bt381.1 = true then (some (true, wrap64 (bt381.2.1 + 1), bt381.2.2.1, bt381.2.2.2.1, bt381.2.2.2.2)) else (some (false, bt381.2.1, bt381.2.2.1, bt381.2.2.2.1, bt381.2.2.2.2)))
set_option maxHeartbeats 8000000 in
set_option maxRecDepth 100000 in
theorem parapetref19_Reader_take.calls (g : Nat) (s0_0 : List (S40)) (s0_1 : Int) (s0_2 : Int) (s0_3 : Int) (s0_4 : Int) (a1 : ByteArray) (r1 : Bool) (r2 : Int) (r3 : Int) (r4 : Int) (r5 : Int) (w0 w : World) (hI : IsS67 w0 w g s0_0 s0_1 s0_2 s0_3 s0_4) (hB : Below w0.heap.size w0 w) (h : parapetref19_Reader_take.f s0_0 s0_1 s0_2 s0_3 s0_4 a1 = some (r1, r2, r3, r4, r5)) :
  Calls Tryd.prog 30 #[.pointer (some ⟨g, 0, none⟩), .string a1] w fun e w' => e = .returned (.bool r1) ∧ IsS67 w0 w' g s0_0 r2 r3 r4 r5 ∧ Below w0.heap.size w0 w' ∧ KeepBut w w' g none := by
 have HI0 := Aside0.mk hI
 have HK := Aside0.mk (KeepBut.refl w g none)
 have HL := Aside0.mk hB.size
 clear hI
 have HW0 := Aside0.mk hB.size
 have HB := Aside0.mk hB
 clear hB
 have H : ((parapetref19_Reader_is.f s0_0 s0_1 s0_2 s0_3 s0_4 a1).bind fun bt381 => (if bt381.1 = true then (some (true, wrap64 (bt381.2.1 + 1), bt381.2.2.1, bt381.2.2.2.1, bt381.2.2.2.2)) else (some (false, bt381.2.1, bt381.2.2.1, bt381.2.2.2.1, bt381.2.2.2.2)))) = some (r1, r2, r3, r4, r5) := h
 clear h
 replace H := Option.bind_eq_some_iff.mp H
 obtain ⟨⟨t381, t382, t383, t384, t385⟩, A30, H⟩ := H
 replace H : (if t381 = true then (some (true, wrap64 (t382 + 1), t383, t384, t385)) else (some (false, t382, t383, t384, t385))) = some (r1, r2, r3, r4, r5) := H
 have A3 := Aside0.mk A30
 clear A30
 by_cases c4 : t381 = true
 ·subst c4
  have H1 : (some (true, wrap64 (t382 + 1), t383, t384, t385)) = some (r1, r2, r3, r4, r5) := by rw [if_pos rfl] at H; exact H
  clear H
  have H := H1
  clear H1
  simp only [Option.some.injEq, Prod.mk.injEq] at H
  obtain ⟨rfl, rfl, rfl, rfl, rfl⟩ := H
  go_enter Tryd.func30, Tryd.ntmps30
  go_wp2_with (first | ((with_reducible refine gate_callee (f := 54) rfl ?_); refine goesL_ (some 7) rfl rfl Tryd.func54 (by kernel_rfl) rfl #[.pointer (some ⟨g, 0, none⟩), .string a1] rfl (by (try simp only [List.map_toArray, List.map_cons, List.map_nil]); first | done | rfl | (simp only [List.length_drop, List.length_take]; rfl)) ?_; (with_reducible refine (parapetref19_Reader_is.calls g s0_0 s0_1 s0_2 s0_3 s0_4 a1 true t382 t383 t384 t385 w0 _ ?side1 ?side2 A3.out).mono ?_); (case side1 => repeat (first | (with_reducible first | exact HI0.out | apply IsS67.alloc | apply IsS67.drewN | apply IsS67.drew | apply IsS67.set_1 | apply IsS67.set_2 | apply IsS67.set_3 | apply IsS67.set_4) | exact HI0.out)); (case side2 => repeat (first | (with_reducible first | exact HB.out | apply below_alloc | apply pw_below_drewN | apply below_drew1 | refine below_set ?_ (IsS67.ge HI0.out)) | exact HB.out)); rintro e w5 ⟨rfl, hi, hb, hk⟩; refine ⟨_, rfl, ?_⟩; have n0_ := Aside0.mk (KeepBut.trans (by repeat (first | (with_reducible first | exact HK.out | apply KeepBut.set_ | apply keep_drewN | apply keep_drew | apply keep_alloc) | exact HK.out)) hk (.inl rfl)); have n1_ := Aside0.mk (hb); have n2_ := Aside0.mk (hi); clear HK; clear HB; clear HI0; have HK := n0_; have HB := n1_; have HI0 := n2_; clear n0_ n1_ n2_; (try clear hb); (try clear hb2); (try clear hk); (try clear hi); obtain ⟨ASz6_0, cSz6_0, HGz6, hgz6, HSz6_0⟩ := HI0.out; have hcz6_0 := cellS67_0 HGz6; have hcz6_1 := cellS67_1 HGz6; have hcz6_2 := cellS67_2 HGz6; have hcz6_3 := cellS67_3 HGz6; have hcz6_4 := cellS67_4 HGz6; have hfz6_1 := blk_frozen HGz6 1; have hfz6_2 := blk_frozen HGz6 2; have hfz6_3 := blk_frozen HGz6 3; have hfz6_4 := blk_frozen HGz6 4; clear HGz6 hgz6))
  go_ret
  exact sTe8_1
 ·replace c4 := Bool.eq_false_iff.mpr c4
  subst c4
  have H1 : (some (false, t382, t383, t384, t385)) = some (r1, r2, r3, r4, r5) := by rw [if_neg (show ¬ (false = true) by decide)] at H; exact H
  clear H
  have H := H1
  clear H1
  simp only [Option.some.injEq, Prod.mk.injEq] at H
  obtain ⟨rfl, rfl, rfl, rfl, rfl⟩ := H
  go_enter Tryd.func30, Tryd.ntmps30
  go_wp2_with (first | ((with_reducible refine gate_callee (f := 54) rfl ?_); refine goesL_ (some 7) rfl rfl Tryd.func54 (by kernel_rfl) rfl #[.pointer (some ⟨g, 0, none⟩), .string a1] rfl (by (try simp only [List.map_toArray, List.map_cons, List.map_nil]); first | done | rfl | (simp only [List.length_drop, List.length_take]; rfl)) ?_; (with_reducible refine (parapetref19_Reader_is.calls g s0_0 s0_1 s0_2 s0_3 s0_4 a1 false t382 t383 t384 t385 w0 _ ?side1 ?side2 A3.out).mono ?_); (case side1 => repeat (first | (with_reducible first | exact HI0.out | apply IsS67.alloc | apply IsS67.drewN | apply IsS67.drew | apply IsS67.set_1 | apply IsS67.set_2 | apply IsS67.set_3 | apply IsS67.set_4) | exact HI0.out)); (case side2 => repeat (first | (with_reducible first | exact HB.out | apply below_alloc | apply pw_below_drewN | apply below_drew1 | refine below_set ?_ (IsS67.ge HI0.out)) | exact HB.out)); rintro e w7 ⟨rfl, hi, hb, hk⟩; refine ⟨_, rfl, ?_⟩; have n0_ := Aside0.mk (KeepBut.trans (by repeat (first | (with_reducible first | exact HK.out | apply KeepBut.set_ | apply keep_drewN | apply keep_drew | apply keep_alloc) | exact HK.out)) hk (.inl rfl)); have n1_ := Aside0.mk (hb); have n2_ := Aside0.mk (hi); clear HK; clear HB; clear HI0; have HK := n0_; have HB := n1_; have HI0 := n2_; clear n0_ n1_ n2_; (try clear hb); (try clear hb2); (try clear hk); (try clear hi)))
  go_ret
  exact sTe8_1
end Go.Proofs.YtngedmioeodmfaaDoor.Pr
namespace Go.Proofs.YtngedmioeodmfaaDoor.Pr
open Go.RowKit Go.Proofs.YtngedmioeodmfaaDoorW.PrintWords Go.Proofs.YtngedmioeodmfaaDoorW.PrintLast Go.Proofs.YtngedmioeodmfaaDoorW.PrintMore
attribute [local go_sem] max2_int min2_int max_two min_two max_three min_three max_four min_four
def parapetref19_Reader_kind.f (s0_0 : List (S40)) (s0_1 : Int) (s0_2 : Int) (s0_3 : Int) (s0_4 : Int) : Option (Int × Int × Int × Int × Int) :=
 if 0 ≤ s0_1 then some ((if s0_3 = 0 ∧ s0_1 < s0_0.length then (Go.Proofs.YtngedmioeodmfaaDoor.Ps.rtok s0_0 s0_1).f0 else 0), s0_1, s0_2, s0_3, s0_4) else none
theorem parapetref19_Reader_kind.calls (g : Nat) (s0_0 : List (S40)) (s0_1 : Int) (s0_2 : Int) (s0_3 : Int) (s0_4 : Int) (r1 : Int) (r2 : Int) (r3 : Int) (r4 : Int) (r5 : Int) (w0 w : World) (hI : IsS67 w0 w g s0_0 s0_1 s0_2 s0_3 s0_4) (hB : Below w0.heap.size w0 w) (h : parapetref19_Reader_kind.f s0_0 s0_1 s0_2 s0_3 s0_4 = some (r1, r2, r3, r4, r5)) :
  Calls Tryd.prog 25 #[.pointer (some ⟨g, 0, none⟩)] w fun e w' => e = .returned (.int .i64 r1) ∧ IsS67 w0 w' g s0_0 r2 r3 r4 r5 ∧ Below w0.heap.size w0 w' ∧ KeepBut w w' g none := by
 unfold parapetref19_Reader_kind.f at h
 by_cases hi : 0 ≤ s0_1
 ·rw [if_pos hi] at h
  have h := Option.some.inj h
  obtain rfl := congrArg Prod.fst h
  have h2 := congrArg Prod.snd h
  simp only [Prod.mk.injEq] at h2
  obtain ⟨rfl, rfl, rfl, rfl⟩ := h2
  refine (Go.Proofs.YtngedmioeodmfaaDoor.Ps.kind_walk w0 w g s0_0 s0_1 s0_2 s0_3 s0_4 hI hB hi).mono ?_
  rintro e w' ⟨rfl, n, rfl⟩
  exact ⟨rfl, IsS67.drewN hI n, pw_below_drewN hB n, keep_drewN (KeepBut.refl w g none) n⟩
 ·rw [if_neg hi] at h; cases h
end Go.Proofs.YtngedmioeodmfaaDoor.Pr
namespace Go.Proofs.YtngedmioeodmfaaDoor.Pr
open Go.RowKit Go.Proofs.YtngedmioeodmfaaDoorW.PrintWords Go.Proofs.YtngedmioeodmfaaDoorW.PrintLast Go.Proofs.YtngedmioeodmfaaDoorW.PrintMore
attribute [local go_sem] max2_int min2_int max_two min_two max_three min_three max_four min_four
def parapetref19_Reader_next.f (s0_0 : List (S40)) (s0_1 : Int) (s0_2 : Int) (s0_3 : Int) (s0_4 : Int) (a1 : Int) : Option (ByteArray × Int × Int × Int × Int) :=
 if 0 ≤ s0_1 ∧ s0_0.length ≤ 1000000 then some (Go.Proofs.YtngedmioeodmfaaDoor.Ps.nextR s0_0 s0_1 s0_2 s0_3 s0_4 a1) else none
theorem parapetref19_Reader_next.calls (g : Nat) (s0_0 : List (S40)) (s0_1 : Int) (s0_2 : Int) (s0_3 : Int) (s0_4 : Int) (a1 : Int) (r1 : ByteArray) (r2 : Int) (r3 : Int) (r4 : Int) (r5 : Int) (w0 w : World) (hI : IsS67 w0 w g s0_0 s0_1 s0_2 s0_3 s0_4) (hB : Below w0.heap.size w0 w) (h : parapetref19_Reader_next.f s0_0 s0_1 s0_2 s0_3 s0_4 a1 = some (r1, r2, r3, r4, r5)) :
  Calls Tryd.prog 28 #[.pointer (some ⟨g, 0, none⟩), .int .i64 a1] w fun e w' => e = .returned (.string r1) ∧ IsS67 w0 w' g s0_0 r2 r3 r4 r5 ∧ Below w0.heap.size w0 w' ∧ KeepBut w w' g none := by
 unfold parapetref19_Reader_next.f at h
 by_cases hi : 0 ≤ s0_1 ∧ s0_0.length ≤ 1000000
 ·rw [if_pos hi] at h
  exact Go.Proofs.YtngedmioeodmfaaDoor.Ps.next_walk w0 w g s0_0 s0_1 s0_2 s0_3 s0_4 a1 hI hB hi.1 hi.2 r1 r2 r3 r4 r5 (Option.some.inj h)
 ·rw [if_neg hi] at h; cases h
end Go.Proofs.YtngedmioeodmfaaDoor.Pr
namespace Go.Proofs.YtngedmioeodmfaaDoor.Pu
open Go.RowKit Go.Proofs.YtngedmioeodmfaaDoor.Pr Go.Proofs.YtngedmioeodmfaaDoorW.PrintWords Go.Proofs.YtngedmioeodmfaaDoor.Lx
open Go.Proofs.YtngedmioeodmfaaDoor.Ps hiding Tk
theorem rtok_nxt {T : List Tk} {e : Int} {p : Nat} (h : p < T.length) : rtok T (p : Int) = nxt T e p := by
 rw [nxt, dif_pos h]; simp [rtok, rd_T40, h]
theorem eqb_list (a b : ByteArray) : (a.toList == b.toList) = decide (a = b) := by
 by_cases h : a = b
 ·subst h; simp
 ·rw [decide_eq_false h]
  apply beq_eq_false_iff_ne.2
  intro h2; exact h (bytes_toList.1 h2)
theorem is_one {T : List Tk} {e : Int} (w : ByteArray) (p : Nat) : isP T e [w] p = (decide (p < T.length) && ((rtok T (p : Int)).f0 == 1 && (rtok T (p : Int)).f2.toList == w.toList)) := by
 by_cases h : p < T.length
 ·rw [isP, rtok_nxt (e := e) h, eqb_list, decide_eq_true h, Bool.true_and, memB_cons]
  have h0 : memB (nxt T e p).f2 [] = false := rfl
  rw [h0, Bool.or_false]; rfl
 ·rw [decide_eq_false h, Bool.false_and, isP, nxt, dif_neg h]; rfl
section
variable {T : List Tk} {e : Int}
theorem ris_good (w : ByteArray) (p : Nat) : parapetref19_Reader_is.f T (p : Int) e 0 0 w = some (isP T e [w] p, (p : Int), e, 0, 0) := by
 rw [parapetref19_Reader_is.f, if_pos (by omega), is_one]
 have h : decide ((p : Int) < (T.length : Int)) = decide (p < T.length) := by
  by_cases h : p < T.length
  ·rw [decide_eq_true h, decide_eq_true (by omega)]
  ·rw [decide_eq_false h, decide_eq_false (by omega)]
 rw [h]; rfl
theorem ris_bad (w : ByteArray) {i c a : Int} (hi : 0 ≤ i) (hc : c ≠ 0) : parapetref19_Reader_is.f T i e c a w = some (false, i, e, c, a) := by
 have h : (c == 0) = false := beq_eq_false_iff_ne.2 hc
 rw [parapetref19_Reader_is.f, if_pos hi, h]; rfl
theorem isP_lt {ws : List ByteArray} {p : Nat} (h : isP T e ws p = true) : p < T.length := by
 apply Classical.byContradiction
 intro hn
 rw [isP, nxt, dif_neg hn] at h
 cases h
theorem rtake_good (w : ByteArray) (p : Nat) (hT : T.length ≤ 1000000) : parapetref19_Reader_take.f T (p : Int) e 0 0 w = some (isP T e [w] p, (if isP T e [w] p then (p : Int) + 1 else p), e, 0, 0) := by
 rw [parapetref19_Reader_take.f, ris_good, Option.bind_some]
 cases h : isP T e [w] p
 ·rfl
 ·have := isP_lt h
  have hw : wrap64 ((p : Int) + 1) = (p : Int) + 1 := by unfold wrap64; omega
  simp only [if_true, hw]
theorem rtake_bad (w : ByteArray) {i c a : Int} (hi : 0 ≤ i) (hc : c ≠ 0) : parapetref19_Reader_take.f T i e c a w = some (false, i, e, c, a) := by
 rw [parapetref19_Reader_take.f, ris_bad w hi hc, Option.bind_some]; rfl
theorem rkind_good (p : Nat) : parapetref19_Reader_kind.f T (p : Int) e 0 0 = some ((nxt T e p).f0, (p : Int), e, 0, 0) := by
 rw [parapetref19_Reader_kind.f, if_pos (by omega)]
 by_cases h : p < T.length
 ·rw [if_pos ⟨rfl, by omega⟩, rtok_nxt (e := e) h]
 ·rw [if_neg (by omega), nxt, dif_neg h]
theorem rnext_good {k : Int} (hk : k ≠ 0) {p : Nat} (hT : T.length ≤ 1000000) : parapetref19_Reader_next.f T (p : Int) e 0 0 k = some (match takeP T e k p with | .ok (t, q) => (t, (q : Int), e, 0, 0) | .error (x, y) => (⟨#[]⟩, (p : Int), e, x, y)) := by
 rw [parapetref19_Reader_next.f, if_pos ⟨by omega, hT⟩, nextR, takeP]
 by_cases h : p < T.length
 ·rw [rtok_nxt (e := e) h]
  by_cases h2 : (nxt T e p).f0 = k
  ·rw [if_pos ⟨rfl, by omega, h2⟩, if_pos h2]; simp
  ·rw [if_neg (by intro h3; exact h2 h3.2.2), if_neg h2, atR, if_pos (by omega), rtok_nxt (e := e) h]; simp; intro h3; omega
 ·have hn : nxt T e p = ⟨0, e, ⟨#[]⟩⟩ := by rw [nxt, dif_neg h]
  rw [if_neg (show ¬ ((0 : Int) = 0 ∧ (p : Int) < (T.length : Int) ∧ (rtok T (p : Int)).f0 = k) by omega), hn, if_neg (show ¬ ((⟨0, e, ⟨#[]⟩⟩ : Tk).f0 = k) from fun h => hk h.symm), atR, if_neg (show ¬ ((p : Int) < (T.length : Int)) by omega)]; simp
theorem rnext_bad (k : Int) {i c a : Int} (hi : 0 ≤ i) (hc : c ≠ 0) (hT : T.length ≤ 1000000) : parapetref19_Reader_next.f T i e c a k = some (⟨#[]⟩, i, e, c, a) := by
 rw [parapetref19_Reader_next.f, if_pos ⟨hi, hT⟩, nextR, if_neg (fun h => hc h.1), if_neg hc, if_neg hc]
theorem rwrong_good (p : Nat) (k : Int) : parapetref19_Reader_wrong.f T (p : Int) e 0 0 k = some ((p : Int), e, k, (nxt T e p).f1) := by
 rw [wrong_f T _ _ _ _ _ (by omega), if_pos rfl, if_pos rfl, atR]
 by_cases h : p < T.length
 ·rw [if_pos (by omega), rtok_nxt (e := e) h]
 ·rw [if_neg (by omega), nxt, dif_neg h]
abbrev RA := Int × ByteArray × ByteArray × List (S49) × Int × Int × Int × Int
def condA (c : Cd) (q : Nat) (e : Int) : RA := (c.f0, c.f1.f0, c.f1.f1, c.f2, (q : Int), e, 0, 0)
def Rr (e : Int) (r : RA) : Res Cd → Prop
 | .ok (c, q) => r = condA c q e
 | .error (x, y) => x ≠ 0 ∧ ∃ a b c d i, 0 ≤ i ∧ r = (a, b, c, d, i, e, x, y)
end
theorem lower_l (s : ByteArray) (hs : s.size ≤ 1000000) : ∀ (d i : Nat), i + d = s.size → Ev (fun k => parapetref1_Lower.l0 k s (((bytesOf s).map low).take i) (i : Int)) (lowB s)
 | 0, i, h => by
  refine Ev.step (f := fun _ => some (lowB s)) (fun k => ?_) (Ev.const fun _ => rfl)
  rw [parapetref1_Lower.l0, if_neg (by omega), List.take_of_length_le (by rw [List.length_map, bytesOf_length]; omega), low_str]
 | d + 1, i, h => by
  have hb : (bytesOf s).map low = (bytesOf s).map low := rfl
  refine Ev.step (fun k => ?_) (lower_l s hs d (i + 1) (by omega))
  have hw : wrap64 ((i : Int) + 1) = ((i + 1 : Nat) : Int) := by unfold wrap64; omega
  have hlt : (((bytesOf s).map low).take i).length < 140737488355328 := by rw [List.length_take, List.length_map, bytesOf_length]; omega
  have hil : i < (bytesOf s).length := by rw [bytesOf_length]; omega
  have hbt : bt s (i : Int) = (bytesOf s)[i] := by
   have h1 := bt_drop s i (by omega)
   rw [List.drop_eq_getElem_cons hil] at h1
   injection h1 with h2; exact h2.symm
  have hnx : ((bytesOf s).map low).take (i + 1) = ((bytesOf s).map low).take i ++ [low (bytesOf s)[i]] := by
   rw [List.take_add_one, List.getElem?_map, List.getElem?_eq_getElem hil]; rfl
  rw [parapetref1_Lower.l0, if_pos (by omega), if_pos (by omega), hw, hnx, hbt]
  by_cases h1 : (bytesOf s)[i] ≥ 65
  ·rw [if_pos h1]
   by_cases h2 : (bytesOf s)[i] ≤ 90
   ·rw [if_pos h2, if_pos hlt, low, if_pos ⟨h1, h2⟩, show ((bytesOf s)[i] + 32) % 256 = (bytesOf s)[i] + 32 by omega]
   ·rw [if_neg h2, if_pos hlt, low, if_neg (fun h => h2 h.2)]
  ·rw [if_neg h1, if_pos hlt, low, if_neg (fun h => h1 h.1)]
theorem lower_ev (s : ByteArray) (hs : s.size ≤ 1000000) : Ev (fun k => parapetref1_Lower.f k s) (lowB s) := by
 have := lower_l s hs s.size 0 (by omega)
 exact this
theorem ev_eqq {α : Type} {g g' : Nat → Option α} {r : α} (h : ∀ k, g k = g' k) (e : Ev g' r) : Ev g r := by
 rw [show g = g' from funext h]; exact e
theorem take_ne (T : List Tk) (e : Int) (k : Int) (p : Nat) {x y : Int} (h : takeP T e k p = .error (x, y)) : x ≠ 0 := by
 rw [takeP] at h
 split at h
 ·cases h
 ·cases h; decide
end Go.Proofs.YtngedmioeodmfaaDoor.Pu
namespace Go.Proofs.YtngedmioeodmfaaDoor.Pu
open Go.RowKit Go.Proofs.YtngedmioeodmfaaDoor.Pr Go.Proofs.YtngedmioeodmfaaDoorW.PrintWords Go.Proofs.YtngedmioeodmfaaDoor.Lx
open Go.Proofs.YtngedmioeodmfaaDoor.Ps hiding Tk
theorem bt_rng (s : ByteArray) (j : Nat) : 0 ≤ bt s (j : Int) ∧ bt s (j : Int) ≤ 255 := by
 rw [bt_getD]
 have := (s.data.toList.getD j 0).toNat_lt
 omega
theorem letter_f {c : Int} (h : 0 ≤ c ∧ c ≤ 255) : parapetref1_Letter.f c = some (pLetter c) := by
 have h2 : ∀ q : Fin 256, parapetref1_Letter.f (q.val : Int) = some (pLetter (q.val : Int)) := by decide +kernel
 have := h2 ⟨c.toNat, by omega⟩
 rwa [show ((c.toNat : Nat) : Int) = c by omega] at this
theorem digit_f {c : Int} (h : 0 ≤ c ∧ c ≤ 255) : parapetref1_Digit.f c = some (decide (48 ≤ c) && decide (c ≤ 57)) := by
 have h2 : ∀ q : Fin 256, parapetref1_Digit.f (q.val : Int) = some (decide (48 ≤ (q.val : Int)) && decide ((q.val : Int) ≤ 57)) := by decide +kernel
 have := h2 ⟨c.toNat, by omega⟩
 rwa [show ((c.toNat : Nat) : Int) = c by omega] at this
theorem word_is {c : Int} (h : 0 ≤ c ∧ c ≤ 255) : pWord c = (pLetter c || (decide (48 ≤ c) && decide (c ≤ 57)) || decide (c = 45) || decide (c = 95)) := by
 have h2 : ∀ q : Fin 256, pWord (q.val : Int) = (pLetter (q.val : Int) || (decide (48 ≤ (q.val : Int)) && decide ((q.val : Int) ≤ 57)) || decide ((q.val : Int) = 45) || decide ((q.val : Int) = 95)) := by decide +kernel
 have := h2 ⟨c.toNat, by omega⟩
 rwa [show ((c.toNat : Nat) : Int) = c by omega] at this
theorem blank_is {c : Int} (h : 0 ≤ c ∧ c ≤ 255) : pBlank c = (decide (c = 9) || decide (c = 10) || decide (c = 13) || decide (c = 32)) := by
 have h2 : ∀ q : Fin 256, pBlank (q.val : Int) = (decide ((q.val : Int) = 9) || decide ((q.val : Int) = 10) || decide ((q.val : Int) = 13) || decide ((q.val : Int) = 32)) := by decide +kernel
 have := h2 ⟨c.toNat, by omega⟩
 rwa [show ((c.toNat : Nat) : Int) = c by omega] at this
def wl (l : List Int) : Nat := (l.takeWhile pWord).length
theorem wl_le (l : List Int) : wl l ≤ l.length := (List.takeWhile_sublist _).length_le
theorem word_loop (x : ByteArray) (hx : x.size ≤ 3000) : ∀ (d j : Nat), j ≤ x.size → x.size - j ≤ d → Ev (fun k => parapetref19_word.l0 k x (j : Int)) ((j + wl ((bytesOf x).drop j) : Nat) : Int)
 | d, j, hj, hd => by
  by_cases hlt : j < x.size
  ·obtain ⟨d, rfl⟩ : ∃ d', d = d' + 1 := ⟨d - 1, by omega⟩
   have hr := bt_rng x j
   have hw : wrap64 ((j : Int) + 1) = ((j + 1 : Nat) : Int) := by unfold wrap64; omega
   rw [bt_drop x j hlt, wl, List.takeWhile_cons]
   cases hp : pWord (bt x (j : Int)) with
   | true =>
    rw [if_pos rfl, List.length_cons]
    have ih := word_loop x hx d (j + 1) (by omega) (by omega)
    rw [wl] at ih
    rw [show j + ((((bytesOf x).drop (j + 1)).takeWhile pWord).length + 1) = j + 1 + (((bytesOf x).drop (j + 1)).takeWhile pWord).length by omega]
    refine Ev.step (fun k => ?_) ih
    rw [parapetref19_word.l0, if_pos (by omega), if_pos (by omega), letter_f hr, Option.bind_some, hw]
    rw [word_is hr] at hp
    cases h1 : pLetter (bt x (j : Int)) with
    | true => rw [if_pos rfl]
    | false =>
     rw [if_neg Bool.false_ne_true, digit_f hr, Option.bind_some]
     cases h2 : (decide (48 ≤ bt x (j : Int)) && decide (bt x (j : Int) ≤ 57)) with
     | true => rw [if_pos rfl]
     | false =>
      rw [if_neg Bool.false_ne_true]
      rw [h1, h2, Bool.false_or, Bool.false_or, Bool.or_eq_true, decide_eq_true_eq, decide_eq_true_eq] at hp
      by_cases h3 : bt x (j : Int) = 45
      ·rw [if_pos h3]
      ·rw [if_neg h3, if_pos (hp.resolve_left h3)]
   | false =>
    rw [if_neg Bool.false_ne_true]
    rw [word_is hr, Bool.or_eq_false_iff, Bool.or_eq_false_iff, Bool.or_eq_false_iff] at hp
    obtain ⟨⟨⟨h1, h2⟩, h3⟩, h4⟩ := hp
    refine Ev.step (f := fun _ => some (j : Int)) (fun k => ?_) (Ev.const fun _ => rfl)
    rw [parapetref19_word.l0, if_pos (by omega), if_pos (by omega), letter_f hr, Option.bind_some, h1, if_neg Bool.false_ne_true, digit_f hr, Option.bind_some, h2, if_neg Bool.false_ne_true, if_neg (of_decide_eq_false h3), if_neg (of_decide_eq_false h4)]
  ·rw [List.drop_eq_nil_of_le (by rw [bytesOf_length]; omega)]
   refine Ev.step (f := fun _ => some (j : Int)) (fun k => ?_) (Ev.const fun _ => rfl)
   rw [parapetref19_word.l0, if_neg (by omega)]
theorem word_ev (x : ByteArray) (hx : x.size ≤ 3000) (h0 : 0 < x.size) : Ev (fun k => parapetref19_word.f k x) (if pLetter (bt x 0) = true then ((1 + wl ((bytesOf x).drop 1) : Nat) : Int) else 0) := by
 have hr := bt_rng x 0
 have hne : ¬ x.toList = ([] : List UInt8) := by
  intro h
  have : x = ⟨#[]⟩ := bytes_toList.1 (h.trans (show ([] : List UInt8) = (⟨#[]⟩ : ByteArray).toList by decide +kernel))
  rw [this] at h0
  exact absurd h0 (by decide)
 have hs : ∀ k, parapetref19_word.f k x = parapetref19_word.j0 k x (!pLetter (bt x 0)) := by
  intro k
  rw [parapetref19_word.f, if_neg hne, if_pos (by omega)]
  have := letter_f hr
  rw [show ((0 : Nat) : Int) = 0 from rfl] at this
  rw [this]; rfl
 refine ev_eqq hs ?_
 cases hl : pLetter (bt x 0) with
 | true =>
  rw [if_pos rfl]
  refine Ev.step (fun k => ?_) (word_loop x hx x.size 1 (by omega) (by omega))
  rw [parapetref19_word.j0, if_neg (by decide)]; rfl
 | false =>
  rw [if_neg Bool.false_ne_true]
  refine Ev.step (f := fun _ => some 0) (fun k => ?_) (Ev.const fun _ => rfl)
  rw [parapetref19_word.j0, if_pos (by decide)]
def seg (s : ByteArray) (E i : Nat) : List Int := ((bytesOf s).drop i).take (E - i)
theorem seg_cons {s : ByteArray} {E i : Nat} (hE : E ≤ s.size) (h : i < E) : seg s E i = bt s (i : Int) :: seg s E (i + 1) := by
 rw [seg, bt_drop s i (by omega), show E - i = (E - (i + 1)) + 1 by omega, List.take_succ_cons]; rfl
theorem seg_end {s : ByteArray} {E i : Nat} (h : E ≤ i) : seg s E i = [] := by
 rw [seg, show E - i = 0 by omega, List.take_zero]
theorem seg_bytes (s : ByteArray) (E i : Nat) : bytesOf (s.extract i E) = seg s E i := by
 unfold seg bytesOf
 rw [← List.map_drop, ← List.map_take]
 congr 1
 rw [ByteArray.data_extract]
 simp
def refT (s : ByteArray) (E : Nat) : One → List Tk × Int
 | .bad j => ([], (j : Int))
 | .go .sk ts => (ts, -1)
 | .go .nt ts => (ts, -1)
 | .go (.wd a acc) ts => (ts ++ [⟨1, (a : Int), strOfNums acc⟩], -1)
 | .go (.qt _ _) _ => ([], (E : Int))
 | .go (.es _ p _) _ => if E < s.size ∧ ¬ (bt s (E : Int) = 34 ∨ bt s (E : Int) = 92) then ([], (p : Int)) else ([], (E : Int))
theorem rs_cons (i : Nat) (st : St) (ts : List Tk) (c : Int) (l : List Int) : rs i st ts (c :: l) = match step i c st ts with | .bad j => .bad j | .go st' ts' => rs (i + 1) st' ts' l := rfl
theorem quoted_ev {s : ByteArray} {E : Nat} (hE : E ≤ s.size) (hs : s.size ≤ 3000) (a : Nat) (ts : List Tk) : ∀ (d i : Nat) (acc : List Int), i ≤ E → E - i ≤ d → acc.length ≤ i → ∃ t j ok, Ev (fun k => parapetref19_quoted.l0 k s (i : Int) (E : Int) acc) (t, j, ok) ∧
  ((ok = true ∧ ∃ q : Nat, j = (q : Int) ∧ i < q ∧ q ≤ E ∧ rs i (.qt a acc) ts (seg s E i) = rs q .sk (ts ++ [⟨2, (a : Int), t⟩]) (seg s E q)) ∨ (ok = false ∧ 0 ≤ j ∧ refT s E (rs i (.qt a acc) ts (seg s E i)) = ([], j))) := by
 intro d
 induction d with
 | zero =>
  intro i acc hi hd ha
  refine ⟨_, _, _, Ev.step (f := fun _ => some ((⟨#[]⟩ : ByteArray), (E : Int), false)) (fun k => ?_) (Ev.const fun _ => rfl), .inr ⟨rfl, by omega, ?_⟩⟩
  ·rw [parapetref19_quoted.l0, if_pos (by omega)]
  ·rw [seg_end (by omega)]; rfl
 | succ d ih =>
  intro i acc hi hd ha
  by_cases hlt : i < E
  ·have hw : wrap64 ((i : Int) + 1) = ((i + 1 : Nat) : Int) := by unfold wrap64; omega
   have hw2 : wrap64 (((i + 1 : Nat) : Int) + 1) = ((i + 2 : Nat) : Int) := by unfold wrap64; omega
   obtain ⟨c, hc⟩ : ∃ c, c = bt s (i : Int) := ⟨_, rfl⟩
   rw [seg_cons hE hlt, rs_cons, ← hc]
   have hpre : ∀ k, parapetref19_quoted.l0 (k + 1) s (i : Int) (E : Int) acc = (if c = 34 then (some (strOfNums acc, wrap64 ((i : Int) + 1), true)) else (if c = 10 then (some ((⟨#[]⟩ : ByteArray), (i : Int), false)) else (if c = 92 then (if (wrap64 ((i : Int) + 1)) ≥ (s.size : Int) then (some ((⟨#[]⟩ : ByteArray), (s.size : Int), false)) else (if 0 ≤ (wrap64 ((i : Int) + 1)) then (if (wrap64 ((i : Int) + 1)) < (s.size : Int) then (if (bt s (wrap64 ((i : Int) + 1))) = 34 then (if acc.length < 140737488355328 then (parapetref19_quoted.l0 k s (wrap64 ((wrap64 ((i : Int) + 1)) + 1)) (E : Int) (acc ++ [bt s (wrap64 ((i : Int) + 1))])) else (none)) else (if (bt s (wrap64 ((i : Int) + 1))) = 92 then (if acc.length < 140737488355328 then (parapetref19_quoted.l0 k s (wrap64 ((wrap64 ((i : Int) + 1)) + 1)) (E : Int) (acc ++ [bt s (wrap64 ((i : Int) + 1))])) else (none)) else (some ((⟨#[]⟩ : ByteArray), (i : Int), false)))) else (none)) else (none))) else (if acc.length < 140737488355328 then (parapetref19_quoted.l0 k s (wrap64 ((i : Int) + 1)) (E : Int) (acc ++ [c])) else (none))))) := by
    intro k
    rw [parapetref19_quoted.l0, if_neg (by omega), if_pos (by omega), if_pos (by omega), ← hc]
   rw [hw, hw2] at hpre
   by_cases c1 : c = 34
   ·refine ⟨_, _, _, Ev.step (f := fun _ => some (strOfNums acc, ((i + 1 : Nat) : Int), true)) (fun k => by rw [hpre, if_pos c1]) (Ev.const fun _ => rfl), .inl ⟨rfl, i + 1, rfl, by omega, by omega, ?_⟩⟩
    rw [step, if_pos c1]
   ·by_cases c2 : c = 10
    ·refine ⟨_, _, _, Ev.step (f := fun _ => some ((⟨#[]⟩ : ByteArray), (i : Int), false)) (fun k => by rw [hpre, if_neg c1, if_pos c2]) (Ev.const fun _ => rfl), .inr ⟨rfl, by omega, ?_⟩⟩
     rw [step, if_neg c1, if_pos c2]; rfl
    ·by_cases c3 : c = 92
     ·have hst : step i c (.qt a acc) ts = .go (.es a i acc) ts := by rw [step, if_neg c1, if_neg c2, if_pos c3]
      rw [hst]
      by_cases hz : i + 1 < s.size
      ·obtain ⟨c', hc'⟩ : ∃ c', c' = bt s ((i + 1 : Nat) : Int) := ⟨_, rfl⟩
       rw [← hc'] at hpre
       by_cases h5 : c' = 34 ∨ c' = 92
       ·have hgo : ∀ k, parapetref19_quoted.l0 (k + 1) s (i : Int) (E : Int) acc = parapetref19_quoted.l0 k s ((i + 2 : Nat) : Int) (E : Int) (acc ++ [c']) := by
         intro k
         rw [hpre, if_neg c1, if_neg c2, if_pos c3, if_neg (by omega), if_pos (by omega), if_pos (by omega)]
         rcases h5 with h5 | h5
         ·rw [if_pos h5, if_pos (by omega)]
         ·rw [if_neg (by omega), if_pos h5, if_pos (by omega)]
        by_cases h6 : i + 1 < E
        ·obtain ⟨t, j, ok, g1, g2⟩ := ih (i + 2) (acc ++ [c']) (by omega) (by omega) (by rw [List.length_append, List.length_singleton]; omega)
         have hrs : rs (i + 1) (.es a i acc) ts (seg s E (i + 1)) = rs (i + 2) (.qt a (acc ++ [c'])) ts (seg s E (i + 2)) := by
          rw [seg_cons hE h6, rs_cons, ← hc', step, if_pos h5]
         refine ⟨t, j, ok, Ev.step hgo g1, ?_⟩
         show (_ ∧ ∃ q : Nat, _ ∧ _ ∧ _ ∧ rs (i + 1) (.es a i acc) ts (seg s E (i + 1)) = _) ∨ (_ ∧ _ ∧ refT s E (rs (i + 1) (.es a i acc) ts (seg s E (i + 1))) = _)
         rw [hrs]
         rcases g2 with ⟨h7, q, h8, h9, h10, h11⟩ | h7
         ·exact .inl ⟨h7, q, h8, by omega, h10, h11⟩
         ·exact .inr h7
        ·refine ⟨_, _, _, Ev.step hgo (Ev.step (f := fun _ => some ((⟨#[]⟩ : ByteArray), (E : Int), false)) (fun k => ?_) (Ev.const fun _ => rfl)), .inr ⟨rfl, by omega, ?_⟩⟩
         ·rw [parapetref19_quoted.l0, if_pos (by omega)]
         ·show refT s E (rs (i + 1) (.es a i acc) ts (seg s E (i + 1))) = _
          rw [seg_end (by omega), rs, refT, if_neg]
          rw [show E = i + 1 by omega, ← hc']
          intro h; exact h.2 h5
       ·refine ⟨_, _, _, Ev.step (f := fun _ => some ((⟨#[]⟩ : ByteArray), (i : Int), false)) (fun k => ?_) (Ev.const fun _ => rfl), .inr ⟨rfl, by omega, ?_⟩⟩
        ·rw [hpre, if_neg c1, if_neg c2, if_pos c3, if_neg (by omega), if_pos (by omega), if_pos (by omega), if_neg (fun h => h5 (.inl h)), if_neg (fun h => h5 (.inr h))]
        ·show refT s E (rs (i + 1) (.es a i acc) ts (seg s E (i + 1))) = _
         by_cases h6 : i + 1 < E
         ·rw [seg_cons hE h6, rs_cons, ← hc', step, if_neg h5]; rfl
         ·rw [seg_end (by omega), rs, refT, if_pos]
          rw [show E = i + 1 by omega, ← hc']
          exact ⟨hz, h5⟩
      ·refine ⟨_, _, _, Ev.step (f := fun _ => some ((⟨#[]⟩ : ByteArray), (s.size : Int), false)) (fun k => ?_) (Ev.const fun _ => rfl), .inr ⟨rfl, by omega, ?_⟩⟩
       ·rw [hpre, if_neg c1, if_neg c2, if_pos c3, if_pos (by omega)]
       ·show refT s E (rs (i + 1) (.es a i acc) ts (seg s E (i + 1))) = _
        rw [seg_end (by omega), rs, refT, if_neg (by omega), show E = s.size by omega]
     ·obtain ⟨t, j, ok, g1, g2⟩ := ih (i + 1) (acc ++ [c]) (by omega) (by omega) (by rw [List.length_append, List.length_singleton]; omega)
      have hst : step i c (.qt a acc) ts = .go (.qt a (acc ++ [c])) ts := by rw [step, if_neg c1, if_neg c2, if_neg c3]
      rw [hst]
      refine ⟨t, j, ok, Ev.step (fun k => by rw [hpre, if_neg c1, if_neg c2, if_neg c3, if_pos (by omega)]) g1, ?_⟩
      rcases g2 with ⟨h7, q, h8, h9, h10, h11⟩ | h7
      ·exact .inl ⟨h7, q, h8, by omega, h10, h11⟩
      ·exact .inr h7
  ·refine ⟨_, _, _, Ev.step (f := fun _ => some ((⟨#[]⟩ : ByteArray), (E : Int), false)) (fun k => ?_) (Ev.const fun _ => rfl), .inr ⟨rfl, by omega, ?_⟩⟩
   ·rw [parapetref19_quoted.l0, if_pos (by omega)]
   ·rw [seg_end (by omega)]; rfl
end Go.Proofs.YtngedmioeodmfaaDoor.Pu
namespace Go.Proofs.YtngedmioeodmfaaDoor.Pu
open Go.RowKit Go.Proofs.YtngedmioeodmfaaDoor.Pr Go.Proofs.YtngedmioeodmfaaDoorW.PrintWords Go.Proofs.YtngedmioeodmfaaDoor.Lx
open Go.Proofs.YtngedmioeodmfaaDoor.Ps hiding Tk
theorem rs_wordL (a : Nat) (ts : List Tk) : ∀ (l : List Int) (i : Nat) (acc : List Int), rs i (.wd a acc) ts l = rs (i + wl l) (.wd a (acc ++ l.takeWhile pWord)) ts (l.drop (wl l))
 | [], i, acc => by simp [wl]
 | c :: l, i, acc => by
  cases hp : pWord c with
  | true =>
   rw [rs_cons, step, if_pos hp]
   show rs (i + 1) (.wd a (acc ++ [c])) ts l = _
   rw [rs_wordL a ts l (i + 1) (acc ++ [c]), wl, wl, List.takeWhile_cons, if_pos hp, List.length_cons, List.drop_succ_cons, List.append_assoc, show i + 1 + (l.takeWhile pWord).length = i + ((l.takeWhile pWord).length + 1) by omega]
   rfl
  | false => simp [wl, List.takeWhile_cons, hp]
theorem wl_head : ∀ l : List Int, l.drop (wl l) = [] ∨ ∃ c r, l.drop (wl l) = c :: r ∧ pWord c = false
 | [] => .inl rfl
 | c :: l => by
  cases hp : pWord c with
  | true => simpa [wl, List.takeWhile_cons, hp] using wl_head l
  | false => exact .inr ⟨c, l, by simp [wl, List.takeWhile_cons, hp], hp⟩
theorem wd_sk {s : ByteArray} {E i a : Nat} {acc : List Int} {ts : List Tk} : ∀ {l : List Int}, (l = [] ∨ ∃ c r, l = c :: r ∧ pWord c = false) → refT s E (rs i (.wd a acc) ts l) = refT s E (rs i .sk (ts ++ [⟨1, (a : Int), strOfNums acc⟩]) l)
 | _, .inl rfl => rfl
 | _, .inr ⟨c, r, rfl, hp⟩ => by
  have hst : step i c (.wd a acc) ts = step i c .sk (ts ++ [⟨1, (a : Int), strOfNums acc⟩]) := by rw [step, step, if_neg (show ¬ (pWord c = true) by rw [hp]; decide)]
  rw [rs_cons, rs_cons, hst]
theorem seg_drop (s : ByteArray) (E i n : Nat) : (seg s E i).drop n = seg s E (i + n) := by
 rw [seg, seg, List.drop_take, List.drop_drop, show E - i - n = E - (i + n) by omega]
theorem note_ev {s : ByteArray} {E : Nat} (hE : E ≤ s.size) (hs : s.size ≤ 3000) (D : Nat) (H : ∀ (i : Nat) (ts : List Tk), i ≤ E → E - i ≤ D → ts.length ≤ i → Ev (fun k => parapetref19_tokens.l0 k s (E : Int) ts (i : Int)) (refT s E (rs i .sk ts (seg s E i)))) :
  ∀ (d i : Nat) (ts : List Tk), i ≤ E → E - i ≤ d → d ≤ D → ts.length ≤ i → Ev (fun k => parapetref19_tokens.l1 k s (E : Int) ts (i : Int)) (refT s E (rs i .nt ts (seg s E i))) := by
 intro d
 induction d with
 | zero =>
  intro i ts hi hd hD ht
  refine Ev.step (fun k => ?_) ((H i ts hi (by omega) ht).eq ?_)
  ·rw [parapetref19_tokens.l1, if_neg (by omega)]
  ·rw [seg_end (by omega)]; rfl
 | succ d ih =>
  intro i ts hi hd hD ht
  by_cases hlt : i < E
  ·have hw : wrap64 ((i : Int) + 1) = ((i + 1 : Nat) : Int) := by unfold wrap64; omega
   by_cases h1 : bt s (i : Int) = 10
   ·refine Ev.step (fun k => ?_) ((H i ts hi (by omega) ht).eq ?_)
    ·rw [parapetref19_tokens.l1, if_pos (by omega), if_pos (by omega), if_pos (by omega), if_pos h1]
    ·rw [seg_cons hE hlt, rs_cons, rs_cons, h1, step, step, if_pos rfl, st1, if_pos (by decide +kernel)]
   ·refine Ev.step (fun k => ?_) ((ih (i + 1) ts (by omega) (by omega) (by omega) (by omega)).eq ?_)
    ·rw [parapetref19_tokens.l1, if_pos (by omega), if_pos (by omega), if_pos (by omega), if_neg h1, hw]
    ·rw [seg_cons hE hlt, rs_cons, step, if_neg h1]
  ·refine Ev.step (fun k => ?_) ((H i ts hi (by omega) ht).eq ?_)
   ·rw [parapetref19_tokens.l1, if_neg (by omega)]
   ·rw [seg_end (by omega)]; rfl
section
variable {s : ByteArray} {E i : Nat} {ts : List Tk} {c : Int}
def wN (s : ByteArray) (E i : Nat) (c : Int) : Int := if pLetter c = true then ((1 + wl (seg s E (i + 1)) : Nat) : Int) else 0
theorem tok_word_ev (hE : E ≤ s.size) (hs : s.size ≤ 3000) (hlt : i < E) (hc : c = bt s (i : Int)) : Ev (fun k => parapetref19_word.f k (s.extract i E)) (wN s E i c) := by
 have hxs : (s.extract i E).size = E - i := by rw [ByteArray.size_extract]; omega
 have hb := bt_drop (s.extract i E) 0 (by omega)
 rw [List.drop_zero, seg_bytes, seg_cons hE hlt] at hb
 injection hb with hb1 hb2
 have hwd := word_ev (s.extract i E) (by omega) (by omega)
 rw [show bt (s.extract i E) 0 = bt s (i : Int) from hb1.symm, seg_bytes, show (seg s E i).drop 1 = seg s E (i + 1) from seg_drop s E i 1, ← hc] at hwd
 exact hwd
theorem blank_split (c : Int) (hr : 0 ≤ c ∧ c ≤ 255) {α : Type} (f : Bool → α) : (if c = 9 then f true else if c = 10 then f true else if c = 13 then f true else f (c == 32)) = f (pBlank c) := by
 rw [blank_is hr]
 by_cases c1 : c = 9
 ·rw [if_pos c1, decide_eq_true c1]; rfl
 ·rw [if_neg c1, decide_eq_false c1]
  by_cases c2 : c = 10
  ·rw [if_pos c2, decide_eq_true c2]; rfl
  ·rw [if_neg c2, decide_eq_false c2]
   by_cases c3 : c = 13
   ·rw [if_pos c3, decide_eq_true c3]; rfl
   ·rw [if_neg c3, decide_eq_false c3]; rfl
theorem tok_enter (hE : E ≤ s.size) (hs : s.size ≤ 3000) (hlt : i < E) (hc : c = bt s (i : Int)) {r : List Tk × Int} (h : Ev (fun k => parapetref19_tokens.j1 k s (E : Int) ts (i : Int) c (wN s E i c) (pBlank c)) r) : Ev (fun k => parapetref19_tokens.l0 k s (E : Int) ts (i : Int)) r := by
 have hr : 0 ≤ c ∧ c ≤ 255 := by rw [hc]; exact bt_rng s i
 refine Ev.step (fun k => ?_) (Ev.bind (tok_word_ev hE hs hlt hc) (f := fun k t369 => parapetref19_tokens.j1 k s (E : Int) ts (i : Int) c t369 (pBlank c)) h)
 rw [parapetref19_tokens.l0, if_pos (by omega), if_pos (by omega), if_pos (by omega), if_pos (by omega), if_pos (by omega), Int.toNat_natCast, Int.toNat_natCast, ← hc]
 congr 1
 funext t369
 exact blank_split c hr (fun b => parapetref19_tokens.j1 k s (E : Int) ts (i : Int) c t369 b)
theorem tok_blank (h1 : pBlank c = true) (hi : i ≤ 3000) {r : List Tk × Int} (h : Ev (fun k => parapetref19_tokens.l0 k s (E : Int) ts ((i + 1 : Nat) : Int)) r) : Ev (fun k => parapetref19_tokens.j1 k s (E : Int) ts (i : Int) c (wN s E i c) (pBlank c)) r := by
 have hw : wrap64 ((i : Int) + 1) = ((i + 1 : Nat) : Int) := by unfold wrap64; omega
 rw [h1]
 refine Ev.step (fun k => ?_) h
 rw [parapetref19_tokens.j1, if_pos rfl, hw]
theorem tok_note (h1 : pBlank c = false) (h2 : c = 35) {r : List Tk × Int} (h : Ev (fun k => parapetref19_tokens.l1 k s (E : Int) ts (i : Int)) r) : Ev (fun k => parapetref19_tokens.j1 k s (E : Int) ts (i : Int) c (wN s E i c) (pBlank c)) r := by
 rw [h1]
 refine Ev.step (fun k => ?_) h
 rw [parapetref19_tokens.j1, if_neg Bool.false_ne_true, if_pos h2]
theorem tok_word (h1 : pBlank c = false) (h2 : c ≠ 35) (h3 : pLetter c = true) {m : Nat} (hm : wl (seg s E (i + 1)) = m) (hi : i + (m + 1) ≤ s.size) (hs : s.size ≤ 3000) (hlen : ts.length < 4398046511104) {r : List Tk × Int} (h : Ev (fun k => parapetref19_tokens.l0 k s (E : Int) (ts ++ [⟨1, (i : Int), s.extract i (i + (m + 1))⟩]) ((i + (m + 1) : Nat) : Int)) r) : Ev (fun k => parapetref19_tokens.j1 k s (E : Int) ts (i : Int) c (wN s E i c) (pBlank c)) r := by
 have hw : wrap64 ((i : Int) + ((1 + m : Nat) : Int)) = ((i + (m + 1) : Nat) : Int) := by unfold wrap64; omega
 rw [h1, wN, if_pos h3, hm]
 refine Ev.step (fun k => ?_) h
 rw [parapetref19_tokens.j1, if_neg Bool.false_ne_true, if_neg h2, if_pos (by omega), if_pos (by omega), hw, if_pos (by omega), if_pos (by omega), if_pos hlen, Int.toNat_natCast, Int.toNat_natCast]
theorem tok_j (h1 : pBlank c = false) (h2 : c ≠ 35) (h3 : pLetter c = false) (hi : i ≤ 3000) (hlen : ts.length < 4398046511104) (k : Nat) : parapetref19_tokens.j1 (k + 1) s (E : Int) ts (i : Int) c (wN s E i c) (pBlank c) =
  if c = 34 then ((parapetref19_quoted.f k s (i : Int) (E : Int)).bind fun bt373 => (if bt373.2.2 = true then (parapetref19_tokens.l0 k s (E : Int) (ts ++ [(⟨2, (i : Int), bt373.1⟩ : S40)]) bt373.2.1) else (some (([] : List (S40)), bt373.2.1))))
  else if c = 40 then parapetref19_tokens.l0 k s (E : Int) (ts ++ [(⟨3, (i : Int), (⟨#[40]⟩ : ByteArray)⟩ : S40)]) ((i + 1 : Nat) : Int)
  else if c = 41 then parapetref19_tokens.l0 k s (E : Int) (ts ++ [(⟨4, (i : Int), (⟨#[41]⟩ : ByteArray)⟩ : S40)]) ((i + 1 : Nat) : Int)
  else if c = 59 then parapetref19_tokens.l0 k s (E : Int) (ts ++ [(⟨5, (i : Int), (⟨#[59]⟩ : ByteArray)⟩ : S40)]) ((i + 1 : Nat) : Int)
  else some ([], (i : Int)) := by
 have hw : wrap64 ((i : Int) + 1) = ((i + 1 : Nat) : Int) := by unfold wrap64; omega
 have h4 : ¬ (pLetter c = true) := by rw [h3]; decide
 rw [h1, wN, if_neg h4, parapetref19_tokens.j1, if_neg Bool.false_ne_true, if_neg h2, if_neg (by omega), hw]
 simp only [if_pos hlen]
theorem tok_op (h1 : pBlank c = false) (h2 : c ≠ 35) (h3 : pLetter c = false) (h5 : c ≠ 34) (h6 : c = 40 ∨ c = 41 ∨ c = 59) (hi : i ≤ 3000) (hlen : ts.length < 4398046511104) {r : List Tk × Int} (h : Ev (fun k => parapetref19_tokens.l0 k s (E : Int) (ts ++ [⟨opIdx c, (i : Int), strOfNums [c]⟩]) ((i + 1 : Nat) : Int)) r) : Ev (fun k => parapetref19_tokens.j1 k s (E : Int) ts (i : Int) c (wN s E i c) (pBlank c)) r := by
 refine Ev.step (fun k => ?_) h
 rw [tok_j h1 h2 h3 hi hlen, if_neg h5]
 rcases h6 with rfl | rfl | rfl
 ·rw [if_pos rfl]; rfl
 ·rw [if_neg (by decide), if_pos rfl]; rfl
 ·rw [if_neg (by decide), if_neg (by decide), if_pos rfl]; rfl
theorem tok_bad (h1 : pBlank c = false) (h2 : c ≠ 35) (h3 : pLetter c = false) (h5 : c ≠ 34) (h6 : ¬ (c = 40 ∨ c = 41 ∨ c = 59)) (hi : i ≤ 3000) (hlen : ts.length < 4398046511104) : Ev (fun k => parapetref19_tokens.j1 k s (E : Int) ts (i : Int) c (wN s E i c) (pBlank c)) ([], (i : Int)) := by
 refine Ev.step (f := fun _ => some ([], (i : Int))) (fun k => ?_) (Ev.const fun _ => rfl)
 rw [tok_j h1 h2 h3 hi hlen, if_neg h5, if_neg (fun h => h6 (.inl h)), if_neg (fun h => h6 (.inr (.inl h))), if_neg (fun h => h6 (.inr (.inr h)))]
theorem tok_quo (hE : E ≤ s.size) (hs : s.size ≤ 3000) (hlt : i < E) (h1 : pBlank c = false) (h2 : c ≠ 35) (h3 : pLetter c = false) (h5 : c = 34) (hlen : ts.length ≤ i)
  (H : ∀ (j : Nat) (ts : List Tk), j ≤ E → E - j ≤ E - (i + 1) → ts.length ≤ j → Ev (fun k => parapetref19_tokens.l0 k s (E : Int) ts (j : Int)) (refT s E (rs j .sk ts (seg s E j)))) : Ev (fun k => parapetref19_tokens.j1 k s (E : Int) ts (i : Int) c (wN s E i c) (pBlank c)) (refT s E (rs (i + 1) (.qt i []) ts (seg s E (i + 1)))) := by
 have hw : wrap64 ((i : Int) + 1) = ((i + 1 : Nat) : Int) := by unfold wrap64; omega
 obtain ⟨t, j, ok, g1, g2⟩ := quoted_ev hE hs i ts (E - (i + 1)) (i + 1) [] (by omega) (by omega) (Nat.zero_le _)
 have hq : ∀ k, parapetref19_tokens.j1 (k + 1) s (E : Int) ts (i : Int) c (wN s E i c) (pBlank c) = (parapetref19_quoted.l0 k s ((i + 1 : Nat) : Int) (E : Int) []).bind fun bt373 => (if bt373.2.2 = true then (parapetref19_tokens.l0 k s (E : Int) (ts ++ [(⟨2, (i : Int), bt373.1⟩ : S40)]) bt373.2.1) else (some (([] : List (S40)), bt373.2.1))) := by
  intro k
  rw [tok_j h1 h2 h3 (by omega) (by omega), if_pos h5, parapetref19_quoted.f, hw]
 rcases g2 with ⟨rfl, q, rfl, e1, e2, e3⟩ | ⟨rfl, e1, e2⟩
 ·refine Ev.step hq (Ev.bind g1 ?_)
  rw [e3]
  exact ev_eqq (fun k => by rw [if_pos rfl]) (H q _ e2 (by omega) (by rw [List.length_append, List.length_singleton]; omega))
 ·refine Ev.step hq (Ev.bind g1 ?_)
  rw [e2]
  exact Ev.const fun k => by rw [if_neg Bool.false_ne_true]
theorem word_piece (hlt : i < E) (hE : E ≤ s.size) (hc : c = bt s (i : Int)) : s.extract i (i + (wl (seg s E (i + 1)) + 1)) = strOfNums (c :: (seg s E (i + 1)).takeWhile pWord) := by
 have hpc := piece (x := s) (a := i) (w := c :: (seg s E (i + 1)).takeWhile pWord) (rest := (seg s E (i + 1)).dropWhile pWord ++ ((bytesOf s).drop (i + 1)).drop (E - (i + 1))) (by
  rw [bt_drop s i (by omega), ← hc, List.cons_append, ← List.append_assoc, List.takeWhile_append_dropWhile, seg, List.take_append_drop])
 rw [List.length_cons] at hpc
 exact hpc.1
end
theorem tokens_loop {s : ByteArray} {E : Nat} (hE : E ≤ s.size) (hs : s.size ≤ 3000) : ∀ (d i : Nat) (ts : List Tk), i ≤ E → E - i ≤ d → ts.length ≤ i → Ev (fun k => parapetref19_tokens.l0 k s (E : Int) ts (i : Int)) (refT s E (rs i .sk ts (seg s E i))) := by
 intro d
 induction d with
 | zero =>
  intro i ts hi hd ht
  refine Ev.step (f := fun _ => some (ts, -1)) (fun k => ?_) ((Ev.const fun _ => rfl : Ev _ (ts, (-1 : Int))).eq ?_)
  ·rw [parapetref19_tokens.l0, if_neg (by omega)]
  ·rw [seg_end (by omega)]; rfl
 | succ d ih =>
  intro i ts hi hd ht
  by_cases hlt : i < E
  ·obtain ⟨c, hc⟩ : ∃ c, c = bt s (i : Int) := ⟨_, rfl⟩
   refine tok_enter hE hs hlt hc ?_
   rw [seg_cons hE hlt, rs_cons, ← hc]
   cases hbl : pBlank c with
   | true =>
    have hst : step i c .sk ts = .go .sk ts := by rw [step, st1, if_pos hbl]
    rw [hst, ← hbl]
    exact tok_blank hbl (by omega) (ih (i + 1) ts (by omega) (by omega) (by omega))
   | false =>
    have hnb : ¬ (pBlank c = true) := by rw [hbl]; decide
    rw [← hbl]
    by_cases c1 : c = 35
    ·have hst : step i c .sk ts = .go .nt ts := by rw [step, st1, if_neg hnb, if_pos c1]
     rw [hst]
     have hnt := note_ev hE hs d ih d (i + 1) ts (by omega) (by omega) (Nat.le_refl _) (by omega)
     refine tok_note hbl c1 (Ev.step (fun k => ?_) hnt)
     have hw : wrap64 ((i : Int) + 1) = ((i + 1 : Nat) : Int) := by unfold wrap64; omega
     rw [parapetref19_tokens.l1, if_pos (by omega), if_pos (by omega), if_pos (by omega), if_neg (by rw [← hc]; omega), hw]
    ·cases hl : pLetter c with
     | true =>
      have hst : step i c .sk ts = .go (.wd i [c]) ts := by rw [step, st1, if_neg hnb, if_neg c1, if_pos hl]
      rw [hst]
      obtain ⟨m, hm⟩ : ∃ m, m = wl (seg s E (i + 1)) := ⟨_, rfl⟩
      have hle : m ≤ E - (i + 1) := by rw [hm]; exact Nat.le_trans (wl_le _) (by rw [seg, List.length_take]; exact Nat.min_le_left _ _)
      refine tok_word hbl c1 hl hm.symm (by omega) hs (by omega) ?_
      show Ev _ (refT s E (rs (i + 1) (.wd i [c]) ts (seg s E (i + 1))))
      have hpc := word_piece hlt hE hc
      rw [← hm] at hpc
      rw [rs_wordL, ← hm, wd_sk (by rw [hm]; exact wl_head _), seg_drop, show i + 1 + m = i + (m + 1) by omega, hpc]
      exact ih (i + (m + 1)) _ (by omega) (by omega) (by rw [List.length_append, List.length_singleton]; omega)
     | false =>
      have hnl : ¬ (pLetter c = true) := by rw [hl]; decide
      by_cases c2 : c = 34
      ·have hst : step i c .sk ts = .go (.qt i []) ts := by rw [step, st1, if_neg hnb, if_neg c1, if_neg hnl, if_pos c2]
       rw [hst]
       exact tok_quo hE hs hlt hbl c1 hl c2 ht (fun j ts h1 h2 h3 => ih j ts h1 (by omega) h3)
      ·by_cases c3 : c = 40 ∨ c = 41 ∨ c = 59
       ·have hst : step i c .sk ts = .go .sk (ts ++ [⟨opIdx c, (i : Int), strOfNums [c]⟩]) := by rw [step, st1, if_neg hnb, if_neg c1, if_neg hnl, if_neg c2, if_pos c3]
        rw [hst]
        exact tok_op hbl c1 hl c2 c3 (by omega) (by omega) (ih (i + 1) _ (by omega) (by omega) (by rw [List.length_append, List.length_singleton]; omega))
       ·have hst : step i c .sk ts = .bad i := by rw [step, st1, if_neg hnb, if_neg c1, if_neg hnl, if_neg c2, if_neg c3]
        rw [hst]
        exact tok_bad hbl c1 hl c2 c3 (by omega) (by omega)
  ·refine Ev.step (f := fun _ => some (ts, -1)) (fun k => ?_) ((Ev.const fun _ => rfl : Ev _ (ts, (-1 : Int))).eq ?_)
   ·rw [parapetref19_tokens.l0, if_neg (by omega)]
   ·rw [seg_end (by omega)]; rfl
end Go.Proofs.YtngedmioeodmfaaDoor.Pu
namespace Go.Proofs.YtngedmioeodmfaaDoor.Pu
open Go.RowKit Go.Proofs.YtngedmioeodmfaaDoor.Pr Go.Proofs.YtngedmioeodmfaaDoorW.PrintWords Go.Proofs.YtngedmioeodmfaaDoor.Lx
open Go.Proofs.YtngedmioeodmfaaDoor.Ps hiding Tk
theorem q_st1_bad {i : Nat} {c : Int} {ts : List Tk} {j : Nat} (h : st1 i c ts = .bad j) : j = i := by
 unfold st1 at h
 repeat' split at h
 all_goals first | (cases h; rfl) | cases h
theorem q_st1_es {i : Nat} {c : Int} {ts ts' : List Tk} {a p : Nat} {acc : List Int} : st1 i c ts ≠ .go (.es a p acc) ts' := by
 intro h
 unfold st1 at h
 repeat' split at h
 all_goals cases h
theorem q_step_bad {i : Nat} {c : Int} {st : St} {ts : List Tk} {j : Nat} (h : step i c st ts = .bad j) : j = i ∨ ∃ a acc, st = .es a j acc := by
  cases st with
  | sk => exact .inl (q_st1_bad h)
  | nt => simp only [step] at h; split at h <;> cases h
  | wd a acc => simp only [step] at h; split at h; cases h; exact .inl (q_st1_bad h)
  | qt a acc => simp only [step] at h; repeat' split at h
                all_goals first | (cases h; exact .inl rfl) | cases h
  | es a p acc => simp only [step] at h; split at h; cases h; cases h; exact .inr ⟨_, _, rfl⟩
theorem q_step_es {i : Nat} {c : Int} {st : St} {ts ts' : List Tk} {a p : Nat} {acc : List Int} (h : step i c st ts = .go (.es a p acc) ts') : p = i := by
  cases st with
  | sk => exact (q_st1_es h).elim
  | nt => simp only [step] at h; split at h <;> cases h
  | wd a acc => simp only [step] at h; split at h; cases h; exact (q_st1_es h).elim
  | qt a acc => simp only [step] at h; repeat' split at h
                all_goals first | (cases h; rfl) | cases h
  | es a p acc => simp only [step] at h; split at h <;> cases h
theorem sm_ge (m : Nat) : ∀ (l : List Int) (i : Nat) (st : St) (ts : List Tk) (j : Nat), m ≤ i → (∀ a p acc, st = .es a p acc → m ≤ p) → sm i st ts l = .bad j → m ≤ j
 | [], i, st, ts, j, hi, he, h => by
  rw [sm] at h
  cases st <;> simp [fin] at h <;> omega
 | c :: l, i, st, ts, j, hi, he, h => by
  rw [sm] at h
  cases hs : step i c st ts with
  | bad j2 =>
   rw [hs] at h
   cases h
   rcases q_step_bad hs with rfl | ⟨a, acc, e⟩
   ·exact hi
   ·exact he _ _ _ e
  | go st' ts' =>
   rw [hs] at h
   exact sm_ge m l (i + 1) st' ts' j (by omega) (fun a p acc e => by subst e; have := q_step_es hs; omega) h
theorem rs_le : ∀ (l : List Int) (i : Nat) (st : St) (ts : List Tk), (∀ a p acc, st = .es a p acc → p ≤ i) → (∀ j, rs i st ts l = .bad j → j ≤ i + l.length) ∧ (∀ st' ts', rs i st ts l = .go st' ts' → ∀ a p acc, st' = .es a p acc → p ≤ i + l.length)
 | [], i, st, ts, he => ⟨fun j h => (by cases h), fun st' ts' h => (by cases h; exact fun a p acc e => by have := he a p acc e; simp; omega)⟩
 | c :: l, i, st, ts, he => by
  rw [rs_cons]
  cases hs : step i c st ts with
  | bad j2 =>
   refine ⟨fun j h => ?_, fun st' ts' h => (by cases h)⟩
   cases h
   rw [List.length_cons]
   rcases q_step_bad hs with rfl | ⟨a, acc, e⟩
   ·omega
   ·have := he _ _ _ e; omega
  | go st1 ts1 =>
   have ih := rs_le l (i + 1) st1 ts1 (fun a p acc e => by subst e; have := q_step_es hs; omega)
   rw [List.length_cons]
   refine ⟨fun j h => by have := ih.1 j h; omega, fun st' ts' h a p acc e => by have := ih.2 st' ts' h a p acc e; omega⟩
def tokR (x : ByteArray) (E : Nat) (r : List Tk × Int) : List Tk × Int × Int :=
 if r.2 ≥ 0 then ([], 8, r.2) else if (E : Int) < (x.size : Int) then ([], 8, (E : Int)) else (r.1, 0, 0)
def tokS (W : Nat) (n : Nat) : Out → List Tk × Int × Int
 | .bad j => ([], 8, min (W : Int) (j : Int))
 | .good ts => if (W : Int) ≤ (n : Int) then ([], 8, (W : Int)) else (ts, 0, 0)
theorem tokS_ge {W n m : Nat} {o : Out} (hW : W ≤ n) (h : ∀ j, o = .bad j → W ≤ j) : tokS W n o = ([], 8, (W : Int)) := by
 cases o with
 | bad j => have := h j rfl; rw [tokS, Int.min_eq_left (by omega)]
 | good ts => rw [tokS, if_pos (by omega)]
theorem tokR_neg {x : ByteArray} {E : Nat} {ts : List Tk} (h : E < x.size) : tokR x E (ts, -1) = ([], 8, (E : Int)) := by
 rw [tokR, if_neg (show ¬ ((-1 : Int) ≥ 0) by decide), if_pos (by omega)]
theorem tokR_pos {x : ByteArray} {E : Nat} {ts : List Tk} {j : Nat} : tokR x E (ts, (j : Int)) = ([], 8, (j : Int)) := by
 rw [tokR, if_pos (by show (j : Int) ≥ 0; omega)]
theorem ref_all (x : ByteArray) : tokR x x.size (refT x x.size (rs 0 .sk [] (bytesOf x))) = tokS (x.size + 1) x.size (sm 0 .sk [] (bytesOf x)) := by
 have hl : (bytesOf x).length = x.size := bytesOf_length x
 have hle := rs_le (bytesOf x) 0 .sk [] (fun _ _ _ e => by cases e)
 rw [sm_rs, Nat.zero_add, hl]
 have hneg : ∀ ts, tokR x x.size (ts, -1) = (ts, 0, 0) := fun ts => by rw [tokR, if_neg (show ¬ ((-1 : Int) ≥ 0) by decide), if_neg (by omega)]
 cases ho : rs 0 .sk [] (bytesOf x) with
 | bad j =>
  have := hle.1 j ho
  show tokR x x.size ([], (j : Int)) = tokS _ _ (.bad j)
  rw [tokR_pos, tokS, Int.min_eq_right (by omega)]
 | go st ts =>
  cases st with
  | sk => show tokR x x.size (ts, -1) = tokS _ _ (.good ts); rw [hneg, tokS, if_neg (by omega)]
  | nt => show tokR x x.size (ts, -1) = tokS _ _ (.good ts); rw [hneg, tokS, if_neg (by omega)]
  | wd a acc => show tokR x x.size (_, -1) = tokS _ _ (.good _); rw [hneg, tokS, if_neg (by omega)]
  | qt a acc => show tokR x x.size ([], (x.size : Int)) = tokS _ _ (.bad x.size); rw [tokR_pos, tokS, Int.min_eq_right (by omega)]
  | es a p acc =>
   show tokR x x.size (if x.size < x.size ∧ _ then _ else _) = tokS _ _ (.bad x.size)
   rw [if_neg (fun h => absurd h.1 (Nat.lt_irrefl _)), tokR_pos, tokS, Int.min_eq_right (by omega)]
theorem ref_cut (x : ByteArray) (E : Nat) (hE : E < x.size) : tokR x E (refT x E (rs 0 .sk [] (seg x E 0))) = tokS E x.size (sm 0 .sk [] (bytesOf x)) := by
 have hb : bytesOf x = seg x E 0 ++ dr x E := by rw [seg, List.drop_zero, Nat.sub_zero, dr, List.take_append_drop]
 have hlen : (seg x E 0).length = E := by rw [seg, List.drop_zero, Nat.sub_zero, List.length_take, bytesOf_length]; omega
 have hle := rs_le (seg x E 0) 0 .sk [] (fun _ _ _ e => by cases e)
 rw [hlen, Nat.zero_add] at hle
 have hsm : ∀ st ts, rs 0 .sk [] (seg x E 0) = .go st ts → sm 0 .sk [] (bytesOf x) = sm E st ts (dr x E) := fun st ts h => by
  rw [hb, sm_rs, rs_app_go h, sm_rs, hlen, Nat.zero_add, List.length_append, hlen, Nat.zero_add]
 have hgo : ∀ st ts, (∀ a p acc, st = .es a p acc → False) → tokS E x.size (sm E st ts (dr x E)) = ([], 8, (E : Int)) := fun st ts he =>
  tokS_ge (m := 0) (by omega) (fun j h => sm_ge E _ E st ts j (Nat.le_refl _) (fun a p acc e => (he a p acc e).elim) h)
 cases ho : rs 0 .sk [] (seg x E 0) with
 | bad j =>
  have := hle.1 j ho
  have h2 : sm 0 .sk [] (bytesOf x) = .bad j := by rw [hb, sm_rs, rs_app_bad ho]; rfl
  rw [h2]
  show tokR x E ([], (j : Int)) = tokS _ _ (.bad j)
  rw [tokR_pos, tokS, Int.min_eq_right (by omega)]
 | go st ts =>
  rw [hsm st ts ho]
  cases st with
  | sk => rw [hgo _ _ (fun _ _ _ e => by cases e)]; exact tokR_neg hE
  | nt => rw [hgo _ _ (fun _ _ _ e => by cases e)]; exact tokR_neg hE
  | wd a acc => rw [hgo _ _ (fun _ _ _ e => by cases e)]; exact tokR_neg hE
  | qt a acc => rw [hgo _ _ (fun _ _ _ e => by cases e)]; exact tokR_pos
  | es a p acc =>
   have hp := hle.2 _ _ ho a p acc rfl
   show tokR x E (if E < x.size ∧ ¬ (bt x (E : Int) = 34 ∨ bt x (E : Int) = 92) then ([], (p : Int)) else ([], (E : Int))) = _
   rw [dr_cons x E hE, sm]
   by_cases hq : bt x (E : Int) = 34 ∨ bt x (E : Int) = 92
   ·rw [if_neg (fun h => h.2 hq), tokR_pos]
    have hst : step E (bt x (E : Int)) (.es a p acc) ts = .go (.qt a (acc ++ [bt x (E : Int)])) ts := by rw [step, if_pos hq]
    rw [hst]
    exact (tokS_ge (m := 0) (by omega) (fun j h => by have := sm_ge (E + 1) _ (E + 1) _ ts j (Nat.le_refl _) (fun a p acc e => by cases e) h; omega)).symm
   ·rw [if_pos ⟨hE, hq⟩, tokR_pos]
    have hst : step E (bt x (E : Int)) (.es a p acc) ts = .bad p := by rw [step, if_neg hq]
    rw [hst]
    show _ = tokS _ _ (.bad p)
    rw [tokS, Int.min_eq_right (by omega)]
theorem rtokens_ev (x : ByteArray) : Ev (fun k => parapetref19_Tokens.f k x) (tokM x) := by
 unfold tokM parapetref19_Tokens.f
 by_cases h : x.size > 3000
 ·rw [if_pos h]
  refine Ev.const fun k => ?_
  rw [if_pos (by omega)]
 ·rw [if_neg h]
  obtain ⟨E, hEe⟩ : ∃ E, E = brkL x.data.toList := ⟨_, rfl⟩
  have hbl := brk_le x.data.toList.length x.data.toList
  have hEl : E ≤ x.size := by rw [hEe, ← data_length]; exact hbl
  have hbr := broken_ev x (by omega)
  have htk := tokens_loop hEl (by omega) E 0 [] (Nat.zero_le _) (by omega) (Nat.zero_le _)
  rw [← hEe] at hbr
  have hall : tokR x E (refT x E (rs 0 .sk [] (seg x E 0))) = tokS (wrongN x.data.toList) x.size (sm 0 .sk [] (bytesOf x)) := by
   by_cases hz : E = x.size
   ·rw [wrongN, ← hEe, data_length, if_pos hz]
    subst hz
    have hb : seg x x.size 0 = bytesOf x := by rw [seg, List.drop_zero, Nat.sub_zero, List.take_of_length_le (by rw [bytesOf_length]; exact Nat.le_refl _)]
    rw [hb]
    exact ref_all x
   ·rw [wrongN, ← hEe, data_length, if_neg hz]
    exact ref_cut x E (by omega)
  refine ev_eqq (g' := fun k => (parapetref9_Broken.f k x).bind fun t389 => (parapetref19_tokens.f k x t389).bind fun bt390 => (if bt390.2 ≥ 0 then (some (([] : List (S40)), 8, bt390.2)) else (if t389 < (x.size : Int) then (some (([] : List (S40)), 8, t389)) else (some (bt390.1, 0, 0))))) (fun k => by rw [if_neg (by omega)]) (Ev.bind hbr (ev_eqq (g' := fun k => (parapetref19_tokens.l0 k x (E : Int) [] ((0 : Nat) : Int)).bind fun bt390 => some (tokR x E bt390)) (fun k => ?_) (Ev.bind htk ((Ev.now _).eq ?_))))
  ·show (parapetref19_tokens.l0 k x (E : Int) [] 0).bind _ = (parapetref19_tokens.l0 k x (E : Int) [] 0).bind _
   congr 1
   funext b
   rw [tokR]
   split
   ·rfl
   ·split <;> rfl
  ·rw [hall]
   cases sm 0 .sk [] (bytesOf x) <;> rfl
end Go.Proofs.YtngedmioeodmfaaDoor.Pu
namespace Go.Proofs.YtngedmioeodmfaaDoor.Pu
open Go.RowKit Go.Proofs.YtngedmioeodmfaaDoor.Pr Go.Proofs.YtngedmioeodmfaaDoorW.PrintWords Go.Proofs.YtngedmioeodmfaaDoorW.PrintLast Go.Proofs.YtngedmioeodmfaaDoorW.PrintMore Go.Proofs.YtngedmioeodmfaaDoor.Lx
open Go.Proofs.YtngedmioeodmfaaDoor.Ps hiding Tk
abbrev IsR (w0 W : World) (g : Nat) (T : List Tk) (i e c a : Int) : Prop := IsS67 w0 W g T i e c a
def Step (w0 w : World) (g : Nat) (T : List Tk) (i e c a : Int) (w' : World) : Prop := IsR w0 w' g T i e c a ∧ Below w0.heap.size w0 w' ∧ KeepBut w w' g none
section
variable {w0 w : World} {g : Nat} {T : List Tk} {e : Int}
theorem r_kind (p : Nat) (h : IsR w0 w g T (p : Int) e 0 0) (hB : Below w0.heap.size w0 w) :
  Calls Tryd.prog 25 #[.pointer (some ⟨g, 0, none⟩)] w fun e' w' => e' = .returned (.int .i64 (nxt T e p).f0) ∧ Step w0 w g T (p : Int) e 0 0 w' :=
 (parapetref19_Reader_kind.calls g T _ _ _ _ _ _ _ _ _ w0 w h hB (rkind_good p)).mono fun _ _ ⟨h1, h2, h3, h4⟩ => ⟨h1, h2, h3, h4⟩
theorem r_wrong (p : Nat) (k : Int) (h : IsR w0 w g T (p : Int) e 0 0) (hB : Below w0.heap.size w0 w) :
  Calls Tryd.prog 27 #[.pointer (some ⟨g, 0, none⟩), .int .i64 k] w fun e' w' => e' = .returned (.tuple #[]) ∧ Step w0 w g T (p : Int) e k (nxt T e p).f1 w' :=
 (parapetref19_Reader_wrong.calls g T _ _ _ _ k _ _ _ _ w0 w h hB (rwrong_good p k)).mono fun _ _ ⟨h1, h2, h3, h4⟩ => ⟨h1, h2, h3, h4⟩
theorem r_take (s : ByteArray) (p : Nat) (hT : T.length ≤ 1000000) (h : IsR w0 w g T (p : Int) e 0 0) (hB : Below w0.heap.size w0 w) (b : Bool) (hb : isP T e [s] p = b) :
  Calls Tryd.prog 30 #[.pointer (some ⟨g, 0, none⟩), .string s] w fun e' w' => e' = .returned (.bool b) ∧ Step w0 w g T (if b then ((p + 1 : Nat) : Int) else (p : Int)) e 0 0 w' := by
 have hr := rtake_good (T := T) (e := e) s p hT
 rw [hb] at hr
 refine (parapetref19_Reader_take.calls g T _ _ _ _ s _ _ _ _ _ w0 w h hB hr).mono fun _ _ ⟨h1, h2, h3, h4⟩ => ⟨h1, ?_, h3, h4⟩
 cases b
 ·exact h2
 ·exact h2
theorem r_take1 (s : ByteArray) (p : Nat) (hT : T.length ≤ 1000000) (h : IsR w0 w g T (p : Int) e 0 0) (hB : Below w0.heap.size w0 w) (hb : isP T e [s] p = true) :
  Calls Tryd.prog 30 #[.pointer (some ⟨g, 0, none⟩), .string s] w fun e' w' => e' = .returned (.bool true) ∧ Step w0 w g T ((p + 1 : Nat) : Int) e 0 0 w' := r_take s p hT h hB true hb
theorem r_take0 (s : ByteArray) (p : Nat) (hT : T.length ≤ 1000000) (h : IsR w0 w g T (p : Int) e 0 0) (hB : Below w0.heap.size w0 w) (hb : isP T e [s] p = false) :
  Calls Tryd.prog 30 #[.pointer (some ⟨g, 0, none⟩), .string s] w fun e' w' => e' = .returned (.bool false) ∧ Step w0 w g T (p : Int) e 0 0 w' := r_take s p hT h hB false hb
theorem r_take_bad (s : ByteArray) {i c a : Int} (hi : 0 ≤ i) (hc : c ≠ 0) (h : IsR w0 w g T i e c a) (hB : Below w0.heap.size w0 w) :
  Calls Tryd.prog 30 #[.pointer (some ⟨g, 0, none⟩), .string s] w fun e' w' => e' = .returned (.bool false) ∧ Step w0 w g T i e c a w' :=
 (parapetref19_Reader_take.calls g T _ _ _ _ s _ _ _ _ _ w0 w h hB (rtake_bad (T := T) (e := e) s hi hc)).mono fun _ _ ⟨h1, h2, h3, h4⟩ => ⟨h1, h2, h3, h4⟩
def NxQ (r : Res ByteArray) (t : ByteArray) (i c a : Int) : Prop :=
 match r with
 | .ok (t', q) => t = t' ∧ i = (q : Int) ∧ c = 0 ∧ a = 0
 | .error (x, y) => x ≠ 0 ∧ 0 ≤ i ∧ c = x ∧ a = y ∧ t = ⟨#[]⟩
theorem r_next (k : Int) (p : Nat) (hk : k ≠ 0) (hT : T.length ≤ 1000000) (h : IsR w0 w g T (p : Int) e 0 0) (hB : Below w0.heap.size w0 w) :
  ∃ t i c a, NxQ (takeP T e k p) t i c a ∧ Calls Tryd.prog 28 #[.pointer (some ⟨g, 0, none⟩), .int .i64 k] w fun e' w' => e' = .returned (.string t) ∧ Step w0 w g T i e c a w' := by
 have hr := rnext_good (T := T) (e := e) (k := k) hk (p := p) hT
 cases ht : takeP T e k p with
 | ok x =>
  obtain ⟨t, q⟩ := x
  rw [ht] at hr
  exact ⟨t, q, 0, 0, ⟨rfl, rfl, rfl, rfl⟩, (parapetref19_Reader_next.calls g T _ _ _ _ k _ _ _ _ _ w0 w h hB hr).mono fun _ _ ⟨h1, h2, h3, h4⟩ => ⟨h1, h2, h3, h4⟩⟩
 | error x =>
  obtain ⟨x, y⟩ := x
  rw [ht] at hr
  exact ⟨_, _, x, y, ⟨take_ne T e k p ht, by omega, rfl, rfl, rfl⟩, (parapetref19_Reader_next.calls g T _ _ _ _ k _ _ _ _ _ w0 w h hB hr).mono fun _ _ ⟨h1, h2, h3, h4⟩ => ⟨h1, h2, h3, h4⟩⟩
theorem r_next_bad (k : Int) {i c a : Int} (hi : 0 ≤ i) (hc : c ≠ 0) (hT : T.length ≤ 1000000) (h : IsR w0 w g T i e c a) (hB : Below w0.heap.size w0 w) :
  Calls Tryd.prog 28 #[.pointer (some ⟨g, 0, none⟩), .int .i64 k] w fun e' w' => e' = .returned (.string ⟨#[]⟩) ∧ Step w0 w g T i e c a w' :=
 (parapetref19_Reader_next.calls g T _ _ _ _ k _ _ _ _ _ w0 w h hB (rnext_bad (T := T) (e := e) k hi hc hT)).mono fun _ _ ⟨h1, h2, h3, h4⟩ => ⟨h1, h2, h3, h4⟩
end
section
variable {T : List Tk} {e : Int}
theorem one_word {w : ByteArray} {p : Nat} (h : isP T e [w] p = true) : (nxt T e p).f0 = 1 ∧ (nxt T e p).f2 = w := by
 rw [isP, memB_cons, Bool.and_eq_true, Bool.or_eq_true] at h
 exact ⟨of_decide_eq_true h.1, h.2.elim (fun h => of_decide_eq_true h) (fun h => by cases h)⟩
theorem isP_cons (a : ByteArray) (l : List ByteArray) (p : Nat) : isP T e (a :: l) p = (isP T e [a] p || isP T e l p) := by
 rw [isP, isP, isP, memB_cons, memB_cons]
 have : memB (nxt T e p).f2 [] = false := rfl
 rw [this, Bool.or_false, Bool.and_or_distrib_left]
end
def ShQ (r : Res Sh) (s : Sh) (i c a : Int) : Prop :=
 match r with
 | .ok (s', q) => s = s' ∧ i = (q : Int) ∧ c = 0 ∧ a = 0
 | .error (x, y) => x ≠ 0 ∧ 0 ≤ i ∧ c = x ∧ a = y
def CdQ (r : Res Cd) (s : Cd) (i c a : Int) : Prop :=
 match r with
 | .ok (s', q) => s = s' ∧ i = (q : Int) ∧ c = 0 ∧ a = 0
 | .error (x, y) => x ≠ 0 ∧ 0 ≤ i ∧ c = x ∧ a = y
def CondQ (w0 w : World) (g : Nat) (T : List Tk) (e : Int) (r : Res Cd) (ed : Ending) (w' : World) : Prop :=
 ∃ (s : Cd) (i c a : Int) (v3 : Value), CdQ r s i c a ∧ ed = .returned (.agg (cdcells s v3)) ∧ Kd.V k49 49 w' w.heap.size (fun k_ => w.heap.size ≤ k_) v3 s.f2 ∧ Step w0 w g T i e c a w'
structure At (w0 W w : World) (g : Nat) (T : List Tk) (i e c a : Int) : Prop where
 i : IsR w0 w g T i e c a
 b : Below w0.heap.size w0 w
 k : KeepBut W w g none
theorem At.step {w0 W w w' : World} {g : Nat} {T : List Tk} {i e c a i' c' a' : Int} (h : At w0 W w g T i e c a) (hs : Step w0 w g T i' e c' a' w') : At w0 W w' g T i' e c' a' := ⟨hs.1, hs.2.1, h.k.trans hs.2.2 (.inl rfl)⟩
theorem At.alloc {w0 W w : World} {g : Nat} {T : List Tk} {i e c a : Int} (h : At w0 W w g T i e c a) (o : Obj) : At w0 W (w.alloc o) g T i e c a := ⟨IsS67.alloc h.i o, below_alloc h.b o, keep_alloc h.k o⟩
theorem At.drewN {w0 W w : World} {g : Nat} {T : List Tk} {i e c a : Int} (h : At w0 W w g T i e c a) (n : Nat) : At w0 W (w.drewN n) g T i e c a := ⟨IsS67.drewN h.i n, pw_below_drewN h.b n, keep_drewN h.k n⟩
theorem At.drew {w0 W w : World} {g : Nat} {T : List Tk} {i e c a : Int} (h : At w0 W w g T i e c a) : At w0 W w.drew g T i e c a := h.drewN 1
theorem At.next {w0 W w : World} {g : Nat} {T : List Tk} {p : Nat} {e c a : Int} (h : At w0 W w g T (p : Int) e c a) : At w0 W (w.setCell ⟨g, 1, none⟩ (.int .i64 ((p : Int) + 1))) g T ((p + 1 : Nat) : Int) e c a :=
 ⟨by rw [Int.natCast_add]; exact IsS67.set_1 h.i _, h.b.setCell (p := ⟨g, 1, none⟩) (IsS67.ge h.i) _, KeepBut.set_ h.k 1 _⟩
theorem At.start {w0 W : World} {g : Nat} {T : List Tk} {i e c a : Int} (h : IsR w0 W g T i e c a) (hB : Below w0.heap.size w0 W) : At w0 W W g T i e c a := ⟨h, hB, KeepBut.refl _ _ _⟩
theorem At.to {w0 W w : World} {g : Nat} {T : List Tk} {i e c a : Int} (h : At w0 W w g T i e c a) : Step w0 W g T i e c a w := ⟨h.i, h.b, h.k⟩
theorem At.setRow {w0 W w : World} {g gr : Nat} {T : List Tk} {i e c a : Int} (h : At w0 W w g T i e c a) (hg : gr ≠ g) (h0 : w0.heap.size ≤ gr) (hW : W.heap.size ≤ gr) (cs : Array Value) : At w0 W (w.setRow gr cs) g T i e c a := by
 refine ⟨?_, below_setRow h.b h0 _, ?_⟩
 ·obtain ⟨A0, c0, hb, hg', hC⟩ := h.i
  exact ⟨A0, c0, (setRow_other _ _ _ _ (Ne.symm hg)).trans hb, hg', hC⟩
 ·refine ⟨by have := h.k.1; have := (kept_setRow w gr cs).1; omega, fun k hk hne hr => ?_⟩
  exact ((kept_setRow w gr cs).2 k (by have := h.k.1; omega) (by omega)).trans (h.k.2 k hk hne hr)
theorem blk_keep {w w' : World} {g gr : Nat} {o : Obj} (h : w.heap[gr]? = some o) (hk : KeepBut w w' g none) (hne : gr ≠ g) : w'.heap[gr]? = some o := hk.blk h hne (by simp)
theorem blk_next {w : World} {g gr : Nat} {t : TypeId} {cs : Array Value} {v : Value} (h : w.heap[gr]? = some (.cells cs t (0, 0))) (hne : gr ≠ g) : (w.setCell ⟨g, 1, none⟩ v).heap[gr]? = some (.cells cs t (0, 0)) := blk_far h (p := ⟨g, 1, none⟩) hne _
theorem cond_ret {fn : Func} {w : World} {gr : Nat} {c : Cd} {v : Value} {tmps : Array Value} {p : Tmp} (h : fn.results = #[.cell p 49]) (hp : tmps.getD p undef = .pointer (some ⟨gr, 0, none⟩)) (hb : w.heap[gr]? = some (.cells (cdcells c v) 49 (0, 0))) :
  (results fn tmps).run Tryd.prog w = .ok (.agg (cdcells c v)) w := ret_row h _ _ gr 49 (cdcells c v) (0, 0) hp hb Tryd.underlying49 size_cd
end Go.Proofs.YtngedmioeodmfaaDoor.Pu
namespace Go.Proofs.YtngedmioeodmfaaDoor.Pu
open Go.RowKit Go.Proofs.YtngedmioeodmfaaDoor.Pr Go.Proofs.YtngedmioeodmfaaDoorW.PrintWords Go.Proofs.YtngedmioeodmfaaDoorW.PrintLast Go.Proofs.YtngedmioeodmfaaDoorW.PrintMore Go.Proofs.YtngedmioeodmfaaDoor.Lx
open Go.Proofs.YtngedmioeodmfaaDoor.Ps hiding Tk
def atomR (T : List Tk) (e : Int) (p : Nat) (tx : ByteArray) : Res Cd :=
 if tx = wSame ∨ tx = wTrusted ∨ tx = wCreds ∨ tx = wCors then .ok (⟨3, ⟨tx, ⟨#[]⟩⟩, []⟩, p + 1)
 else if tx = wMethod then atomT tx id (takeP T e 1 (p + 1))
 else if tx = wDest ∨ tx = wScheme ∨ tx = wHeader then atomT tx lowB (takeP T e 1 (p + 1))
 else if tx = wHost ∨ tx = wPath then atomT tx id (takeP T e 2 (p + 1))
 else .error (8, (nxt T e p).f1)
section
variable {T : List Tk} {e : Int} {p : Nat} {tx : ByteArray}
theorem atomR_word (h : tx = wSame ∨ tx = wTrusted ∨ tx = wCreds ∨ tx = wCors) : atomR T e p tx = .ok (⟨3, ⟨tx, ⟨#[]⟩⟩, []⟩, p + 1) := if_pos h
theorem atomR_method (h : tx = wMethod) : atomR T e p tx = atomT tx id (takeP T e 1 (p + 1)) := by subst h; rw [atomR, if_neg (by decide +kernel), if_pos rfl]
theorem atomR_low (h : tx = wDest ∨ tx = wScheme ∨ tx = wHeader) : atomR T e p tx = atomT tx lowB (takeP T e 1 (p + 1)) := by
 rw [atomR, if_neg (by rcases h with rfl | rfl | rfl <;> decide +kernel), if_neg (by rcases h with rfl | rfl | rfl <;> decide +kernel), if_pos h]
theorem atomR_str (h : tx = wHost ∨ tx = wPath) : atomR T e p tx = atomT tx id (takeP T e 2 (p + 1)) := by
 rw [atomR, if_neg (by rcases h with rfl | rfl <;> decide +kernel), if_neg (by rcases h with rfl | rfl <;> decide +kernel), if_neg (by rcases h with rfl | rfl <;> decide +kernel), if_pos h]
theorem atomR_none (h : ¬ tx ∈ [wSame, wTrusted, wCreds, wCors, wMethod, wDest, wScheme, wHeader, wHost, wPath]) : atomR T e p tx = .error (8, (nxt T e p).f1) := by
 simp only [List.mem_cons, List.mem_nil_iff, or_false, not_or] at h
 obtain ⟨h0, h1, h2, h3, h4, h5, h6, h7, h8, h9⟩ := h
 rw [atomR, if_neg (fun h => h.elim h0 (fun h => h.elim h1 (fun h => h.elim h2 h3))), if_neg h4, if_neg (fun h => h.elim h5 (fun h => h.elim h6 h7)), if_neg (fun h => h.elim h8 h9)]
theorem atom_plain {R : Res Cd} (h : R = .ok (⟨3, ⟨tx, ⟨#[]⟩⟩, []⟩, p + 1)) : CdQ R ⟨3, ⟨tx, ⟨#[]⟩⟩, []⟩ ((p + 1 : Nat) : Int) 0 0 := by rw [h]; exact ⟨rfl, rfl, rfl, rfl⟩
theorem atom_f {R : Res Cd} {f : ByteArray → ByteArray} {r : Res ByteArray} {t : ByteArray} {i c a : Int} (h : R = atomT tx f r) (hQ : NxQ r t i c a) : CdQ R ⟨3, ⟨tx, f t⟩, []⟩ i c a := by
 cases r with
 | ok x => obtain ⟨t', q⟩ := x; rw [h]; obtain ⟨rfl, rfl, rfl, rfl⟩ := hQ; exact ⟨rfl, rfl, rfl, rfl⟩
 | error x => obtain ⟨x, y⟩ := x; rw [h]; exact ⟨hQ.1, hQ.2.1, hQ.2.2.1, hQ.2.2.2.1⟩
theorem atom_txt {R : Res Cd} {r : Res ByteArray} {t : ByteArray} {i c a : Int} (h : R = atomT tx id r) (hQ : NxQ r t i c a) : CdQ R ⟨3, ⟨tx, t⟩, []⟩ i c a := atom_f h hQ
theorem atom_low {R : Res Cd} {r : Res ByteArray} {t : ByteArray} {i c a : Int} (h : R = atomT tx lowB r) (hQ : NxQ r t i c a) : CdQ R ⟨3, ⟨tx, lowB t⟩, []⟩ i c a := atom_f h hQ
theorem nx_size (hS : ∀ t ∈ T, t.f2.size ≤ 1000000) {k : Int} {q : Nat} {t : ByteArray} {i c a : Int} (hQ : NxQ (takeP T e k q) t i c a) : t.size ≤ 1000000 := by
 cases ht : takeP T e k q with
 | ok x =>
  obtain ⟨t', q2⟩ := x
  rw [ht] at hQ
  obtain ⟨rfl, _⟩ := hQ
  rw [takeP] at ht
  split at ht
  ·cases ht
   rw [nxt]
   split
   ·exact hS _ (List.getElem_mem _)
   ·exact Nat.zero_le _
  ·cases ht
 | error x => obtain ⟨x, y⟩ := x; rw [ht] at hQ; obtain ⟨_, _, _, _, rfl⟩ := hQ; exact Nat.zero_le _
theorem empty_no : ¬ (⟨#[]⟩ : ByteArray) ∈ [wSame, wTrusted, wCreds, wCors, wMethod, wDest, wScheme, wHeader, wHost, wPath] := by
 intro h
 simp only [List.mem_cons, List.mem_nil_iff, or_false] at h
 rcases h with h | h | h | h | h | h | h | h | h | h <;> (revert h; decide +kernel)
theorem atomP_tx (ht : isP T e [wTrue] p = false) (hf : isP T e [wFalse] p = false) (htx : tx = if (nxt T e p).f0 = 1 then (nxt T e p).f2 else ⟨#[]⟩) : atomP T e p = atomR T e p tx := by
 by_cases h1 : (nxt T e p).f0 = 1
 ·rw [if_pos h1] at htx
  have n0 : tx ≠ wTrue := by
   intro he; rw [isP, h1, ← htx, he] at ht; revert ht; decide +kernel
  have n1 : tx ≠ wFalse := by
   intro he; rw [isP, h1, ← htx, he] at hf; revert hf; decide +kernel
  have hi : isP T e atomWords p = memB tx [wSame, wTrusted, wCreds, wCors, wMethod, wDest, wScheme, wHeader, wHost, wPath] := by
   rw [isP, h1, ← htx, atomWords, memB_cons, memB_cons, decide_eq_false n0, decide_eq_false n1]; rfl
  by_cases hm : tx ∈ [wSame, wTrusted, wCreds, wCors, wMethod, wDest, wScheme, wHeader, wHost, wPath]
  ·have hb : memB tx [wSame, wTrusted, wCreds, wCors, wMethod, wDest, wScheme, wHeader, wHost, wPath] = true := by
    rw [memB, List.any_eq_true]; exact ⟨tx, hm, by simp⟩
   have htk : takeP T e 1 p = .ok (tx, p + 1) := by rw [takeP, if_pos h1, ← htx]
   rw [atomP, wordP, hi, hb, if_pos rfl, htk]
   show atomK T e tx (p + 1) = _
   rw [atomK, if_neg n0, if_neg n1, atomR]
   by_cases hw : tx = wSame ∨ tx = wTrusted ∨ tx = wCreds ∨ tx = wCors
   ·rw [if_pos hw, if_neg (by rcases hw with rfl | rfl | rfl | rfl <;> decide +kernel), if_neg (by rcases hw with rfl | rfl | rfl | rfl <;> decide +kernel), if_neg (by rcases hw with rfl | rfl | rfl | rfl <;> decide +kernel)]
   ·rw [if_neg hw]
    by_cases hm2 : tx = wMethod
    ·rw [if_pos hm2, if_pos hm2]
    ·rw [if_neg hm2, if_neg hm2]
     by_cases h3 : tx = wDest ∨ tx = wScheme ∨ tx = wHeader
     ·rw [if_pos h3, if_pos h3]
     ·rw [if_neg h3, if_neg h3]
      by_cases h4 : tx = wHost ∨ tx = wPath
      ·rw [if_pos h4, if_pos h4]
      ·exfalso
       simp only [List.mem_cons, List.mem_nil_iff, or_false] at hm
       rcases hm with h | h | h | h | h | h | h | h | h | h
       all_goals first | exact hw (.inl h) | exact hw (.inr (.inl h)) | exact hw (.inr (.inr (.inl h))) | exact hw (.inr (.inr (.inr h))) | exact hm2 h | exact h3 (.inl h) | exact h3 (.inr (.inl h)) | exact h3 (.inr (.inr h)) | exact h4 (.inl h) | exact h4 (.inr h)
  ·have hb : memB tx [wSame, wTrusted, wCreds, wCors, wMethod, wDest, wScheme, wHeader, wHost, wPath] = false := by
    rw [← Bool.not_eq_true, memB, List.any_eq_true]
    rintro ⟨x, hx, he⟩
    exact hm ((of_decide_eq_true he) ▸ hx)
   rw [atomP, wordP, hi, hb, if_neg Bool.false_ne_true, atomR_none hm]
 ·rw [if_neg h1] at htx
  have hi : isP T e atomWords p = false := by rw [isP, decide_eq_false h1]; rfl
  rw [atomP, wordP, hi, if_neg Bool.false_ne_true, atomR_none (by rw [htx]; exact empty_no)]
end
theorem At.below {w0 W w w' : World} {g : Nat} {T : List Tk} {i e c a : Int} (h : At w0 W w g T i e c a) (hb : Below w.heap.size w w') : At w0 W w' g T i e c a :=
 ⟨IsS67.below h.i hb, h.b.trans (hb.mono h.b.size), h.k.trans (KeepBut.of_below hb _ _) (.inl rfl)⟩
theorem atomP_wTrue {T : List Tk} {e : Int} {p : Nat} (h : isP T e [wTrue] p = true) : atomP T e p = .ok (cond0 1 [], p + 1) := by
 obtain ⟨h1, h2⟩ := one_word h
 rw [atomP, wordP, show isP T e atomWords p = true from by rw [isP, h1, h2]; decide +kernel, if_pos rfl, takeP, if_pos h1, h2]; rfl
theorem atomP_wFalse {T : List Tk} {e : Int} {p : Nat} (h : isP T e [wFalse] p = true) : atomP T e p = .ok (cond0 2 [], p + 1) := by
 obtain ⟨h1, h2⟩ := one_word h
 rw [atomP, wordP, show isP T e atomWords p = true from by rw [isP, h1, h2]; decide +kernel, if_pos rfl, takeP, if_pos h1, h2]; rfl
set_option maxHeartbeats 16000000
set_option maxRecDepth 100000
theorem sc_word {p_ : Prop} (h_ : p_ := by
 obtain ⟨A8, c8, hb8, _, _⟩ := HA5.out.i
 have t1 : w5.cell? ⟨g, 1, none⟩ = some (.int .i64 (p : Int)) := cellS67_1 hb8
 have f1 := blk_frozen hb8 1
 clear hb8
 go_upto_region 14 with (fail)
 obtain ⟨w6, hw6⟩ : ∃ w6, w6 = w5.setCell ⟨g, 1, none⟩ (.int .i64 ((p : Int) + 1)) := ⟨_, rfl⟩
 rw [← hw6]
 have HA6 : Aside0 (At w0 W w6 g T ((p + 1 : Nat) : Int) e 0 0) := ⟨by rw [hw6]; exact HA5.out.next⟩
 have HX6 : Aside0 (w6.heap[gr]? = some (.cells #[.int .i64 0, .string ⟨#[]⟩, .string ⟨#[]⟩, .slice none 0 0] 49 (0, 0))) := ⟨by rw [hw6]; exact blk_next HX5.out HG.out.1⟩
 clear hw6 t1 f1 HA5 HX5
 go_wp2_with (refine wpList_store_row rfl 49 _ _ rfl gr (cdcells ⟨3, ⟨tx, ⟨#[]⟩⟩, []⟩ (.slice none 0 0)) rfl rfl 49 _ HX6.out size_cd rfl (cd_one _ _ rfl) ?_)
 exact bodyPost_ret (cond_ret rfl rfl (setRow_heap _ _ _ _ _ _ HX6.out)) rfl ⟨_, _, 0, 0, _, atom_plain HR.out, rfl, Kd.V_nil _ _ _ _ _, (HA6.out.setRow HG.out.1 HG.out.2.1 HG.out.2.2 _).to⟩) : p_ := h_
theorem sc_method {p_ : Prop} (h_ : p_ := by
 obtain ⟨A8, c8, hb8, _, _⟩ := HA5.out.i
 have t1 : w5.cell? ⟨g, 1, none⟩ = some (.int .i64 (p : Int)) := cellS67_1 hb8
 have f1 := blk_frozen hb8 1
 clear hb8
 go_upto_region 17 with (fail)
 obtain ⟨w6, hw6⟩ : ∃ w6, w6 = w5.setCell ⟨g, 1, none⟩ (.int .i64 ((p : Int) + 1)) := ⟨_, rfl⟩
 rw [← hw6]
 have HA6 : Aside0 (At w0 W w6 g T ((p + 1 : Nat) : Int) e 0 0) := ⟨by rw [hw6]; exact HA5.out.next⟩
 have HX6 : Aside0 (w6.heap[gr]? = some (.cells #[.int .i64 0, .string ⟨#[]⟩, .string ⟨#[]⟩, .slice none 0 0] 49 (0, 0))) := ⟨by rw [hw6]; exact blk_next HX5.out HG.out.1⟩
 clear hw6 t1 f1 HA5 HX5
 obtain ⟨t, i7, c7, a7, hQ, hC⟩ := r_next (w0 := w0) (w := w6) (g := g) (T := T) (e := e) 1 (p + 1) (by decide) HT.out HA6.out.i HA6.out.b
 have HQ := Aside0.mk hQ
 have HC := Aside0.mk hC
 clear hQ hC
 go_wp2_with fail
 refine HC.out.mono ?_
 rintro ed w7 ⟨rfl, hs⟩
 dsimp only
 have HA7 := Aside0.mk (HA6.out.step hs)
 have HX7 : Aside0 (w7.heap[gr]? = some (.cells #[.int .i64 0, .string ⟨#[]⟩, .string ⟨#[]⟩, .slice none 0 0] 49 (0, 0))) := ⟨blk_keep HX6.out hs.2.2 HG.out.1⟩
 clear hs HC HA6 HX6
 go_wp2_with (refine wpList_store_row rfl 49 _ _ rfl gr (cdcells ⟨3, ⟨tx, t⟩, []⟩ (.slice none 0 0)) rfl rfl 49 _ HX7.out size_cd rfl (cd_one _ _ rfl) ?_)
 exact bodyPost_ret (cond_ret rfl rfl (setRow_heap _ _ _ _ _ _ HX7.out)) rfl ⟨_, i7, c7, a7, _, atom_txt HR.out HQ.out, rfl, Kd.V_nil _ _ _ _ _, (HA7.out.setRow HG.out.1 HG.out.2.1 HG.out.2.2 _).to⟩) : p_ := h_
theorem sc_low {p_ : Prop} (h_ : p_ := by
 obtain ⟨A8, c8, hb8, _, _⟩ := HA5.out.i
 have t1 : w5.cell? ⟨g, 1, none⟩ = some (.int .i64 (p : Int)) := cellS67_1 hb8
 have f1 := blk_frozen hb8 1
 clear hb8
 go_upto_region 22 with (fail)
 obtain ⟨w6, hw6⟩ : ∃ w6, w6 = w5.setCell ⟨g, 1, none⟩ (.int .i64 ((p : Int) + 1)) := ⟨_, rfl⟩
 rw [← hw6]
 have HA6 : Aside0 (At w0 W w6 g T ((p + 1 : Nat) : Int) e 0 0) := ⟨by rw [hw6]; exact HA5.out.next⟩
 have HX6 : Aside0 (w6.heap[gr]? = some (.cells #[.int .i64 0, .string ⟨#[]⟩, .string ⟨#[]⟩, .slice none 0 0] 49 (0, 0))) := ⟨by rw [hw6]; exact blk_next HX5.out HG.out.1⟩
 clear hw6 t1 f1 HA5 HX5
 obtain ⟨t, i7, c7, a7, hQ, hC⟩ := r_next (w0 := w0) (w := w6) (g := g) (T := T) (e := e) 1 (p + 1) (by decide) HT.out HA6.out.i HA6.out.b
 have HQ := Aside0.mk hQ
 have HC := Aside0.mk hC
 clear hQ hC
 go_wp2_with fail
 refine HC.out.mono ?_
 rintro ed w7 ⟨rfl, hs⟩
 dsimp only
 have HA7 := Aside0.mk (HA6.out.step hs)
 have HX7 : Aside0 (w7.heap[gr]? = some (.cells #[.int .i64 0, .string ⟨#[]⟩, .string ⟨#[]⟩, .slice none 0 0] 49 (0, 0))) := ⟨blk_keep HX6.out hs.2.2 HG.out.1⟩
 clear hs HC HA6 HX6
 have hts : t.size ≤ 1000000 := nx_size HS.out HQ.out
 obtain ⟨k1, hk1⟩ := lower_ev t hts
 have HLW := Aside0.mk (hk1 k1 (Nat.le_refl _))
 clear hk1 hts
 go_wp2_with fail
 refine (parapetref1_Lower.calls k1 t _ w7 HLW.out).mono ?_
 rintro ed w8 ⟨rfl, hb8⟩
 dsimp only
 have HA8 : Aside0 (At w0 W w8 g T i7 e c7 a7) := ⟨HA7.out.below hb8⟩
 have HX8 : Aside0 (w8.heap[gr]? = some (.cells #[.int .i64 0, .string ⟨#[]⟩, .string ⟨#[]⟩, .slice none 0 0] 49 (0, 0))) := ⟨blk_below HX7.out hb8⟩
 clear hb8 HA7 HX7
 go_wp2_with (refine wpList_store_row rfl 49 _ _ rfl gr (cdcells ⟨3, ⟨tx, lowB t⟩, []⟩ (.slice none 0 0)) rfl rfl 49 _ HX8.out size_cd rfl (cd_one _ _ rfl) ?_)
 exact bodyPost_ret (cond_ret rfl rfl (setRow_heap _ _ _ _ _ _ HX8.out)) rfl ⟨_, i7, c7, a7, _, atom_low HR.out HQ.out, rfl, Kd.V_nil _ _ _ _ _, (HA8.out.setRow HG.out.1 HG.out.2.1 HG.out.2.2 _).to⟩) : p_ := h_
theorem sc_str {p_ : Prop} (h_ : p_ := by
 obtain ⟨A8, c8, hb8, _, _⟩ := HA5.out.i
 have t1 : w5.cell? ⟨g, 1, none⟩ = some (.int .i64 (p : Int)) := cellS67_1 hb8
 have f1 := blk_frozen hb8 1
 clear hb8
 go_upto_region 26 with (fail)
 obtain ⟨w6, hw6⟩ : ∃ w6, w6 = w5.setCell ⟨g, 1, none⟩ (.int .i64 ((p : Int) + 1)) := ⟨_, rfl⟩
 rw [← hw6]
 have HA6 : Aside0 (At w0 W w6 g T ((p + 1 : Nat) : Int) e 0 0) := ⟨by rw [hw6]; exact HA5.out.next⟩
 have HX6 : Aside0 (w6.heap[gr]? = some (.cells #[.int .i64 0, .string ⟨#[]⟩, .string ⟨#[]⟩, .slice none 0 0] 49 (0, 0))) := ⟨by rw [hw6]; exact blk_next HX5.out HG.out.1⟩
 clear hw6 t1 f1 HA5 HX5
 obtain ⟨t, i7, c7, a7, hQ, hC⟩ := r_next (w0 := w0) (w := w6) (g := g) (T := T) (e := e) 2 (p + 1) (by decide) HT.out HA6.out.i HA6.out.b
 have HQ := Aside0.mk hQ
 have HC := Aside0.mk hC
 clear hQ hC
 go_wp2_with fail
 refine HC.out.mono ?_
 rintro ed w7 ⟨rfl, hs⟩
 dsimp only
 have HA7 := Aside0.mk (HA6.out.step hs)
 have HX7 : Aside0 (w7.heap[gr]? = some (.cells #[.int .i64 0, .string ⟨#[]⟩, .string ⟨#[]⟩, .slice none 0 0] 49 (0, 0))) := ⟨blk_keep HX6.out hs.2.2 HG.out.1⟩
 clear hs HC HA6 HX6
 go_wp2_with (refine wpList_store_row rfl 49 _ _ rfl gr (cdcells ⟨3, ⟨tx, t⟩, []⟩ (.slice none 0 0)) rfl rfl 49 _ HX7.out size_cd rfl (cd_one _ _ rfl) ?_)
 exact bodyPost_ret (cond_ret rfl rfl (setRow_heap _ _ _ _ _ _ HX7.out)) rfl ⟨_, i7, c7, a7, _, atom_txt HR.out HQ.out, rfl, Kd.V_nil _ _ _ _ _, (HA7.out.setRow HG.out.1 HG.out.2.1 HG.out.2.2 _).to⟩) : p_ := h_
theorem ratom_calls (w0 W : World) (g : Nat) (T : List Tk) (e : Int) (p : Nat) (h : IsR w0 W g T (p : Int) e 0 0) (hB : Below w0.heap.size w0 W) (hT : T.length ≤ 1000000) (hS : ∀ t ∈ T, t.f2.size ≤ 1000000) :
  Calls Tryd.prog 86 #[.pointer (some ⟨g, 0, none⟩)] W (CondQ w0 W g T e (atomP T e p)) := by
 have HT := Aside0.mk hT
 have HS := Aside0.mk hS
 obtain ⟨gr, hgr⟩ : ∃ gr, gr = W.heap.size := ⟨_, rfl⟩
 have HA1 : Aside0 (At w0 W (W.alloc (.cells #[.int .i64 0, .string ⟨#[]⟩, .string ⟨#[]⟩, .slice none 0 0] 49)) g T (p : Int) e 0 0) := ⟨(At.start h hB).alloc _⟩
 have HX1 : Aside0 ((W.alloc (.cells #[.int .i64 0, .string ⟨#[]⟩, .string ⟨#[]⟩, .slice none 0 0] 49)).heap[gr]? = some (.cells #[.int .i64 0, .string ⟨#[]⟩, .string ⟨#[]⟩, .slice none 0 0] 49 (0, 0))) := ⟨by rw [hgr]; exact blk_new _ _⟩
 have HG : Aside0 (gr ≠ g ∧ w0.heap.size ≤ gr ∧ W.heap.size ≤ gr) := ⟨by have := IsS67.lt h; have := hB.size; omega⟩
 obtain ⟨R, hR⟩ : ∃ R, R = atomP T e p := ⟨_, rfl⟩
 rw [← hR]
 have HR0 := Aside0.mk hR
 clear hR h hB hT hS
 go_enter Tryd.func86, Tryd.ntmps86
 go_upto_region 1 with (fail)
 obtain ⟨w1, hw1⟩ : ∃ w1, w1 = W.alloc (.cells #[.int .i64 0, .string ⟨#[]⟩, .string ⟨#[]⟩, .slice none 0 0] 49) := ⟨_, rfl⟩
 rw [← hw1] at HA1 HX1
 rw [← hw1, ← hgr]
 clear hw1 hgr
 cases hif : isP T e [wTrue] p with
 | true =>
  have HIF := Aside0.mk hif
  obtain rfl : R = .ok (cond0 1 [], p + 1) := by rw [HR0.out]; exact atomP_wTrue HIF.out
  clear hif
  go_wp2_with fail
  refine (r_take1 (T := T) (e := e) wTrue p HT.out HA1.out.i HA1.out.b HIF.out).mono ?_
  rintro ed w3 ⟨rfl, hs⟩
  dsimp only
  have HA3 := Aside0.mk (HA1.out.step hs)
  have HX3 : Aside0 (w3.heap[gr]? = some (.cells #[.int .i64 0, .string ⟨#[]⟩, .string ⟨#[]⟩, .slice none 0 0] 49 (0, 0))) := ⟨blk_keep HX1.out hs.2.2 HG.out.1⟩
  clear hs
  go_wp2_with (refine wpList_store_row rfl 49 _ _ rfl gr (cdcells (cond0 1 []) (.slice none 0 0)) rfl rfl 49 _ HX3.out size_cd rfl (cd_one _ _ rfl) ?_)
  exact bodyPost_ret (cond_ret rfl rfl (setRow_heap _ _ _ _ _ _ HX3.out)) rfl ⟨_, _, 0, 0, _, ⟨rfl, rfl, rfl, rfl⟩, rfl, Kd.V_nil _ _ _ _ _, (HA3.out.setRow HG.out.1 HG.out.2.1 HG.out.2.2 _).to⟩
 | false =>
  have HI3 := Aside0.mk hif
  clear hif
  go_wp2_with fail
  refine (r_take0 (T := T) (e := e) wTrue p HT.out HA1.out.i HA1.out.b HI3.out).mono ?_
  rintro ed w3 ⟨rfl, hs⟩
  dsimp only
  have HA3 := Aside0.mk (HA1.out.step hs)
  have HX3 : Aside0 (w3.heap[gr]? = some (.cells #[.int .i64 0, .string ⟨#[]⟩, .string ⟨#[]⟩, .slice none 0 0] 49 (0, 0))) := ⟨blk_keep HX1.out hs.2.2 HG.out.1⟩
  clear hs HA1 HX1
  cases hif : isP T e [wFalse] p with
  | true =>
   have HIF := Aside0.mk hif
   obtain rfl : R = .ok (cond0 2 [], p + 1) := by rw [HR0.out]; exact atomP_wFalse HIF.out
   clear hif
   go_wp2_with fail
   refine (r_take1 (T := T) (e := e) wFalse p HT.out HA3.out.i HA3.out.b HIF.out).mono ?_
   rintro ed w3 ⟨rfl, hs⟩
   dsimp only
   have HA3 := Aside0.mk (HA3.out.step hs)
   have HX3 : Aside0 (w3.heap[gr]? = some (.cells #[.int .i64 0, .string ⟨#[]⟩, .string ⟨#[]⟩, .slice none 0 0] 49 (0, 0))) := ⟨blk_keep HX3.out hs.2.2 HG.out.1⟩
   clear hs
   go_wp2_with (refine wpList_store_row rfl 49 _ _ rfl gr (cdcells (cond0 2 []) (.slice none 0 0)) rfl rfl 49 _ HX3.out size_cd rfl (cd_one _ _ rfl) ?_)
   exact bodyPost_ret (cond_ret rfl rfl (setRow_heap _ _ _ _ _ _ HX3.out)) rfl ⟨_, _, 0, 0, _, ⟨rfl, rfl, rfl, rfl⟩, rfl, Kd.V_nil _ _ _ _ _, (HA3.out.setRow HG.out.1 HG.out.2.1 HG.out.2.2 _).to⟩
  | false =>
   have HI2 := Aside0.mk hif
   clear hif
   go_wp2_with fail
   refine (r_take0 (T := T) (e := e) wFalse p HT.out HA3.out.i HA3.out.b HI2.out).mono ?_
   rintro ed w2 ⟨rfl, hs⟩
   dsimp only
   have HA2 := Aside0.mk (HA3.out.step hs)
   have HX2 : Aside0 (w2.heap[gr]? = some (.cells #[.int .i64 0, .string ⟨#[]⟩, .string ⟨#[]⟩, .slice none 0 0] 49 (0, 0))) := ⟨blk_keep HX3.out hs.2.2 HG.out.1⟩
   clear hs HA3 HX3
   obtain ⟨tk, htk⟩ : ∃ tk, tk = nxt T e p := ⟨_, rfl⟩
   have h4 := r_kind (T := T) (e := e) p HA2.out.i HA2.out.b
   rw [← htk] at h4
   have HRX : Aside0 (∀ tx, tx = (if tk.f0 = 1 then tk.f2 else ⟨#[]⟩) → R = atomR T e p tx) := ⟨fun tx hx => by rw [HR0.out]; exact atomP_tx HI3.out HI2.out (by rw [← htk]; exact hx)⟩
   obtain ⟨k0, p0, wd⟩ := tk
   dsimp only at h4
   have H4 := Aside0.mk h4
   have HTK := Aside0.mk htk
   clear h4 htk
   go_wp2_with fail
   refine H4.out.mono ?_
   rintro ed w4 ⟨rfl, hs⟩
   dsimp only
   have HA4 := Aside0.mk (HA2.out.step hs)
   have HX4 : Aside0 (w4.heap[gr]? = some (.cells #[.int .i64 0, .string ⟨#[]⟩, .string ⟨#[]⟩, .slice none 0 0] 49 (0, 0))) := ⟨blk_keep HX2.out hs.2.2 HG.out.1⟩
   clear hs HA2 HX2 H4
   by_cases hk0 : k0 = 1
   ·have l6 : (k0 == (1 : Int)) = true := by simp [hk0]
    have HPT : Aside0 (p < T.length) := ⟨by
     apply Classical.byContradiction; intro hn
     have h2 := HTK.out
     rw [nxt, dif_neg hn] at h2
     have h3 : k0 = 0 := congrArg (fun t : Tk => t.f0) h2
     rw [h3] at hk0
     exact absurd hk0 (by decide)⟩
    have HRT : Aside0 (R = atomR T e p wd) := ⟨HRX.out wd (by rw [if_pos hk0])⟩
    obtain ⟨n0, hn0⟩ : ∃ n0, n0 = T.length := ⟨_, rfl⟩
    obtain ⟨A6, c6, hb6, _, hC6⟩ := HA4.out.i
    obtain ⟨ad, hA1, _, _, q2⟩ := at_T40 hC6 (p : Int) (by omega) (by have := HPT.out; omega)
    have hA2 : A6 = some ad := hA1
    subst hA2
    change _ = some (Value.string (rtok T (p : Int)).f2) at q2
    rw [rtok_nxt (e := e) HPT.out, ← HTK.out] at q2
    dsimp only at q2
    simp only [Int.toNat_natCast] at q2
    replace q2 := (HA4.out.b.cell (World.block_lt_of_cell? w0 _ q2)).trans q2
    have hbl := World.block_lt_of_cell? w4 _ q2
    have t0 : w4.cell? ⟨g, 0, none⟩ = some (.slice (some ad) n0 c6) := by rw [hn0]; exact cellS67_0 hb6
    have t1 : w4.cell? ⟨g, 1, none⟩ = some (.int .i64 (p : Int)) := cellS67_1 hb6
    have hlt2 : (p : Int) < (n0 : Int) := by have := HPT.out; omega
    clear hb6 hC6 hA1 hn0 hk0 HRX HR0
    go_wp2
    go_quiet (fail)
    obtain ⟨w5, hw5⟩ : ∃ w5, w5 = w4.drewN nq := ⟨_, rfl⟩
    rw [← hw5]
    have HA5 : Aside0 (At w0 W w5 g T (p : Int) e 0 0) := ⟨by rw [hw5]; exact HA4.out.drewN _⟩
    have HX5 : Aside0 (w5.heap[gr]? = some (.cells #[.int .i64 0, .string ⟨#[]⟩, .string ⟨#[]⟩, .slice none 0 0] 49 (0, 0))) := ⟨by rw [hw5]; exact HX4.out⟩
    have hjb : (p : Int) ≤ 1000000 := by have := HT.out; have := HPT.out; omega
    clear hw5 q2 hbl t0 t1 HA4 HX4 hlt2 l6
    obtain ⟨tx, htx⟩ : ∃ tx, tx = wd := ⟨_, rfl⟩
    rw [← htx] at HRT ⊢
    clear htx HTK
    by_cases h0 : tx = wSame
    ·have t0 : (tx.toList == [115, 97, 109, 101, 45, 111, 114, 105, 103, 105, 110]) = true := (eq_word (w := tx) (a := wSame) (by decide +kernel)).trans (decide_eq_true h0)
     have HR : Aside0 (R = .ok (⟨3, ⟨tx, ⟨#[]⟩⟩, []⟩, p + 1)) := ⟨by rw [HRT.out]; exact atomR_word (.inl h0)⟩
     clear h0 HRT
     exact sc_word
    ·have t0 : (tx.toList == [115, 97, 109, 101, 45, 111, 114, 105, 103, 105, 110]) = false := (eq_word (w := tx) (a := wSame) (by decide +kernel)).trans (decide_eq_false h0)
     by_cases h1 : tx = wTrusted
     ·have t1 : (tx.toList == [116, 114, 117, 115, 116, 101, 100]) = true := (eq_word (w := tx) (a := wTrusted) (by decide +kernel)).trans (decide_eq_true h1)
      have HR : Aside0 (R = .ok (⟨3, ⟨tx, ⟨#[]⟩⟩, []⟩, p + 1)) := ⟨by rw [HRT.out]; exact atomR_word (.inr (.inl h1))⟩
      clear h1 HRT
      exact sc_word
     ·have t1 : (tx.toList == [116, 114, 117, 115, 116, 101, 100]) = false := (eq_word (w := tx) (a := wTrusted) (by decide +kernel)).trans (decide_eq_false h1)
      by_cases h2 : tx = wCreds
      ·have t2 : (tx.toList == [99, 114, 101, 100, 115]) = true := (eq_word (w := tx) (a := wCreds) (by decide +kernel)).trans (decide_eq_true h2)
       have HR : Aside0 (R = .ok (⟨3, ⟨tx, ⟨#[]⟩⟩, []⟩, p + 1)) := ⟨by rw [HRT.out]; exact atomR_word (.inr (.inr (.inl h2)))⟩
       clear h2 HRT
       exact sc_word
      ·have t2 : (tx.toList == [99, 114, 101, 100, 115]) = false := (eq_word (w := tx) (a := wCreds) (by decide +kernel)).trans (decide_eq_false h2)
       by_cases h3 : tx = wCors
       ·have t3 : (tx.toList == [99, 111, 114, 115]) = true := (eq_word (w := tx) (a := wCors) (by decide +kernel)).trans (decide_eq_true h3)
        have HR : Aside0 (R = .ok (⟨3, ⟨tx, ⟨#[]⟩⟩, []⟩, p + 1)) := ⟨by rw [HRT.out]; exact atomR_word (.inr (.inr (.inr h3)))⟩
        clear h3 HRT
        exact sc_word
       ·have t3 : (tx.toList == [99, 111, 114, 115]) = false := (eq_word (w := tx) (a := wCors) (by decide +kernel)).trans (decide_eq_false h3)
        by_cases h4 : tx = wMethod
        ·have t4 : (tx.toList == [109, 101, 116, 104, 111, 100]) = true := (eq_word (w := tx) (a := wMethod) (by decide +kernel)).trans (decide_eq_true h4)
         have HR : Aside0 (R = atomT tx id (takeP T e 1 (p + 1))) := ⟨by rw [HRT.out]; exact atomR_method h4⟩
         clear h4 HRT
         exact sc_method
        ·have t4 : (tx.toList == [109, 101, 116, 104, 111, 100]) = false := (eq_word (w := tx) (a := wMethod) (by decide +kernel)).trans (decide_eq_false h4)
         by_cases h5 : tx = wDest
         ·have t5 : (tx.toList == [100, 101, 115, 116]) = true := (eq_word (w := tx) (a := wDest) (by decide +kernel)).trans (decide_eq_true h5)
          have HR : Aside0 (R = atomT tx lowB (takeP T e 1 (p + 1))) := ⟨by rw [HRT.out]; exact atomR_low (.inl h5)⟩
          clear h5 HRT
          exact sc_low
         ·have t5 : (tx.toList == [100, 101, 115, 116]) = false := (eq_word (w := tx) (a := wDest) (by decide +kernel)).trans (decide_eq_false h5)
          by_cases h6 : tx = wScheme
          ·have t6 : (tx.toList == [115, 99, 104, 101, 109, 101]) = true := (eq_word (w := tx) (a := wScheme) (by decide +kernel)).trans (decide_eq_true h6)
           have HR : Aside0 (R = atomT tx lowB (takeP T e 1 (p + 1))) := ⟨by rw [HRT.out]; exact atomR_low (.inr (.inl h6))⟩
           clear h6 HRT
           exact sc_low
          ·have t6 : (tx.toList == [115, 99, 104, 101, 109, 101]) = false := (eq_word (w := tx) (a := wScheme) (by decide +kernel)).trans (decide_eq_false h6)
           by_cases h7 : tx = wHeader
           ·have t7 : (tx.toList == [104, 101, 97, 100, 101, 114]) = true := (eq_word (w := tx) (a := wHeader) (by decide +kernel)).trans (decide_eq_true h7)
            have HR : Aside0 (R = atomT tx lowB (takeP T e 1 (p + 1))) := ⟨by rw [HRT.out]; exact atomR_low (.inr (.inr h7))⟩
            clear h7 HRT
            exact sc_low
           ·have t7 : (tx.toList == [104, 101, 97, 100, 101, 114]) = false := (eq_word (w := tx) (a := wHeader) (by decide +kernel)).trans (decide_eq_false h7)
            by_cases h8 : tx = wHost
            ·have t8 : (tx.toList == [104, 111, 115, 116]) = true := (eq_word (w := tx) (a := wHost) (by decide +kernel)).trans (decide_eq_true h8)
             have HR : Aside0 (R = atomT tx id (takeP T e 2 (p + 1))) := ⟨by rw [HRT.out]; exact atomR_str (.inl h8)⟩
             clear h8 HRT
             exact sc_str
            ·have t8 : (tx.toList == [104, 111, 115, 116]) = false := (eq_word (w := tx) (a := wHost) (by decide +kernel)).trans (decide_eq_false h8)
             by_cases h9 : tx = wPath
             ·have t9 : (tx.toList == [112, 97, 116, 104]) = true := (eq_word (w := tx) (a := wPath) (by decide +kernel)).trans (decide_eq_true h9)
              have HR : Aside0 (R = atomT tx id (takeP T e 2 (p + 1))) := ⟨by rw [HRT.out]; exact atomR_str (.inr h9)⟩
              clear h9 HRT
              exact sc_str
             ·have t9 : (tx.toList == [112, 97, 116, 104]) = false := (eq_word (w := tx) (a := wPath) (by decide +kernel)).trans (decide_eq_false h9)
              have HR : Aside0 (R = .error (8, (nxt T e p).f1)) := ⟨by rw [HRT.out, atomR_none (by simp only [List.mem_cons, List.mem_nil_iff, or_false, not_or]; exact ⟨h0, h1, h2, h3, h4, h5, h6, h7, h8, h9⟩)]⟩
              go_wp2_with fail
              refine (r_wrong (T := T) (e := e) p 8 HA5.out.i HA5.out.b).mono ?_
              rintro ed w6 ⟨rfl, hs⟩
              dsimp only
              have HA6 := Aside0.mk (HA5.out.step hs)
              have HX6 : Aside0 (w6.heap[gr]? = some (.cells #[.int .i64 0, .string ⟨#[]⟩, .string ⟨#[]⟩, .slice none 0 0] 49 (0, 0))) := ⟨blk_keep HX5.out hs.2.2 HG.out.1⟩
              clear hs HA5 HX5
              go_wp2_with (refine wpList_store_row rfl 49 _ _ rfl gr (cdcells ⟨0, ⟨⟨#[]⟩, ⟨#[]⟩⟩, []⟩ (.slice none 0 0)) rfl rfl 49 _ HX6.out size_cd rfl (cd_one _ _ rfl) ?_)
              exact sTe8_4
   ·have l6 : (k0 == (1 : Int)) = false := by simp [hk0]
    have HRT : Aside0 (R = atomR T e p ⟨#[]⟩) := ⟨HRX.out ⟨#[]⟩ (by rw [if_neg hk0])⟩
    have HR : Aside0 (R = .error (8, (nxt T e p).f1)) := ⟨by rw [HRT.out, atomR_none empty_no]⟩
    clear hk0 HRX HR0
    go_wp2_with fail
    refine (r_wrong (T := T) (e := e) p 8 HA4.out.i HA4.out.b).mono ?_
    rintro ed w6 ⟨rfl, hs⟩
    dsimp only
    have HA6 := Aside0.mk (HA4.out.step hs)
    have HX6 : Aside0 (w6.heap[gr]? = some (.cells #[.int .i64 0, .string ⟨#[]⟩, .string ⟨#[]⟩, .slice none 0 0] 49 (0, 0))) := ⟨blk_keep HX4.out hs.2.2 HG.out.1⟩
    clear hs HA4 HX4
    go_wp2_with (refine wpList_store_row rfl 49 _ _ rfl gr (cdcells ⟨0, ⟨⟨#[]⟩, ⟨#[]⟩⟩, []⟩ (.slice none 0 0)) rfl rfl 49 _ HX6.out size_cd rfl (cd_one _ _ rfl) ?_)
    exact sTe8_4
end Go.Proofs.YtngedmioeodmfaaDoor.Pu
