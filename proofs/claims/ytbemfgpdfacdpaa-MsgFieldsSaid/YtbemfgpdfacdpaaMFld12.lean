/- 5 texts of the proof, put together, less what is not used; what a tool printed stands among them. -/
import Derived.Test.YtbemfgpdfacdpaaMFld11
namespace Go.Proofs.Ytbemfgpdfacdpaa.Ms
open Go.RowKit Go.Proofs.Ytbemfgpdfacdpaa.Pr Go.Proofs.YtbemfgpdfacdpaaW.PrintWords Go.Proofs.YtbemfgpdfacdpaaW.PrintLast Go.Proofs.YtbemfgpdfacdpaaW.PrintMore
open Go.Proofs.Ytbemfgpdfacdpaa.QT (OwnAt)
set_option linter.unusedVariables false
set_option linter.unusedSimpArgs false
def enc2.T2 : Bool × List (List Nat × List Nat) := (true, [([], []), ([0], [0]), ([1], [1]), ([2, 1, 1], [1, 2]), ([1], [1]), ([3, 4, 3, 1], [1, 3, 4]), ([5, 1], [1, 5]), ([1, 6], [1, 6])])
def enc2.B2 : List Nat := [0, 1, 3, 7, 3, 31, 63, 127]
theorem enc2.tab2 : rtab .any (opsOf Try.f11 2) = enc2.T2 := by kernel_rfl
theorem enc2.bits2 : waitsOk enc2.T2.2 enc2.B2 = true := by kernel_rfl
set_option maxHeartbeats 16000000 in
set_option maxRecDepth 100000 in
theorem refenc_head (kd fr tt tm ix lt cm : Int) (ys : Bool) (es : List S46) (si st : Int) (sm : List Int) (sd : ByteArray) (A8 : Option Addr) (n8 c8 : Nat) (A11 : Option Addr) (n11 c11 : Nat) (w : World) (l0 : decide (kd < 1) = false) (l1 : decide (5 < kd) = false) (l2 : decide (fr < 1) = false) (l3 : decide (9 < fr) = false) (l4 : decide (tt < 1) = false) (l5 : decide (9 < tt) = false) (l6 : decide (tm < 0) = false) (l7 : decide (ix < 0) = false) (l8 : decide (lt < 0) = false) (l9 : decide (cm < 0) = false) (l10 : decide ((8 : Int) < (n8 : Int)) = false) (l11 : decide ((9 : Int) < (n11 : Int)) = false) (l12 : decide ((65536 : Int) < (sd.size : Int)) = false) (l13 : decide (si < 0) = false) (l14 : decide (st < 0) = false)
    (hE : k46.C w A8 es.length es) (hE1 : n8 = es.length) (hE2 : n8 ≤ c8) (hS : (Kd.int .i64).C w A11 sm.length sm) (hS1 : n11 = sm.length) (hS2 : n11 ≤ c11) (h9 : ∀ e ∈ es, e.f4.length ≤ 20000)
    (hT : sameO ⟨kd, fr, tt, tm, ix, lt, cm, ys, es, si, st, sm, sd⟩ = true → ∀ (g : Nat) (w1 : World), g = w.heap.size → w1.heap[g]? = some (.cells (mcells ⟨kd, fr, tt, tm, ix, lt, cm, ys, es, si, st, sm, sd⟩ (.slice A8 n8 c8) (.slice A11 n11 c11)) 27 (0, 0)) → Below w.heap.size w w1 → ∀ ts : Array Value, (∃ c0 c4 c5 c6 c7 c8 c9 c10 c11 c12 c13 c14 c15 c16 c17 c18 c19 c20 c21 c22 c23 c24 c25 c26 c27 c28 c29 c30 c31 c32 c33 c34 c35 c36 c37 c38 c39 c40 c41 c42 c43 c44 c45 c46 c47 c48 c49 c50 c51 c52 c53 c54 c55 c56 c57 c58 c59 c60 c61 c62 c63 c64 c65 c66 c67 c68 c69 c70 c71 c72 c73 c74 c75 c76 c77 c78 c79 c80 c81 c82 c83 c84 c85 c86 c87 c88 c89 c90 c91 c92 c93 c94 c95 c96 c97 c98 c99 c100 c101 c102 c103 c104 c105 c106 c107 c108 c109 c110 c111 c112 c113 c114 c115 c116 c117 c118 c119 c120 c121 c122 c123 c124 c125 c126 c127 c128 c129 c130 c131 c132 c133 c134 c135 c136 c137 c138 c139 c140 c141 c142 c143 c144 c145 c146 c147 c148 c149 c150 c151 c152 c153 c154 c155 c156 c157 c158 c159 c160 c161 c162 c163 c164 c165 c166 c167 c168 c169 c170 c171 c172 c173 c174 c175 c176 c177 c178 c179 c180 c181 c182 c183 c184 c185 c186 c187 c188 c189 c190 c191 c192 c193 c194 c195 c196 c197 c198 c199 c200 c201 c202 c203 c204 c205 c206 c207 c208 c209 c210 c211 c212 c213 c214 c215 c216 c217 c218 c219 c220 c221 c222 c223 c224 c225 c226 c227 c228 c229 c230 c231 c232 c233 c234 c235 c236 c237 c238 c239 c240 c241 c242 c243 c244 c245 c246 c247 c248 c249 c250 c251 c252 c253, ts = #[c0, .pointer (some ⟨g, 0, none⟩), .slice none 0 0, .int .i64 0, c4, c5, c6, c7, c8, c9, c10, c11, c12, c13, c14, c15, c16, c17, c18, c19, c20, c21, c22, c23, c24, c25, c26, c27, c28, c29, c30, c31, c32, c33, c34, c35, c36, c37, c38, c39, c40, c41, c42, c43, c44, c45, c46, c47, c48, c49, c50, c51, c52, c53, c54, c55, c56, c57, c58, c59, c60, c61, c62, c63, c64, c65, c66, c67, c68, c69, c70, c71, c72, c73, c74, c75, c76, c77, c78, c79, c80, c81, c82, c83, c84, c85, c86, c87, c88, c89, c90, c91, c92, c93, c94, c95, c96, c97, c98, c99, c100, c101, c102, c103, c104, c105, c106, c107, c108, c109, c110, c111, c112, c113, c114, c115, c116, c117, c118, c119, c120, c121, c122, c123, c124, c125, c126, c127, c128, c129, c130, c131, c132, c133, c134, c135, c136, c137, c138, c139, c140, c141, c142, c143, c144, c145, c146, c147, c148, c149, c150, c151, c152, c153, c154, c155, c156, c157, c158, c159, c160, c161, c162, c163, c164, c165, c166, c167, c168, c169, c170, c171, c172, c173, c174, c175, c176, c177, c178, c179, c180, c181, c182, c183, c184, c185, c186, c187, c188, c189, c190, c191, c192, c193, c194, c195, c196, c197, c198, c199, c200, c201, c202, c203, c204, c205, c206, c207, c208, c209, c210, c211, c212, c213, c214, c215, c216, c217, c218, c219, c220, c221, c222, c223, c224, c225, c226, c227, c228, c229, c230, c231, c232, c233, c234, c235, c236, c237, c238, c239, c240, c241, c242, c243, c244, c245, c246, c247, c248, c249, c250, c251, c252, c253]) →
      Code.wp Try.prog (encT 3) (bodyPost Try.prog Try.f11 (EncQ w (refE ⟨kd, fr, tt, tm, ix, lt, cm, ys, es, si, st, sm, sd⟩))) ⟨ts, []⟩ w1) :
    Calls Try.prog 11 #[.agg (mcells ⟨kd, fr, tt, tm, ix, lt, cm, ys, es, si, st, sm, sd⟩ (.slice A8 n8 c8) (.slice A11 n11 c11))] w (EncQ w (refE ⟨kd, fr, tt, tm, ix, lt, cm, ys, es, si, st, sm, sd⟩)) := by
  have HT := Aside0.mk hT
  have HE : Aside0 (∀ u, Below w.heap.size w u → Calls Try.prog 15 #[.agg (mcells (onlyM ⟨kd, fr, tt, tm, ix, lt, cm, ys, es, si, st, sm, sd⟩) (if kd = 3 then .slice A8 n8 c8 else .slice none 0 0) (if kd = 5 then .slice A11 n11 c11 else .slice none 0 0)), .agg (mcells ⟨kd, fr, tt, tm, ix, lt, cm, ys, es, si, st, sm, sd⟩ (.slice A8 n8 c8) (.slice A11 n11 c11))] u fun e w' => e = .returned (.bool (sameO ⟨kd, fr, tt, tm, ix, lt, cm, ys, es, si, st, sm, sd⟩)) ∧ Below u.heap.size u w') := ⟨fun u hu =>
    refsame_calls ⟨kd, fr, tt, tm, ix, lt, cm, ys, es, si, st, sm, sd⟩ A8 n8 c8 A11 n11 c11 u (Kd.C_below hE hu) hE1 hE2 (Kd.C_below hS hu) hS1 hS2 (by have := of_decide_eq_false l10; show es.length ≤ 20; omega) h9 (by have := of_decide_eq_false l11; show sm.length ≤ 20; omega)⟩
  have HO : Aside0 (∀ u, Calls Try.prog 24 #[.agg (mcells ⟨kd, fr, tt, tm, ix, lt, cm, ys, es, si, st, sm, sd⟩ (.slice A8 n8 c8) (.slice A11 n11 c11))] u fun e w' => e = .returned (.agg (mcells (onlyM ⟨kd, fr, tt, tm, ix, lt, cm, ys, es, si, st, sm, sd⟩) (if kd = 3 then .slice A8 n8 c8 else .slice none 0 0) (if kd = 5 then .slice A11 n11 c11 else .slice none 0 0))) ∧ Below u.heap.size u w') := ⟨fun u => only_calls ⟨kd, fr, tt, tm, ix, lt, cm, ys, es, si, st, sm, sd⟩ A8 n8 c8 A11 n11 c11 u⟩
  have HNB : Aside0 (sameO ⟨kd, fr, tt, tm, ix, lt, cm, ys, es, si, st, sm, sd⟩ = false → refE ⟨kd, fr, tt, tm, ix, lt, cm, ys, es, si, st, sm, sd⟩ = none) := ⟨fun h => by rw [refE, if_pos (.inr (.inl (by classical exact of_decide_eq_false h)))]⟩
  clear hT hE hE1 hE2 hS hS1 hS2 h9
  unfold mcells
  go_enter Try.func11, Try.ntmps11
  obtain ⟨R, hR⟩ : ∃ R, R = refE ⟨kd, fr, tt, tm, ix, lt, cm, ys, es, si, st, sm, sd⟩ := ⟨_, rfl⟩
  rw [← hR] at HT HNB ⊢
  clear hR
  go_upto_region 2 with (fail)
  rename_i K1 hK1 K2 hK2
  have HK1 := Aside0.mk hK1
  clear hK1
  obtain ⟨w1, hw1⟩ : ∃ w1, w1 = w.alloc (.cells (mcells ⟨kd, fr, tt, tm, ix, lt, cm, ys, es, si, st, sm, sd⟩ (.slice A8 n8 c8) (.slice A11 n11 c11)) 27) := ⟨_, rfl⟩
  change Code.wp _ _ _ _ (w.alloc (.cells (mcells ⟨kd, fr, tt, tm, ix, lt, cm, ys, es, si, st, sm, sd⟩ (.slice A8 n8 c8) (.slice A11 n11 c11)) 27))
  rw [← hw1]
  obtain ⟨g, hg⟩ : ∃ g, g = w.heap.size := ⟨_, rfl⟩
  rw [← hg]
  have HX : Aside0 (w1.heap[g]? = some (.cells (mcells ⟨kd, fr, tt, tm, ix, lt, cm, ys, es, si, st, sm, sd⟩ (.slice A8 n8 c8) (.slice A11 n11 c11)) 27 (0, 0))) := ⟨by rw [hw1, hg]; exact blk_new _ _⟩
  have HW : Aside0 (Below w.heap.size w w1) := ⟨by rw [hw1]; exact below_alloc (Below.refl _ _) _⟩
  have HG := Aside0.mk hg
  clear hg hw1
  obtain ⟨MC, hMC⟩ : ∃ MC, MC = (mcells ⟨kd, fr, tt, tm, ix, lt, cm, ys, es, si, st, sm, sd⟩ (.slice A8 n8 c8) (.slice A11 n11 c11)) := ⟨_, rfl⟩
  obtain ⟨MO, hMO⟩ : ∃ MO, MO = mcells (onlyM ⟨kd, fr, tt, tm, ix, lt, cm, ys, es, si, st, sm, sd⟩) (if kd = 3 then .slice A8 n8 c8 else .slice none 0 0) (if kd = 5 then .slice A11 n11 c11 else .slice none 0 0) := ⟨_, rfl⟩
  have HSZ : Aside0 (MC.size = 13) := ⟨by rw [hMC]; rfl⟩
  rw [← hMC] at HE HO HX HT
  rw [← hMO] at HE HO
  clear hMC hMO
  obtain ⟨b, hb⟩ : ∃ b, b = sameO ⟨kd, fr, tt, tm, ix, lt, cm, ys, es, si, st, sm, sd⟩ := ⟨_, rfl⟩
  rw [← hb] at HE HT HNB
  clear hb
  clear l0 l1 l2 l3 l4 l5 l6 l7 l8 l9 l10 l11 l12 l13 l14
  cases b
  case false =>
    refine start_ (n := 8) (S := fun w' => True) (ds := []) #[false, false, false, false, false, false, false, false] (by kernel_rfl) rfl rfl trivial (fun hHeld => ?_)
    refine with_tabW enc2.tab2 enc2.bits2 (fun HT_ HW_ => ?_)
    have F : Aside0 (Below w1.heap.size w1 w1.drew) := ⟨below_drew (Below.refl _ _)⟩
    refine inv_at [0, 1, 2, 3, 4, 5, 6, 7] (fun a0_ b a w' => a = putSel a0_ b [(0, 91, .bool false), (1, 92, .bool false), (2, 93, .agg MC), (3, 94, .agg MO), (4, 95, .agg MC), (5, 96, .bool false), (6, 97, .bool true), (7, 98, .bool true)] ∧ (Below w1.heap.size w1 w')) HT_.out HW_.out (by kernel_rfl) (by kernel_rfl) ?_ ?_ ?_
    · exact ⟨by simp only [putSel, Bool.false_eq_true, if_false], F.out⟩
    · skip
      clear F
      refine steps_cons ?_ ?_
      · rintro b a w' ⟨ha, Q_F⟩ hb_ hon hoff
        refine ⟨_, rfl, fun K hK => ?_⟩
        have e4 : a.tmps[4]? = some (.bool false) := by rw [ha]; exact (putSel_off rfl).trans rfl
        replace ha := Aside0.mk ha
        have F := Aside0.mk Q_F
        refine value_ (w1 := w') (v := .bool false) (by rfl) rfl ?_ ?_
        · go_simp
          (try simp only [i64_w])
          try rfl
        refine hK.out _ _ ⟨(by rw [ha.out]; exact putSel_upk 0 hb_ rfl rfl rfl), Q_F⟩
      refine steps_cons ?_ ?_
      · rintro b a w' ⟨ha, Q_F⟩ hb_ hon hoff
        refine ⟨_, rfl, fun K hK => ?_⟩
        have e91 : a.tmps[91]? = some (.bool false) := by rw [ha]; exact putSel_on (e := (0, 91, .bool false)) 0 rfl rfl (hon 0 (by kernel_rfl)) rfl
        replace ha := Aside0.mk ha
        have F := Aside0.mk Q_F
        refine value_ (w1 := w') (v := .bool false) (by rfl) rfl ?_ ?_
        · go_simp
          (try simp only [i64_w])
          try rfl
        refine hK.out _ _ ⟨(by rw [ha.out]; exact putSel_upk 1 hb_ rfl rfl rfl), Q_F⟩
      refine steps_cons ?_ ?_
      · rintro b a w' ⟨ha, Q_F⟩ hb_ hon hoff
        refine ⟨_, rfl, fun K hK => ?_⟩
        have e1 : a.tmps[1]? = some (.pointer (some ⟨g, 0, none⟩)) := by rw [ha]; exact (putSel_off rfl).trans rfl
        have e92 : a.tmps[92]? = some (.bool false) := by rw [ha]; exact putSel_on (e := (1, 92, .bool false)) 1 rfl rfl (hon 1 (by kernel_rfl)) rfl
        replace ha := Aside0.mk ha
        have F := Aside0.mk Q_F
        refine loadRow_ (N := some 93) (wanted_on rfl rfl rfl (e92.trans (by first | rfl | (simp [*]; done)))) rfl 27 _ rfl g (eval_of e1) 27 MC (0, 0) _ (blk_below HX.out F.out) Try.underlying27 rfl (by rw [HSZ.out]; exact size_msg) ?_
        refine hK.out _ _ ⟨(by rw [ha.out]; exact putSel_upk 2 hb_ rfl rfl rfl), F.out⟩
      refine steps_cons ?_ ?_
      · rintro b a w' ⟨ha, Q_F⟩ hb_ hon hoff
        refine ⟨_, rfl, fun K hK => ?_⟩
        have e93 : a.tmps[93]? = some (.agg MC) := by rw [ha]; exact putSel_on (e := (2, 93, .agg MC)) 2 rfl rfl (hon 2 (by kernel_rfl)) rfl
        have e92 : a.tmps[92]? = some (.bool false) := by rw [ha]; exact putSel_on (e := (1, 92, .bool false)) 1 rfl rfl (hon 1 (by kernel_rfl)) rfl
        replace ha := Aside0.mk ha
        have F := Aside0.mk Q_F
        refine goes_ (N := some 94) Try.func24 (by kernel_rfl) rfl #[.agg MC] (wanted_on rfl rfl rfl (e92.trans (by first | rfl | (simp [*]; done)))) rfl rfl (by first | (simp only [List.map_toArray, List.map_cons, List.map_nil, Act.eval, Array.getD_eq_getD_getElem?, Option.getD_some, e93, e92]; done) | (simp only [List.map_toArray, List.map_cons, List.map_nil, Act.eval, Array.getD_eq_getD_getElem?, Option.getD_some, e93, e92]; rfl)) ?_
        refine (HO.out w').mono ?_
        rintro e w1 ⟨rfl, hb⟩
        refine ⟨_, rfl, ?_⟩
        refine hK.out _ _ ⟨(by rw [ha.out]; exact putSel_upk 3 hb_ rfl rfl rfl), F.out.trans (hb.mono F.out.size)⟩
      refine steps_cons ?_ ?_
      · rintro b a w' ⟨ha, Q_F⟩ hb_ hon hoff
        refine ⟨_, rfl, fun K hK => ?_⟩
        have e1 : a.tmps[1]? = some (.pointer (some ⟨g, 0, none⟩)) := by rw [ha]; exact (putSel_off rfl).trans rfl
        have e92 : a.tmps[92]? = some (.bool false) := by rw [ha]; exact putSel_on (e := (1, 92, .bool false)) 1 rfl rfl (hon 1 (by kernel_rfl)) rfl
        replace ha := Aside0.mk ha
        have F := Aside0.mk Q_F
        refine loadRow_ (N := some 95) (wanted_on rfl rfl rfl (e92.trans (by first | rfl | (simp [*]; done)))) rfl 27 _ rfl g (eval_of e1) 27 MC (0, 0) _ (blk_below HX.out F.out) Try.underlying27 rfl (by rw [HSZ.out]; exact size_msg) ?_
        refine hK.out _ _ ⟨(by rw [ha.out]; exact putSel_upk 4 hb_ rfl rfl rfl), F.out⟩
      refine steps_cons ?_ ?_
      · rintro b a w' ⟨ha, Q_F⟩ hb_ hon hoff
        refine ⟨_, rfl, fun K hK => ?_⟩
        have e94 : a.tmps[94]? = some (.agg MO) := by rw [ha]; exact putSel_on (e := (3, 94, .agg MO)) 3 rfl rfl (hon 3 (by kernel_rfl)) rfl
        have e95 : a.tmps[95]? = some (.agg MC) := by rw [ha]; exact putSel_on (e := (4, 95, .agg MC)) 4 rfl rfl (hon 4 (by kernel_rfl)) rfl
        have e92 : a.tmps[92]? = some (.bool false) := by rw [ha]; exact putSel_on (e := (1, 92, .bool false)) 1 rfl rfl (hon 1 (by kernel_rfl)) rfl
        replace ha := Aside0.mk ha
        have F := Aside0.mk Q_F
        refine goes_ (N := some 96) Try.func15 (by kernel_rfl) rfl #[.agg MO, .agg MC] (wanted_on rfl rfl rfl (e92.trans (by first | rfl | (simp [*]; done)))) rfl rfl (by first | (simp only [List.map_toArray, List.map_cons, List.map_nil, Act.eval, Array.getD_eq_getD_getElem?, Option.getD_some, e94, e95, e92]; done) | (simp only [List.map_toArray, List.map_cons, List.map_nil, Act.eval, Array.getD_eq_getD_getElem?, Option.getD_some, e94, e95, e92]; rfl)) ?_
        refine (HE.out w' (HW.out.trans (F.out.mono HW.out.size))).mono ?_
        rintro e w1 ⟨rfl, hb⟩
        refine ⟨_, rfl, ?_⟩
        refine hK.out _ _ ⟨(by rw [ha.out]; exact putSel_upk 5 hb_ rfl rfl rfl), F.out.trans (hb.mono F.out.size)⟩
      refine steps_cons ?_ ?_
      · rintro b a w' ⟨ha, Q_F⟩ hb_ hon hoff
        refine ⟨_, rfl, fun K hK => ?_⟩
        have e96 : a.tmps[96]? = some (.bool false) := by rw [ha]; exact putSel_on (e := (5, 96, .bool false)) 5 rfl rfl (hon 5 (by kernel_rfl)) rfl
        have e92 : a.tmps[92]? = some (.bool false) := by rw [ha]; exact putSel_on (e := (1, 92, .bool false)) 1 rfl rfl (hon 1 (by kernel_rfl)) rfl
        replace ha := Aside0.mk ha
        have F := Aside0.mk Q_F
        refine value_ (w1 := w') (v := .bool true) (wanted_on rfl rfl rfl (e92.trans (by first | rfl | (simp [*]; done)))) rfl ?_ ?_
        · go_simp
          (try simp only [i64_w])
          try rfl
        refine hK.out _ _ ⟨(by rw [ha.out]; exact putSel_upk 6 hb_ rfl rfl rfl), Q_F⟩
      refine steps_cons ?_ ?_
      · rintro b a w' ⟨ha, Q_F⟩ hb_ hon hoff
        refine ⟨_, rfl, fun K hK => ?_⟩
        have e92 : a.tmps[92]? = some (.bool false) := by rw [ha]; exact putSel_on (e := (1, 92, .bool false)) 1 rfl rfl (hon 1 (by kernel_rfl)) rfl
        have e97 : a.tmps[97]? = some (.bool true) := by rw [ha]; exact putSel_on (e := (6, 97, .bool true)) 6 rfl rfl (hon 6 (by kernel_rfl)) rfl
        replace ha := Aside0.mk ha
        have F := Aside0.mk Q_F
        refine value_ (w1 := w') (v := .bool true) (by rfl) rfl ?_ ?_
        · go_simp
          (try simp only [i64_w])
          try rfl
        refine hK.out _ _ ⟨(by rw [ha.out]; exact putSel_upk 7 hb_ rfl rfl rfl), Q_F⟩
      exact steps_nil
    · rintro b a w' hall ⟨ha, Q_F⟩
      clear F
      have hb0_ := hall 0 (by kernel_rfl)
      have hb1_ := hall 1 (by kernel_rfl)
      have hb2_ := hall 2 (by kernel_rfl)
      have hb3_ := hall 3 (by kernel_rfl)
      have hb4_ := hall 4 (by kernel_rfl)
      have hb5_ := hall 5 (by kernel_rfl)
      have hb6_ := hall 6 (by kernel_rfl)
      have hb7_ := hall 7 (by kernel_rfl)
      subst ha
      simp only [putSel, hb0_, hb1_, hb2_, hb3_, hb4_, hb5_, hb6_, hb7_, if_true, Act.put, List.setIfInBounds_toArray, List.set_cons_zero, List.set_cons_succ]
      have F := Aside0.mk Q_F
      clear Q_F
      clear hall hb0_ hb1_ hb2_ hb3_ hb4_ hb5_ hb6_ hb7_
      go_wp2
      rw [HNB.out rfl]
      exact bodyPost_ret (v := .tuple #[.slice none 0 0, .int .i64 1]) (by simp [results, Try.results11, go_sem]) rfl (encQ_none (HW.out.trans (F.out.mono HW.out.size)))
  case true =>
    refine start_ (n := 8) (S := fun w' => True) (ds := []) #[false, false, false, false, false, false, false, false] (by kernel_rfl) rfl rfl trivial (fun hHeld => ?_)
    refine with_tabW enc2.tab2 enc2.bits2 (fun HT_ HW_ => ?_)
    have F : Aside0 (Below w1.heap.size w1 w1.drew) := ⟨below_drew (Below.refl _ _)⟩
    refine inv_at [0, 1, 2, 3, 4, 5, 6, 7] (fun a0_ b a w' => a = putSel a0_ b [(0, 91, .bool false), (1, 92, .bool false), (2, 93, .agg MC), (3, 94, .agg MO), (4, 95, .agg MC), (5, 96, .bool true), (6, 97, .bool false), (7, 98, .bool false)] ∧ (Below w1.heap.size w1 w')) HT_.out HW_.out (by kernel_rfl) (by kernel_rfl) ?_ ?_ ?_
    · exact ⟨by simp only [putSel, Bool.false_eq_true, if_false], F.out⟩
    · skip
      clear F
      refine steps_cons ?_ ?_
      · rintro b a w' ⟨ha, Q_F⟩ hb_ hon hoff
        refine ⟨_, rfl, fun K hK => ?_⟩
        have e4 : a.tmps[4]? = some (.bool false) := by rw [ha]; exact (putSel_off rfl).trans rfl
        replace ha := Aside0.mk ha
        have F := Aside0.mk Q_F
        refine value_ (w1 := w') (v := .bool false) (by rfl) rfl ?_ ?_
        · go_simp
          (try simp only [i64_w])
          try rfl
        refine hK.out _ _ ⟨(by rw [ha.out]; exact putSel_upk 0 hb_ rfl rfl rfl), Q_F⟩
      refine steps_cons ?_ ?_
      · rintro b a w' ⟨ha, Q_F⟩ hb_ hon hoff
        refine ⟨_, rfl, fun K hK => ?_⟩
        have e91 : a.tmps[91]? = some (.bool false) := by rw [ha]; exact putSel_on (e := (0, 91, .bool false)) 0 rfl rfl (hon 0 (by kernel_rfl)) rfl
        replace ha := Aside0.mk ha
        have F := Aside0.mk Q_F
        refine value_ (w1 := w') (v := .bool false) (by rfl) rfl ?_ ?_
        · go_simp
          (try simp only [i64_w])
          try rfl
        refine hK.out _ _ ⟨(by rw [ha.out]; exact putSel_upk 1 hb_ rfl rfl rfl), Q_F⟩
      refine steps_cons ?_ ?_
      · rintro b a w' ⟨ha, Q_F⟩ hb_ hon hoff
        refine ⟨_, rfl, fun K hK => ?_⟩
        have e1 : a.tmps[1]? = some (.pointer (some ⟨g, 0, none⟩)) := by rw [ha]; exact (putSel_off rfl).trans rfl
        have e92 : a.tmps[92]? = some (.bool false) := by rw [ha]; exact putSel_on (e := (1, 92, .bool false)) 1 rfl rfl (hon 1 (by kernel_rfl)) rfl
        replace ha := Aside0.mk ha
        have F := Aside0.mk Q_F
        refine loadRow_ (N := some 93) (wanted_on rfl rfl rfl (e92.trans (by first | rfl | (simp [*]; done)))) rfl 27 _ rfl g (eval_of e1) 27 MC (0, 0) _ (blk_below HX.out F.out) Try.underlying27 rfl (by rw [HSZ.out]; exact size_msg) ?_
        refine hK.out _ _ ⟨(by rw [ha.out]; exact putSel_upk 2 hb_ rfl rfl rfl), F.out⟩
      refine steps_cons ?_ ?_
      · rintro b a w' ⟨ha, Q_F⟩ hb_ hon hoff
        refine ⟨_, rfl, fun K hK => ?_⟩
        have e93 : a.tmps[93]? = some (.agg MC) := by rw [ha]; exact putSel_on (e := (2, 93, .agg MC)) 2 rfl rfl (hon 2 (by kernel_rfl)) rfl
        have e92 : a.tmps[92]? = some (.bool false) := by rw [ha]; exact putSel_on (e := (1, 92, .bool false)) 1 rfl rfl (hon 1 (by kernel_rfl)) rfl
        replace ha := Aside0.mk ha
        have F := Aside0.mk Q_F
        refine goes_ (N := some 94) Try.func24 (by kernel_rfl) rfl #[.agg MC] (wanted_on rfl rfl rfl (e92.trans (by first | rfl | (simp [*]; done)))) rfl rfl (by first | (simp only [List.map_toArray, List.map_cons, List.map_nil, Act.eval, Array.getD_eq_getD_getElem?, Option.getD_some, e93, e92]; done) | (simp only [List.map_toArray, List.map_cons, List.map_nil, Act.eval, Array.getD_eq_getD_getElem?, Option.getD_some, e93, e92]; rfl)) ?_
        refine (HO.out w').mono ?_
        rintro e w1 ⟨rfl, hb⟩
        refine ⟨_, rfl, ?_⟩
        refine hK.out _ _ ⟨(by rw [ha.out]; exact putSel_upk 3 hb_ rfl rfl rfl), F.out.trans (hb.mono F.out.size)⟩
      refine steps_cons ?_ ?_
      · rintro b a w' ⟨ha, Q_F⟩ hb_ hon hoff
        refine ⟨_, rfl, fun K hK => ?_⟩
        have e1 : a.tmps[1]? = some (.pointer (some ⟨g, 0, none⟩)) := by rw [ha]; exact (putSel_off rfl).trans rfl
        have e92 : a.tmps[92]? = some (.bool false) := by rw [ha]; exact putSel_on (e := (1, 92, .bool false)) 1 rfl rfl (hon 1 (by kernel_rfl)) rfl
        replace ha := Aside0.mk ha
        have F := Aside0.mk Q_F
        refine loadRow_ (N := some 95) (wanted_on rfl rfl rfl (e92.trans (by first | rfl | (simp [*]; done)))) rfl 27 _ rfl g (eval_of e1) 27 MC (0, 0) _ (blk_below HX.out F.out) Try.underlying27 rfl (by rw [HSZ.out]; exact size_msg) ?_
        refine hK.out _ _ ⟨(by rw [ha.out]; exact putSel_upk 4 hb_ rfl rfl rfl), F.out⟩
      refine steps_cons ?_ ?_
      · rintro b a w' ⟨ha, Q_F⟩ hb_ hon hoff
        refine ⟨_, rfl, fun K hK => ?_⟩
        have e94 : a.tmps[94]? = some (.agg MO) := by rw [ha]; exact putSel_on (e := (3, 94, .agg MO)) 3 rfl rfl (hon 3 (by kernel_rfl)) rfl
        have e95 : a.tmps[95]? = some (.agg MC) := by rw [ha]; exact putSel_on (e := (4, 95, .agg MC)) 4 rfl rfl (hon 4 (by kernel_rfl)) rfl
        have e92 : a.tmps[92]? = some (.bool false) := by rw [ha]; exact putSel_on (e := (1, 92, .bool false)) 1 rfl rfl (hon 1 (by kernel_rfl)) rfl
        replace ha := Aside0.mk ha
        have F := Aside0.mk Q_F
        refine goes_ (N := some 96) Try.func15 (by kernel_rfl) rfl #[.agg MO, .agg MC] (wanted_on rfl rfl rfl (e92.trans (by first | rfl | (simp [*]; done)))) rfl rfl (by first | (simp only [List.map_toArray, List.map_cons, List.map_nil, Act.eval, Array.getD_eq_getD_getElem?, Option.getD_some, e94, e95, e92]; done) | (simp only [List.map_toArray, List.map_cons, List.map_nil, Act.eval, Array.getD_eq_getD_getElem?, Option.getD_some, e94, e95, e92]; rfl)) ?_
        refine (HE.out w' (HW.out.trans (F.out.mono HW.out.size))).mono ?_
        rintro e w1 ⟨rfl, hb⟩
        refine ⟨_, rfl, ?_⟩
        refine hK.out _ _ ⟨(by rw [ha.out]; exact putSel_upk 5 hb_ rfl rfl rfl), F.out.trans (hb.mono F.out.size)⟩
      refine steps_cons ?_ ?_
      · rintro b a w' ⟨ha, Q_F⟩ hb_ hon hoff
        refine ⟨_, rfl, fun K hK => ?_⟩
        have e96 : a.tmps[96]? = some (.bool true) := by rw [ha]; exact putSel_on (e := (5, 96, .bool true)) 5 rfl rfl (hon 5 (by kernel_rfl)) rfl
        have e92 : a.tmps[92]? = some (.bool false) := by rw [ha]; exact putSel_on (e := (1, 92, .bool false)) 1 rfl rfl (hon 1 (by kernel_rfl)) rfl
        replace ha := Aside0.mk ha
        have F := Aside0.mk Q_F
        refine value_ (w1 := w') (v := .bool false) (wanted_on rfl rfl rfl (e92.trans (by first | rfl | (simp [*]; done)))) rfl ?_ ?_
        · go_simp
          (try simp only [i64_w])
          try rfl
        refine hK.out _ _ ⟨(by rw [ha.out]; exact putSel_upk 6 hb_ rfl rfl rfl), Q_F⟩
      refine steps_cons ?_ ?_
      · rintro b a w' ⟨ha, Q_F⟩ hb_ hon hoff
        refine ⟨_, rfl, fun K hK => ?_⟩
        have e92 : a.tmps[92]? = some (.bool false) := by rw [ha]; exact putSel_on (e := (1, 92, .bool false)) 1 rfl rfl (hon 1 (by kernel_rfl)) rfl
        have e97 : a.tmps[97]? = some (.bool false) := by rw [ha]; exact putSel_on (e := (6, 97, .bool false)) 6 rfl rfl (hon 6 (by kernel_rfl)) rfl
        replace ha := Aside0.mk ha
        have F := Aside0.mk Q_F
        refine value_ (w1 := w') (v := .bool false) (by rfl) rfl ?_ ?_
        · go_simp
          (try simp only [i64_w])
          try rfl
        refine hK.out _ _ ⟨(by rw [ha.out]; exact putSel_upk 7 hb_ rfl rfl rfl), Q_F⟩
      exact steps_nil
    · rintro b a w' hall ⟨ha, Q_F⟩
      clear F
      have hb0_ := hall 0 (by kernel_rfl)
      have hb1_ := hall 1 (by kernel_rfl)
      have hb2_ := hall 2 (by kernel_rfl)
      have hb3_ := hall 3 (by kernel_rfl)
      have hb4_ := hall 4 (by kernel_rfl)
      have hb5_ := hall 5 (by kernel_rfl)
      have hb6_ := hall 6 (by kernel_rfl)
      have hb7_ := hall 7 (by kernel_rfl)
      subst ha
      simp only [putSel, hb0_, hb1_, hb2_, hb3_, hb4_, hb5_, hb6_, hb7_, if_true, Act.put, List.setIfInBounds_toArray, List.set_cons_zero, List.set_cons_succ]
      have F := Aside0.mk Q_F
      clear Q_F
      clear hall hb0_ hb1_ hb2_ hb3_ hb4_ hb5_ hb6_ hb7_
      go_wp2
      refine HK1.out _ _ ?_
      exact HT.out rfl g _ HG.out (blk_below HX.out F.out) (HW.out.trans (F.out.mono HW.out.size)) _ ⟨_, _, _, _, _, _, _, _, _, _, _, _, _, _, _, _, _, _, _, _, _, _, _, _, _, _, _, _, _, _, _, _, _, _, _, _, _, _, _, _, _, _, _, _, _, _, _, _, _, _, _, _, _, _, _, _, _, _, _, _, _, _, _, _, _, _, _, _, _, _, _, _, _, _, _, _, _, _, _, _, _, _, _, _, _, _, _, _, _, _, _, _, _, _, _, _, _, _, _, _, _, _, _, _, _, _, _, _, _, _, _, _, _, _, _, _, _, _, _, _, _, _, _, _, _, _, _, _, _, _, _, _, _, _, _, _, _, _, _, _, _, _, _, _, _, _, _, _, _, _, _, _, _, _, _, _, _, _, _, _, _, _, _, _, _, _, _, _, _, _, _, _, _, _, _, _, _, _, _, _, _, _, _, _, _, _, _, _, _, _, _, _, _, _, _, _, _, _, _, _, _, _, _, _, _, _, _, _, _, _, _, _, _, _, _, _, _, _, _, _, _, _, _, _, _, _, _, _, _, _, _, _, _, _, _, _, _, _, _, _, _, _, _, _, _, _, _, _, _, _, _, rfl⟩
end Go.Proofs.Ytbemfgpdfacdpaa.Ms
namespace Go.Proofs.Ytbemfgpdfacdpaa.Ms
open Go.RowKit Go.Proofs.Ytbemfgpdfacdpaa.Pr Go.Proofs.YtbemfgpdfacdpaaW.PrintWords Go.Proofs.YtbemfgpdfacdpaaW.PrintLast Go.Proofs.YtbemfgpdfacdpaaW.PrintMore
open Go.Proofs.Ytbemfgpdfacdpaa.QT (OwnAt nums_one)
set_option linter.unusedVariables false
set_option linter.unusedSimpArgs false
theorem run_append_RB (w0 w : World) (B : Nat) (v : Value) (l : List Int) (x : Int) (gb : Nat) (hR : RB w0 w B v l) (hB : Below w0.heap.size w0 w) (hBw : B ≤ w.heap.size) (h0 : w0.heap.size ≤ B)
    (hg : w.heap[gb]? = some (.cells #[.int .u8 x] 5 (0, 0))) (hl : l.length ≤ 1000000) (t1 t2 : TypeId) (h1 : t1 = 30) :
    ∃ v' w', (Builtin.append_ #[t1, t1] t2 #[v, .slice (some ⟨gb, 0, none⟩) 1 1]).run Try.prog w = .ok v' w' ∧ RB w0 w' B v' (l ++ [x]) ∧ Below w0.heap.size w0 w' ∧ LK w w' B := by
  subst h1
  obtain ⟨i0, hi0, hz0, hz1, hz2⟩ := info_parts infoB
  have ho : w.ownsRow B 5 1 v l.length (nums .u8 l) := Kd.own_raise (Kd.own_of_R hR) hR.1
  obtain ⟨v', w', hr, ho', hg', _⟩ := run_append_own w B 30 t2 5 i0 (.int .u8 0) 1 1 Try.underlying30 hi0 hz0 hz1 hz2 rfl (by decide) v l.length (nums .u8 l) ho ⟨gb, 0, none⟩ 1 1 (nums .u8 [x]) rfl
    (World.news_of_block hg) (nums_one _ _) (by simp only [maxLen]; omega) (by omega) hBw
  rw [← nums_append, show l.length + 1 = (l ++ [x]).length by simp] at ho'
  exact ⟨v', w', hr, Kd.R_of_own (own_weaken ho' h0) (fun k hk => own_base ho' k hk), hB.grown hg' (Nat.le_trans h0 hBw) (fun k hk => Nat.le_trans h0 (own_base ho k hk)),
    LK.of_row ho (fun k hk => own_base ho k hk) hg'.size (fun i hi hn => hg'.block i hi hn)⟩
theorem wpList_append_RB {ops : Array Oper} {rest : List Oper} {o : Oper} {a : Act} {Q : Exit → Act → World → Prop} (hgd : o.guard = none) (sl x : Operand) (t : TypeId)
    (ho : o.op = .call { callee := .builtin .append, args := #[sl, x], argTypes := #[t, t] }) (h1 : t = 30) (w0 w : World) (B : Nat) (v : Value) (l : List Int) (y : Int) (gb : Nat)
    (hs : a.eval sl = v) (hx : a.eval x = .slice (some ⟨gb, 0, none⟩) 1 1) (hR : RB w0 w B v l) (hB : Below w0.heap.size w0 w) (hBw : B ≤ w.heap.size) (h0 : w0.heap.size ≤ B)
    (hg : w.heap[gb]? = some (.cells #[.int .u8 y] 5 (0, 0))) (hl : l.length ≤ 1000000)
    (hK : ∀ v' w', RB w0 w' B v' (l ++ [y]) → Below w0.heap.size w0 w' → LK w w' B → wpList Try.prog ops Q rest (a.put o.dst v') w') : wpList Try.prog ops Q (o :: rest) a w := by
  refine wpList_plain hgd fun K hK' => ?_
  obtain ⟨v', w', hr, h2, h3, h4⟩ := run_append_RB w0 w B v l y gb hR hB hBw h0 hg hl t o.type h1
  unfold Oper.wp execOp
  simp only [ho, resolve, invoke, builtin, Sem.run_bind, Sem.run_pure, Result.andThen_ok, List.map_toArray, List.map_cons, List.map_nil, hs, hx, hr]
  exact hK' _ _ (hK v' w' h2 h3 h4)
theorem append_RB_step {ops : Array Oper} {o : Oper} {a : Act} {N : Option Tmp} {Q : Exit → Act → World → Prop} {K : Act → World → Prop} (hw : Region.wanted o (yielded ops a.tmps) = true) (hN : o.dst = N) (sl x : Operand) (t : TypeId)
    (ho : o.op = .call { callee := .builtin .append, args := #[sl, x], argTypes := #[t, t] }) (h1 : t = 30) (w0 w : World) (B : Nat) (v : Value) (l : List Int) (y : Int) (gb : Nat)
    (hs : a.eval sl = v) (hx : a.eval x = .slice (some ⟨gb, 0, none⟩) 1 1) (hR : RB w0 w B v l) (hB : Below w0.heap.size w0 w) (hBw : B ≤ w.heap.size) (h0 : w0.heap.size ≤ B)
    (hg : w.heap[gb]? = some (.cells #[.int .u8 y] 5 (0, 0))) (hl : l.length ≤ 1000000)
    (hK : ∀ v' w', RB w0 w' B v' (l ++ [y]) → Below w0.heap.size w0 w' → LK w w' B → K (a.put N v') w') :
    if Region.wanted o (yielded ops a.tmps) = true then Oper.wp Try.prog o a w K Q else K (a.put N undef) w := by
  rw [if_pos hw]
  subst hN
  obtain ⟨v', w', hr, h2, h3, h4⟩ := run_append_RB w0 w B v l y gb hR hB hBw h0 hg hl t o.type h1
  unfold Oper.wp execOp
  simp only [ho, resolve, invoke, builtin, Sem.run_bind, Sem.run_pure, Result.andThen_ok, List.map_toArray, List.map_cons, List.map_nil, hs, hx, hr]
  exact hK v' w' h2 h3 h4
/-- Lay's contract with all that it leaves alone. -/
theorem layx_calls (w0 w : World) (B : Nat) (v : Value) (l : List Int) (x : Int) (n : Nat) (hR : RB w0 w B v l) (hB : Below w0.heap.size w0 w) (hBw : B ≤ w.heap.size) (hn : n ≤ 8) (hl : l.length ≤ 1000000) :
    Calls Try.prog 26 #[v, .int .i64 n, .int .u64 (IntKind.u64.wrap x)] w fun e w' => ∃ v', e = .returned v' ∧ RB w0 w' B v' (l ++ wnum x n) ∧ Below w0.heap.size w0 w' ∧ LK w w' B ∧
      (∀ k, k < w.heap.size → some k ≠ v.ownBlock → w'.heap[k]? = w.heap[k]?) ∧ (∀ k, v'.ownBlock = some k → some k = v.ownBlock ∨ w.heap.size ≤ k) := by
  refine (parapetref1_Lay.calls 9 (fun k => some k = v.ownBlock) v l n (IntKind.u64.wrap x) (l ++ wnum x n) w0 w hB (Kd.R_tight rfl hR) (lay_f x n 9 l hn (by decide) (by omega))).mono ?_
  rintro e w' ⟨v', rfl, h1, h2, h3⟩
  obtain ⟨_, ho⟩ := Kd.R_own hR
  exact ⟨v', rfl, Kd.R_mono h1 (fun k hk => hk.elim (fun h => hR.1 k h.symm) (fun h => Nat.le_trans hBw h)), h2, LK.of_row ho hR.1 h3.1 h3.2, fun k hk hn => h3.2 k hk hn, fun k hk => h1.1 k hk⟩
theorem wmem_len (l : List Int) : (wmem l).length = 1 + 8 * l.length := by
  rw [wmem, List.length_append, wnum_length, wints]
  congr 1
  induction l with
  | nil => rfl
  | cons a l ih => rw [List.flatMap_cons, List.length_append, ih, wnum_length, List.length_cons]; omega
theorem wtext_len (s : ByteArray) : (wtext s).length = 4 + s.size := by
  rw [wtext, List.length_append, wnum_length, bytesOf_length]
end Go.Proofs.Ytbemfgpdfacdpaa.Ms
namespace Go.Proofs.Ytbemfgpdfacdpaa.Ms
open Go.RowKit Go.Proofs.Ytbemfgpdfacdpaa.Pr Go.Proofs.YtbemfgpdfacdpaaW.PrintWords Go.Proofs.YtbemfgpdfacdpaaW.PrintLast Go.Proofs.YtbemfgpdfacdpaaW.PrintMore
open Go.Proofs.Ytbemfgpdfacdpaa.QT (OwnAt)
set_option linter.unusedVariables false
set_option linter.unusedSimpArgs false
set_option maxHeartbeats 16000000 in
set_option maxRecDepth 100000 in
theorem elimPH (g : Nat) {ts : Array Value} {Q : Array Value → Prop} (h : ∃ z0 z4 z5 z6 z7 z8 z9 z10 z11 z12 z13 z14 z15 z16 z17 z18 z19 z20 z21 z22 z23 z24 z25 z26 z27 z28 z29 z30 z31 z32 z33 z34 z35 z36 z37 z38 z39 z40 z41 z42 z43 z44 z45 z46 z47 z48 z49 z50 z51 z52 z53 z54 z55 z56 z57 z58 z59 z60 z61 z62 z63 z64 z65 z66 z67 z68 z69 z70 z71 z72 z73 z74 z75 z76 z77 z78 z79 z80 z81 z82 z83 z84 z85 z86 z87 z88 z89 z90 z91 z92 z93 z94 z95 z96 z97 z98 z99 z100 z101 z102 z103 z104 z105 z106 z107 z108 z109 z110 z111 z112 z113 z114 z115 z116 z117 z118 z119 z120 z121 z122 z123 z124 z125 z126 z127 z128 z129 z130 z131 z132 z133 z134 z135 z136 z137 z138 z139 z140 z141 z142 z143 z144 z145 z146 z147 z148 z149 z150 z151 z152 z153 z154 z155 z156 z157 z158 z159 z160 z161 z162 z163 z164 z165 z166 z167 z168 z169 z170 z171 z172 z173 z174 z175 z176 z177 z178 z179 z180 z181 z182 z183 z184 z185 z186 z187 z188 z189 z190 z191 z192 z193 z194 z195 z196 z197 z198 z199 z200 z201 z202 z203 z204 z205 z206 z207 z208 z209 z210 z211 z212 z213 z214 z215 z216 z217 z218 z219 z220 z221 z222 z223 z224 z225 z226 z227 z228 z229 z230 z231 z232 z233 z234 z235 z236 z237 z238 z239 z240 z241 z242 z243 z244 z245 z246 z247 z248 z249 z250 z251 z252 z253, ts = #[z0, .pointer (some ⟨g, 0, none⟩), .slice none 0 0, .int .i64 0, z4, z5, z6, z7, z8, z9, z10, z11, z12, z13, z14, z15, z16, z17, z18, z19, z20, z21, z22, z23, z24, z25, z26, z27, z28, z29, z30, z31, z32, z33, z34, z35, z36, z37, z38, z39, z40, z41, z42, z43, z44, z45, z46, z47, z48, z49, z50, z51, z52, z53, z54, z55, z56, z57, z58, z59, z60, z61, z62, z63, z64, z65, z66, z67, z68, z69, z70, z71, z72, z73, z74, z75, z76, z77, z78, z79, z80, z81, z82, z83, z84, z85, z86, z87, z88, z89, z90, z91, z92, z93, z94, z95, z96, z97, z98, z99, z100, z101, z102, z103, z104, z105, z106, z107, z108, z109, z110, z111, z112, z113, z114, z115, z116, z117, z118, z119, z120, z121, z122, z123, z124, z125, z126, z127, z128, z129, z130, z131, z132, z133, z134, z135, z136, z137, z138, z139, z140, z141, z142, z143, z144, z145, z146, z147, z148, z149, z150, z151, z152, z153, z154, z155, z156, z157, z158, z159, z160, z161, z162, z163, z164, z165, z166, z167, z168, z169, z170, z171, z172, z173, z174, z175, z176, z177, z178, z179, z180, z181, z182, z183, z184, z185, z186, z187, z188, z189, z190, z191, z192, z193, z194, z195, z196, z197, z198, z199, z200, z201, z202, z203, z204, z205, z206, z207, z208, z209, z210, z211, z212, z213, z214, z215, z216, z217, z218, z219, z220, z221, z222, z223, z224, z225, z226, z227, z228, z229, z230, z231, z232, z233, z234, z235, z236, z237, z238, z239, z240, z241, z242, z243, z244, z245, z246, z247, z248, z249, z250, z251, z252, z253]) (k : ∀ z0 z4 z5 z6 z7 z8 z9 z10 z11 z12 z13 z14 z15 z16 z17 z18 z19 z20 z21 z22 z23 z24 z25 z26 z27 z28 z29 z30 z31 z32 z33 z34 z35 z36 z37 z38 z39 z40 z41 z42 z43 z44 z45 z46 z47 z48 z49 z50 z51 z52 z53 z54 z55 z56 z57 z58 z59 z60 z61 z62 z63 z64 z65 z66 z67 z68 z69 z70 z71 z72 z73 z74 z75 z76 z77 z78 z79 z80 z81 z82 z83 z84 z85 z86 z87 z88 z89 z90 z91 z92 z93 z94 z95 z96 z97 z98 z99 z100 z101 z102 z103 z104 z105 z106 z107 z108 z109 z110 z111 z112 z113 z114 z115 z116 z117 z118 z119 z120 z121 z122 z123 z124 z125 z126 z127 z128 z129 z130 z131 z132 z133 z134 z135 z136 z137 z138 z139 z140 z141 z142 z143 z144 z145 z146 z147 z148 z149 z150 z151 z152 z153 z154 z155 z156 z157 z158 z159 z160 z161 z162 z163 z164 z165 z166 z167 z168 z169 z170 z171 z172 z173 z174 z175 z176 z177 z178 z179 z180 z181 z182 z183 z184 z185 z186 z187 z188 z189 z190 z191 z192 z193 z194 z195 z196 z197 z198 z199 z200 z201 z202 z203 z204 z205 z206 z207 z208 z209 z210 z211 z212 z213 z214 z215 z216 z217 z218 z219 z220 z221 z222 z223 z224 z225 z226 z227 z228 z229 z230 z231 z232 z233 z234 z235 z236 z237 z238 z239 z240 z241 z242 z243 z244 z245 z246 z247 z248 z249 z250 z251 z252 z253 : Value, Q #[z0, .pointer (some ⟨g, 0, none⟩), .slice none 0 0, .int .i64 0, z4, z5, z6, z7, z8, z9, z10, z11, z12, z13, z14, z15, z16, z17, z18, z19, z20, z21, z22, z23, z24, z25, z26, z27, z28, z29, z30, z31, z32, z33, z34, z35, z36, z37, z38, z39, z40, z41, z42, z43, z44, z45, z46, z47, z48, z49, z50, z51, z52, z53, z54, z55, z56, z57, z58, z59, z60, z61, z62, z63, z64, z65, z66, z67, z68, z69, z70, z71, z72, z73, z74, z75, z76, z77, z78, z79, z80, z81, z82, z83, z84, z85, z86, z87, z88, z89, z90, z91, z92, z93, z94, z95, z96, z97, z98, z99, z100, z101, z102, z103, z104, z105, z106, z107, z108, z109, z110, z111, z112, z113, z114, z115, z116, z117, z118, z119, z120, z121, z122, z123, z124, z125, z126, z127, z128, z129, z130, z131, z132, z133, z134, z135, z136, z137, z138, z139, z140, z141, z142, z143, z144, z145, z146, z147, z148, z149, z150, z151, z152, z153, z154, z155, z156, z157, z158, z159, z160, z161, z162, z163, z164, z165, z166, z167, z168, z169, z170, z171, z172, z173, z174, z175, z176, z177, z178, z179, z180, z181, z182, z183, z184, z185, z186, z187, z188, z189, z190, z191, z192, z193, z194, z195, z196, z197, z198, z199, z200, z201, z202, z203, z204, z205, z206, z207, z208, z209, z210, z211, z212, z213, z214, z215, z216, z217, z218, z219, z220, z221, z222, z223, z224, z225, z226, z227, z228, z229, z230, z231, z232, z233, z234, z235, z236, z237, z238, z239, z240, z241, z242, z243, z244, z245, z246, z247, z248, z249, z250, z251, z252, z253]) : Q ts :=
  h.elim fun z0 h => h.elim fun z4 h => h.elim fun z5 h => h.elim fun z6 h => h.elim fun z7 h => h.elim fun z8 h => h.elim fun z9 h => h.elim fun z10 h => h.elim fun z11 h => h.elim fun z12 h => h.elim fun z13 h => h.elim fun z14 h => h.elim fun z15 h => h.elim fun z16 h => h.elim fun z17 h => h.elim fun z18 h => h.elim fun z19 h => h.elim fun z20 h => h.elim fun z21 h => h.elim fun z22 h => h.elim fun z23 h => h.elim fun z24 h => h.elim fun z25 h => h.elim fun z26 h => h.elim fun z27 h => h.elim fun z28 h => h.elim fun z29 h => h.elim fun z30 h => h.elim fun z31 h => h.elim fun z32 h => h.elim fun z33 h => h.elim fun z34 h => h.elim fun z35 h => h.elim fun z36 h => h.elim fun z37 h => h.elim fun z38 h => h.elim fun z39 h => h.elim fun z40 h => h.elim fun z41 h => h.elim fun z42 h => h.elim fun z43 h => h.elim fun z44 h => h.elim fun z45 h => h.elim fun z46 h => h.elim fun z47 h => h.elim fun z48 h => h.elim fun z49 h => h.elim fun z50 h => h.elim fun z51 h => h.elim fun z52 h => h.elim fun z53 h => h.elim fun z54 h => h.elim fun z55 h => h.elim fun z56 h => h.elim fun z57 h => h.elim fun z58 h => h.elim fun z59 h => h.elim fun z60 h => h.elim fun z61 h => h.elim fun z62 h => h.elim fun z63 h => h.elim fun z64 h => h.elim fun z65 h => h.elim fun z66 h => h.elim fun z67 h => h.elim fun z68 h => h.elim fun z69 h => h.elim fun z70 h => h.elim fun z71 h => h.elim fun z72 h => h.elim fun z73 h => h.elim fun z74 h => h.elim fun z75 h => h.elim fun z76 h => h.elim fun z77 h => h.elim fun z78 h => h.elim fun z79 h => h.elim fun z80 h => h.elim fun z81 h => h.elim fun z82 h => h.elim fun z83 h => h.elim fun z84 h => h.elim fun z85 h => h.elim fun z86 h => h.elim fun z87 h => h.elim fun z88 h => h.elim fun z89 h => h.elim fun z90 h => h.elim fun z91 h => h.elim fun z92 h => h.elim fun z93 h => h.elim fun z94 h => h.elim fun z95 h => h.elim fun z96 h => h.elim fun z97 h => h.elim fun z98 h => h.elim fun z99 h => h.elim fun z100 h => h.elim fun z101 h => h.elim fun z102 h => h.elim fun z103 h => h.elim fun z104 h => h.elim fun z105 h => h.elim fun z106 h => h.elim fun z107 h => h.elim fun z108 h => h.elim fun z109 h => h.elim fun z110 h => h.elim fun z111 h => h.elim fun z112 h => h.elim fun z113 h => h.elim fun z114 h => h.elim fun z115 h => h.elim fun z116 h => h.elim fun z117 h => h.elim fun z118 h => h.elim fun z119 h => h.elim fun z120 h => h.elim fun z121 h => h.elim fun z122 h => h.elim fun z123 h => h.elim fun z124 h => h.elim fun z125 h => h.elim fun z126 h => h.elim fun z127 h => h.elim fun z128 h => h.elim fun z129 h => h.elim fun z130 h => h.elim fun z131 h => h.elim fun z132 h => h.elim fun z133 h => h.elim fun z134 h => h.elim fun z135 h => h.elim fun z136 h => h.elim fun z137 h => h.elim fun z138 h => h.elim fun z139 h => h.elim fun z140 h => h.elim fun z141 h => h.elim fun z142 h => h.elim fun z143 h => h.elim fun z144 h => h.elim fun z145 h => h.elim fun z146 h => h.elim fun z147 h => h.elim fun z148 h => h.elim fun z149 h => h.elim fun z150 h => h.elim fun z151 h => h.elim fun z152 h => h.elim fun z153 h => h.elim fun z154 h => h.elim fun z155 h => h.elim fun z156 h => h.elim fun z157 h => h.elim fun z158 h => h.elim fun z159 h => h.elim fun z160 h => h.elim fun z161 h => h.elim fun z162 h => h.elim fun z163 h => h.elim fun z164 h => h.elim fun z165 h => h.elim fun z166 h => h.elim fun z167 h => h.elim fun z168 h => h.elim fun z169 h => h.elim fun z170 h => h.elim fun z171 h => h.elim fun z172 h => h.elim fun z173 h => h.elim fun z174 h => h.elim fun z175 h => h.elim fun z176 h => h.elim fun z177 h => h.elim fun z178 h => h.elim fun z179 h => h.elim fun z180 h => h.elim fun z181 h => h.elim fun z182 h => h.elim fun z183 h => h.elim fun z184 h => h.elim fun z185 h => h.elim fun z186 h => h.elim fun z187 h => h.elim fun z188 h => h.elim fun z189 h => h.elim fun z190 h => h.elim fun z191 h => h.elim fun z192 h => h.elim fun z193 h => h.elim fun z194 h => h.elim fun z195 h => h.elim fun z196 h => h.elim fun z197 h => h.elim fun z198 h => h.elim fun z199 h => h.elim fun z200 h => h.elim fun z201 h => h.elim fun z202 h => h.elim fun z203 h => h.elim fun z204 h => h.elim fun z205 h => h.elim fun z206 h => h.elim fun z207 h => h.elim fun z208 h => h.elim fun z209 h => h.elim fun z210 h => h.elim fun z211 h => h.elim fun z212 h => h.elim fun z213 h => h.elim fun z214 h => h.elim fun z215 h => h.elim fun z216 h => h.elim fun z217 h => h.elim fun z218 h => h.elim fun z219 h => h.elim fun z220 h => h.elim fun z221 h => h.elim fun z222 h => h.elim fun z223 h => h.elim fun z224 h => h.elim fun z225 h => h.elim fun z226 h => h.elim fun z227 h => h.elim fun z228 h => h.elim fun z229 h => h.elim fun z230 h => h.elim fun z231 h => h.elim fun z232 h => h.elim fun z233 h => h.elim fun z234 h => h.elim fun z235 h => h.elim fun z236 h => h.elim fun z237 h => h.elim fun z238 h => h.elim fun z239 h => h.elim fun z240 h => h.elim fun z241 h => h.elim fun z242 h => h.elim fun z243 h => h.elim fun z244 h => h.elim fun z245 h => h.elim fun z246 h => h.elim fun z247 h => h.elim fun z248 h => h.elim fun z249 h => h.elim fun z250 h => h.elim fun z251 h => h.elim fun z252 h => h.elim fun z253 h => Eq.subst (motive := Q) h.symm (k z0 z4 z5 z6 z7 z8 z9 z10 z11 z12 z13 z14 z15 z16 z17 z18 z19 z20 z21 z22 z23 z24 z25 z26 z27 z28 z29 z30 z31 z32 z33 z34 z35 z36 z37 z38 z39 z40 z41 z42 z43 z44 z45 z46 z47 z48 z49 z50 z51 z52 z53 z54 z55 z56 z57 z58 z59 z60 z61 z62 z63 z64 z65 z66 z67 z68 z69 z70 z71 z72 z73 z74 z75 z76 z77 z78 z79 z80 z81 z82 z83 z84 z85 z86 z87 z88 z89 z90 z91 z92 z93 z94 z95 z96 z97 z98 z99 z100 z101 z102 z103 z104 z105 z106 z107 z108 z109 z110 z111 z112 z113 z114 z115 z116 z117 z118 z119 z120 z121 z122 z123 z124 z125 z126 z127 z128 z129 z130 z131 z132 z133 z134 z135 z136 z137 z138 z139 z140 z141 z142 z143 z144 z145 z146 z147 z148 z149 z150 z151 z152 z153 z154 z155 z156 z157 z158 z159 z160 z161 z162 z163 z164 z165 z166 z167 z168 z169 z170 z171 z172 z173 z174 z175 z176 z177 z178 z179 z180 z181 z182 z183 z184 z185 z186 z187 z188 z189 z190 z191 z192 z193 z194 z195 z196 z197 z198 z199 z200 z201 z202 z203 z204 z205 z206 z207 z208 z209 z210 z211 z212 z213 z214 z215 z216 z217 z218 z219 z220 z221 z222 z223 z224 z225 z226 z227 z228 z229 z230 z231 z232 z233 z234 z235 z236 z237 z238 z239 z240 z241 z242 z243 z244 z245 z246 z247 z248 z249 z250 z251 z252 z253)
set_option maxHeartbeats 16000000 in
set_option maxRecDepth 100000 in
theorem elimP (g : Nat) {ts : Array Value} {Q : Array Value → Prop} (h : ∃ z0 z2 z3 z4 z5 z6 z7 z8 z9 z10 z11 z12 z13 z14 z15 z16 z17 z18 z19 z20 z21 z22 z23 z24 z25 z26 z27 z28 z29 z30 z31 z32 z33 z34 z35 z36 z37 z38 z39 z40 z41 z42 z43 z44 z45 z46 z47 z48 z49 z50 z51 z52 z53 z54 z55 z56 z57 z58 z59 z60 z61 z62 z63 z64 z65 z66 z67 z68 z69 z70 z71 z72 z73 z74 z75 z76 z77 z78 z79 z80 z81 z82 z83 z84 z85 z86 z87 z88 z89 z90 z91 z92 z93 z94 z95 z96 z97 z98 z99 z100 z101 z102 z103 z104 z105 z106 z107 z108 z109 z110 z111 z112 z113 z114 z115 z116 z117 z118 z119 z120 z121 z122 z123 z124 z125 z126 z127 z128 z129 z130 z131 z132 z133 z134 z135 z136 z137 z138 z139 z140 z141 z142 z143 z144 z145 z146 z147 z148 z149 z150 z151 z152 z153 z154 z155 z156 z157 z158 z159 z160 z161 z162 z163 z164 z165 z166 z167 z168 z169 z170 z171 z172 z173 z174 z175 z176 z177 z178 z179 z180 z181 z182 z183 z184 z185 z186 z187 z188 z189 z190 z191 z192 z193 z194 z195 z196 z197 z198 z199 z200 z201 z202 z203 z204 z205 z206 z207 z208 z209 z210 z211 z212 z213 z214 z215 z216 z217 z218 z219 z220 z221 z222 z223 z224 z225 z226 z227 z228 z229 z230 z231 z232 z233 z234 z235 z236 z237 z238 z239 z240 z241 z242 z243 z244 z245 z246 z247 z248 z249 z250 z251 z252 z253, ts = #[z0, .pointer (some ⟨g, 0, none⟩), z2, z3, z4, z5, z6, z7, z8, z9, z10, z11, z12, z13, z14, z15, z16, z17, z18, z19, z20, z21, z22, z23, z24, z25, z26, z27, z28, z29, z30, z31, z32, z33, z34, z35, z36, z37, z38, z39, z40, z41, z42, z43, z44, z45, z46, z47, z48, z49, z50, z51, z52, z53, z54, z55, z56, z57, z58, z59, z60, z61, z62, z63, z64, z65, z66, z67, z68, z69, z70, z71, z72, z73, z74, z75, z76, z77, z78, z79, z80, z81, z82, z83, z84, z85, z86, z87, z88, z89, z90, z91, z92, z93, z94, z95, z96, z97, z98, z99, z100, z101, z102, z103, z104, z105, z106, z107, z108, z109, z110, z111, z112, z113, z114, z115, z116, z117, z118, z119, z120, z121, z122, z123, z124, z125, z126, z127, z128, z129, z130, z131, z132, z133, z134, z135, z136, z137, z138, z139, z140, z141, z142, z143, z144, z145, z146, z147, z148, z149, z150, z151, z152, z153, z154, z155, z156, z157, z158, z159, z160, z161, z162, z163, z164, z165, z166, z167, z168, z169, z170, z171, z172, z173, z174, z175, z176, z177, z178, z179, z180, z181, z182, z183, z184, z185, z186, z187, z188, z189, z190, z191, z192, z193, z194, z195, z196, z197, z198, z199, z200, z201, z202, z203, z204, z205, z206, z207, z208, z209, z210, z211, z212, z213, z214, z215, z216, z217, z218, z219, z220, z221, z222, z223, z224, z225, z226, z227, z228, z229, z230, z231, z232, z233, z234, z235, z236, z237, z238, z239, z240, z241, z242, z243, z244, z245, z246, z247, z248, z249, z250, z251, z252, z253]) (k : ∀ z0 z2 z3 z4 z5 z6 z7 z8 z9 z10 z11 z12 z13 z14 z15 z16 z17 z18 z19 z20 z21 z22 z23 z24 z25 z26 z27 z28 z29 z30 z31 z32 z33 z34 z35 z36 z37 z38 z39 z40 z41 z42 z43 z44 z45 z46 z47 z48 z49 z50 z51 z52 z53 z54 z55 z56 z57 z58 z59 z60 z61 z62 z63 z64 z65 z66 z67 z68 z69 z70 z71 z72 z73 z74 z75 z76 z77 z78 z79 z80 z81 z82 z83 z84 z85 z86 z87 z88 z89 z90 z91 z92 z93 z94 z95 z96 z97 z98 z99 z100 z101 z102 z103 z104 z105 z106 z107 z108 z109 z110 z111 z112 z113 z114 z115 z116 z117 z118 z119 z120 z121 z122 z123 z124 z125 z126 z127 z128 z129 z130 z131 z132 z133 z134 z135 z136 z137 z138 z139 z140 z141 z142 z143 z144 z145 z146 z147 z148 z149 z150 z151 z152 z153 z154 z155 z156 z157 z158 z159 z160 z161 z162 z163 z164 z165 z166 z167 z168 z169 z170 z171 z172 z173 z174 z175 z176 z177 z178 z179 z180 z181 z182 z183 z184 z185 z186 z187 z188 z189 z190 z191 z192 z193 z194 z195 z196 z197 z198 z199 z200 z201 z202 z203 z204 z205 z206 z207 z208 z209 z210 z211 z212 z213 z214 z215 z216 z217 z218 z219 z220 z221 z222 z223 z224 z225 z226 z227 z228 z229 z230 z231 z232 z233 z234 z235 z236 z237 z238 z239 z240 z241 z242 z243 z244 z245 z246 z247 z248 z249 z250 z251 z252 z253 : Value, Q #[z0, .pointer (some ⟨g, 0, none⟩), z2, z3, z4, z5, z6, z7, z8, z9, z10, z11, z12, z13, z14, z15, z16, z17, z18, z19, z20, z21, z22, z23, z24, z25, z26, z27, z28, z29, z30, z31, z32, z33, z34, z35, z36, z37, z38, z39, z40, z41, z42, z43, z44, z45, z46, z47, z48, z49, z50, z51, z52, z53, z54, z55, z56, z57, z58, z59, z60, z61, z62, z63, z64, z65, z66, z67, z68, z69, z70, z71, z72, z73, z74, z75, z76, z77, z78, z79, z80, z81, z82, z83, z84, z85, z86, z87, z88, z89, z90, z91, z92, z93, z94, z95, z96, z97, z98, z99, z100, z101, z102, z103, z104, z105, z106, z107, z108, z109, z110, z111, z112, z113, z114, z115, z116, z117, z118, z119, z120, z121, z122, z123, z124, z125, z126, z127, z128, z129, z130, z131, z132, z133, z134, z135, z136, z137, z138, z139, z140, z141, z142, z143, z144, z145, z146, z147, z148, z149, z150, z151, z152, z153, z154, z155, z156, z157, z158, z159, z160, z161, z162, z163, z164, z165, z166, z167, z168, z169, z170, z171, z172, z173, z174, z175, z176, z177, z178, z179, z180, z181, z182, z183, z184, z185, z186, z187, z188, z189, z190, z191, z192, z193, z194, z195, z196, z197, z198, z199, z200, z201, z202, z203, z204, z205, z206, z207, z208, z209, z210, z211, z212, z213, z214, z215, z216, z217, z218, z219, z220, z221, z222, z223, z224, z225, z226, z227, z228, z229, z230, z231, z232, z233, z234, z235, z236, z237, z238, z239, z240, z241, z242, z243, z244, z245, z246, z247, z248, z249, z250, z251, z252, z253]) : Q ts :=
  h.elim fun z0 h => h.elim fun z2 h => h.elim fun z3 h => h.elim fun z4 h => h.elim fun z5 h => h.elim fun z6 h => h.elim fun z7 h => h.elim fun z8 h => h.elim fun z9 h => h.elim fun z10 h => h.elim fun z11 h => h.elim fun z12 h => h.elim fun z13 h => h.elim fun z14 h => h.elim fun z15 h => h.elim fun z16 h => h.elim fun z17 h => h.elim fun z18 h => h.elim fun z19 h => h.elim fun z20 h => h.elim fun z21 h => h.elim fun z22 h => h.elim fun z23 h => h.elim fun z24 h => h.elim fun z25 h => h.elim fun z26 h => h.elim fun z27 h => h.elim fun z28 h => h.elim fun z29 h => h.elim fun z30 h => h.elim fun z31 h => h.elim fun z32 h => h.elim fun z33 h => h.elim fun z34 h => h.elim fun z35 h => h.elim fun z36 h => h.elim fun z37 h => h.elim fun z38 h => h.elim fun z39 h => h.elim fun z40 h => h.elim fun z41 h => h.elim fun z42 h => h.elim fun z43 h => h.elim fun z44 h => h.elim fun z45 h => h.elim fun z46 h => h.elim fun z47 h => h.elim fun z48 h => h.elim fun z49 h => h.elim fun z50 h => h.elim fun z51 h => h.elim fun z52 h => h.elim fun z53 h => h.elim fun z54 h => h.elim fun z55 h => h.elim fun z56 h => h.elim fun z57 h => h.elim fun z58 h => h.elim fun z59 h => h.elim fun z60 h => h.elim fun z61 h => h.elim fun z62 h => h.elim fun z63 h => h.elim fun z64 h => h.elim fun z65 h => h.elim fun z66 h => h.elim fun z67 h => h.elim fun z68 h => h.elim fun z69 h => h.elim fun z70 h => h.elim fun z71 h => h.elim fun z72 h => h.elim fun z73 h => h.elim fun z74 h => h.elim fun z75 h => h.elim fun z76 h => h.elim fun z77 h => h.elim fun z78 h => h.elim fun z79 h => h.elim fun z80 h => h.elim fun z81 h => h.elim fun z82 h => h.elim fun z83 h => h.elim fun z84 h => h.elim fun z85 h => h.elim fun z86 h => h.elim fun z87 h => h.elim fun z88 h => h.elim fun z89 h => h.elim fun z90 h => h.elim fun z91 h => h.elim fun z92 h => h.elim fun z93 h => h.elim fun z94 h => h.elim fun z95 h => h.elim fun z96 h => h.elim fun z97 h => h.elim fun z98 h => h.elim fun z99 h => h.elim fun z100 h => h.elim fun z101 h => h.elim fun z102 h => h.elim fun z103 h => h.elim fun z104 h => h.elim fun z105 h => h.elim fun z106 h => h.elim fun z107 h => h.elim fun z108 h => h.elim fun z109 h => h.elim fun z110 h => h.elim fun z111 h => h.elim fun z112 h => h.elim fun z113 h => h.elim fun z114 h => h.elim fun z115 h => h.elim fun z116 h => h.elim fun z117 h => h.elim fun z118 h => h.elim fun z119 h => h.elim fun z120 h => h.elim fun z121 h => h.elim fun z122 h => h.elim fun z123 h => h.elim fun z124 h => h.elim fun z125 h => h.elim fun z126 h => h.elim fun z127 h => h.elim fun z128 h => h.elim fun z129 h => h.elim fun z130 h => h.elim fun z131 h => h.elim fun z132 h => h.elim fun z133 h => h.elim fun z134 h => h.elim fun z135 h => h.elim fun z136 h => h.elim fun z137 h => h.elim fun z138 h => h.elim fun z139 h => h.elim fun z140 h => h.elim fun z141 h => h.elim fun z142 h => h.elim fun z143 h => h.elim fun z144 h => h.elim fun z145 h => h.elim fun z146 h => h.elim fun z147 h => h.elim fun z148 h => h.elim fun z149 h => h.elim fun z150 h => h.elim fun z151 h => h.elim fun z152 h => h.elim fun z153 h => h.elim fun z154 h => h.elim fun z155 h => h.elim fun z156 h => h.elim fun z157 h => h.elim fun z158 h => h.elim fun z159 h => h.elim fun z160 h => h.elim fun z161 h => h.elim fun z162 h => h.elim fun z163 h => h.elim fun z164 h => h.elim fun z165 h => h.elim fun z166 h => h.elim fun z167 h => h.elim fun z168 h => h.elim fun z169 h => h.elim fun z170 h => h.elim fun z171 h => h.elim fun z172 h => h.elim fun z173 h => h.elim fun z174 h => h.elim fun z175 h => h.elim fun z176 h => h.elim fun z177 h => h.elim fun z178 h => h.elim fun z179 h => h.elim fun z180 h => h.elim fun z181 h => h.elim fun z182 h => h.elim fun z183 h => h.elim fun z184 h => h.elim fun z185 h => h.elim fun z186 h => h.elim fun z187 h => h.elim fun z188 h => h.elim fun z189 h => h.elim fun z190 h => h.elim fun z191 h => h.elim fun z192 h => h.elim fun z193 h => h.elim fun z194 h => h.elim fun z195 h => h.elim fun z196 h => h.elim fun z197 h => h.elim fun z198 h => h.elim fun z199 h => h.elim fun z200 h => h.elim fun z201 h => h.elim fun z202 h => h.elim fun z203 h => h.elim fun z204 h => h.elim fun z205 h => h.elim fun z206 h => h.elim fun z207 h => h.elim fun z208 h => h.elim fun z209 h => h.elim fun z210 h => h.elim fun z211 h => h.elim fun z212 h => h.elim fun z213 h => h.elim fun z214 h => h.elim fun z215 h => h.elim fun z216 h => h.elim fun z217 h => h.elim fun z218 h => h.elim fun z219 h => h.elim fun z220 h => h.elim fun z221 h => h.elim fun z222 h => h.elim fun z223 h => h.elim fun z224 h => h.elim fun z225 h => h.elim fun z226 h => h.elim fun z227 h => h.elim fun z228 h => h.elim fun z229 h => h.elim fun z230 h => h.elim fun z231 h => h.elim fun z232 h => h.elim fun z233 h => h.elim fun z234 h => h.elim fun z235 h => h.elim fun z236 h => h.elim fun z237 h => h.elim fun z238 h => h.elim fun z239 h => h.elim fun z240 h => h.elim fun z241 h => h.elim fun z242 h => h.elim fun z243 h => h.elim fun z244 h => h.elim fun z245 h => h.elim fun z246 h => h.elim fun z247 h => h.elim fun z248 h => h.elim fun z249 h => h.elim fun z250 h => h.elim fun z251 h => h.elim fun z252 h => h.elim fun z253 h => Eq.subst (motive := Q) h.symm (k z0 z2 z3 z4 z5 z6 z7 z8 z9 z10 z11 z12 z13 z14 z15 z16 z17 z18 z19 z20 z21 z22 z23 z24 z25 z26 z27 z28 z29 z30 z31 z32 z33 z34 z35 z36 z37 z38 z39 z40 z41 z42 z43 z44 z45 z46 z47 z48 z49 z50 z51 z52 z53 z54 z55 z56 z57 z58 z59 z60 z61 z62 z63 z64 z65 z66 z67 z68 z69 z70 z71 z72 z73 z74 z75 z76 z77 z78 z79 z80 z81 z82 z83 z84 z85 z86 z87 z88 z89 z90 z91 z92 z93 z94 z95 z96 z97 z98 z99 z100 z101 z102 z103 z104 z105 z106 z107 z108 z109 z110 z111 z112 z113 z114 z115 z116 z117 z118 z119 z120 z121 z122 z123 z124 z125 z126 z127 z128 z129 z130 z131 z132 z133 z134 z135 z136 z137 z138 z139 z140 z141 z142 z143 z144 z145 z146 z147 z148 z149 z150 z151 z152 z153 z154 z155 z156 z157 z158 z159 z160 z161 z162 z163 z164 z165 z166 z167 z168 z169 z170 z171 z172 z173 z174 z175 z176 z177 z178 z179 z180 z181 z182 z183 z184 z185 z186 z187 z188 z189 z190 z191 z192 z193 z194 z195 z196 z197 z198 z199 z200 z201 z202 z203 z204 z205 z206 z207 z208 z209 z210 z211 z212 z213 z214 z215 z216 z217 z218 z219 z220 z221 z222 z223 z224 z225 z226 z227 z228 z229 z230 z231 z232 z233 z234 z235 z236 z237 z238 z239 z240 z241 z242 z243 z244 z245 z246 z247 z248 z249 z250 z251 z252 z253)
set_option maxHeartbeats 16000000 in
set_option maxRecDepth 100000 in
theorem elimP5 (g : Nat) (v : Value) (yb : Int) {ts : Array Value} {Q : Array Value → Prop} (h : ∃ z0 z2 z3 z4 z5 z6 z9 z10 z11 z12 z13 z14 z15 z16 z17 z18 z19 z20 z21 z22 z23 z24 z25 z26 z27 z28 z29 z30 z31 z32 z33 z34 z35 z36 z37 z38 z39 z40 z41 z42 z43 z44 z45 z46 z47 z48 z49 z50 z51 z52 z53 z54 z55 z56 z57 z58 z59 z60 z61 z62 z63 z64 z65 z66 z67 z68 z69 z70 z71 z72 z73 z74 z75 z76 z77 z78 z79 z80 z81 z82 z83 z84 z85 z86 z87 z88 z89 z90 z91 z92 z93 z94 z95 z96 z97 z98 z99 z100 z101 z102 z103 z104 z105 z106 z107 z108 z109 z110 z111 z112 z113 z114 z115 z116 z117 z118 z119 z120 z121 z122 z123 z124 z125 z126 z127 z128 z129 z130 z131 z132 z133 z134 z135 z136 z137 z138 z139 z140 z141 z142 z143 z144 z145 z146 z147 z148 z149 z150 z151 z152 z153 z154 z155 z156 z157 z158 z159 z160 z161 z162 z163 z164 z165 z166 z167 z168 z169 z170 z171 z172 z173 z174 z175 z176 z177 z178 z179 z180 z181 z182 z183 z184 z185 z186 z187 z188 z189 z190 z191 z192 z193 z194 z195 z196 z197 z198 z199 z200 z201 z202 z203 z204 z205 z206 z207 z208 z209 z210 z211 z212 z213 z214 z215 z216 z217 z218 z219 z220 z221 z222 z223 z224 z225 z226 z227 z228 z229 z230 z231 z232 z233 z234 z235 z236 z237 z238 z239 z240 z241 z242 z243 z244 z245 z246 z247 z248 z249 z250 z251 z252 z253, ts = #[z0, .pointer (some ⟨g, 0, none⟩), z2, z3, z4, z5, z6, v, .int .u8 yb, z9, z10, z11, z12, z13, z14, z15, z16, z17, z18, z19, z20, z21, z22, z23, z24, z25, z26, z27, z28, z29, z30, z31, z32, z33, z34, z35, z36, z37, z38, z39, z40, z41, z42, z43, z44, z45, z46, z47, z48, z49, z50, z51, z52, z53, z54, z55, z56, z57, z58, z59, z60, z61, z62, z63, z64, z65, z66, z67, z68, z69, z70, z71, z72, z73, z74, z75, z76, z77, z78, z79, z80, z81, z82, z83, z84, z85, z86, z87, z88, z89, z90, z91, z92, z93, z94, z95, z96, z97, z98, z99, z100, z101, z102, z103, z104, z105, z106, z107, z108, z109, z110, z111, z112, z113, z114, z115, z116, z117, z118, z119, z120, z121, z122, z123, z124, z125, z126, z127, z128, z129, z130, z131, z132, z133, z134, z135, z136, z137, z138, z139, z140, z141, z142, z143, z144, z145, z146, z147, z148, z149, z150, z151, z152, z153, z154, z155, z156, z157, z158, z159, z160, z161, z162, z163, z164, z165, z166, z167, z168, z169, z170, z171, z172, z173, z174, z175, z176, z177, z178, z179, z180, z181, z182, z183, z184, z185, z186, z187, z188, z189, z190, z191, z192, z193, z194, z195, z196, z197, z198, z199, z200, z201, z202, z203, z204, z205, z206, z207, z208, z209, z210, z211, z212, z213, z214, z215, z216, z217, z218, z219, z220, z221, z222, z223, z224, z225, z226, z227, z228, z229, z230, z231, z232, z233, z234, z235, z236, z237, z238, z239, z240, z241, z242, z243, z244, z245, z246, z247, z248, z249, z250, z251, z252, z253]) (k : ∀ z0 z2 z3 z4 z5 z6 z9 z10 z11 z12 z13 z14 z15 z16 z17 z18 z19 z20 z21 z22 z23 z24 z25 z26 z27 z28 z29 z30 z31 z32 z33 z34 z35 z36 z37 z38 z39 z40 z41 z42 z43 z44 z45 z46 z47 z48 z49 z50 z51 z52 z53 z54 z55 z56 z57 z58 z59 z60 z61 z62 z63 z64 z65 z66 z67 z68 z69 z70 z71 z72 z73 z74 z75 z76 z77 z78 z79 z80 z81 z82 z83 z84 z85 z86 z87 z88 z89 z90 z91 z92 z93 z94 z95 z96 z97 z98 z99 z100 z101 z102 z103 z104 z105 z106 z107 z108 z109 z110 z111 z112 z113 z114 z115 z116 z117 z118 z119 z120 z121 z122 z123 z124 z125 z126 z127 z128 z129 z130 z131 z132 z133 z134 z135 z136 z137 z138 z139 z140 z141 z142 z143 z144 z145 z146 z147 z148 z149 z150 z151 z152 z153 z154 z155 z156 z157 z158 z159 z160 z161 z162 z163 z164 z165 z166 z167 z168 z169 z170 z171 z172 z173 z174 z175 z176 z177 z178 z179 z180 z181 z182 z183 z184 z185 z186 z187 z188 z189 z190 z191 z192 z193 z194 z195 z196 z197 z198 z199 z200 z201 z202 z203 z204 z205 z206 z207 z208 z209 z210 z211 z212 z213 z214 z215 z216 z217 z218 z219 z220 z221 z222 z223 z224 z225 z226 z227 z228 z229 z230 z231 z232 z233 z234 z235 z236 z237 z238 z239 z240 z241 z242 z243 z244 z245 z246 z247 z248 z249 z250 z251 z252 z253 : Value, Q #[z0, .pointer (some ⟨g, 0, none⟩), z2, z3, z4, z5, z6, v, .int .u8 yb, z9, z10, z11, z12, z13, z14, z15, z16, z17, z18, z19, z20, z21, z22, z23, z24, z25, z26, z27, z28, z29, z30, z31, z32, z33, z34, z35, z36, z37, z38, z39, z40, z41, z42, z43, z44, z45, z46, z47, z48, z49, z50, z51, z52, z53, z54, z55, z56, z57, z58, z59, z60, z61, z62, z63, z64, z65, z66, z67, z68, z69, z70, z71, z72, z73, z74, z75, z76, z77, z78, z79, z80, z81, z82, z83, z84, z85, z86, z87, z88, z89, z90, z91, z92, z93, z94, z95, z96, z97, z98, z99, z100, z101, z102, z103, z104, z105, z106, z107, z108, z109, z110, z111, z112, z113, z114, z115, z116, z117, z118, z119, z120, z121, z122, z123, z124, z125, z126, z127, z128, z129, z130, z131, z132, z133, z134, z135, z136, z137, z138, z139, z140, z141, z142, z143, z144, z145, z146, z147, z148, z149, z150, z151, z152, z153, z154, z155, z156, z157, z158, z159, z160, z161, z162, z163, z164, z165, z166, z167, z168, z169, z170, z171, z172, z173, z174, z175, z176, z177, z178, z179, z180, z181, z182, z183, z184, z185, z186, z187, z188, z189, z190, z191, z192, z193, z194, z195, z196, z197, z198, z199, z200, z201, z202, z203, z204, z205, z206, z207, z208, z209, z210, z211, z212, z213, z214, z215, z216, z217, z218, z219, z220, z221, z222, z223, z224, z225, z226, z227, z228, z229, z230, z231, z232, z233, z234, z235, z236, z237, z238, z239, z240, z241, z242, z243, z244, z245, z246, z247, z248, z249, z250, z251, z252, z253]) : Q ts :=
  h.elim fun z0 h => h.elim fun z2 h => h.elim fun z3 h => h.elim fun z4 h => h.elim fun z5 h => h.elim fun z6 h => h.elim fun z9 h => h.elim fun z10 h => h.elim fun z11 h => h.elim fun z12 h => h.elim fun z13 h => h.elim fun z14 h => h.elim fun z15 h => h.elim fun z16 h => h.elim fun z17 h => h.elim fun z18 h => h.elim fun z19 h => h.elim fun z20 h => h.elim fun z21 h => h.elim fun z22 h => h.elim fun z23 h => h.elim fun z24 h => h.elim fun z25 h => h.elim fun z26 h => h.elim fun z27 h => h.elim fun z28 h => h.elim fun z29 h => h.elim fun z30 h => h.elim fun z31 h => h.elim fun z32 h => h.elim fun z33 h => h.elim fun z34 h => h.elim fun z35 h => h.elim fun z36 h => h.elim fun z37 h => h.elim fun z38 h => h.elim fun z39 h => h.elim fun z40 h => h.elim fun z41 h => h.elim fun z42 h => h.elim fun z43 h => h.elim fun z44 h => h.elim fun z45 h => h.elim fun z46 h => h.elim fun z47 h => h.elim fun z48 h => h.elim fun z49 h => h.elim fun z50 h => h.elim fun z51 h => h.elim fun z52 h => h.elim fun z53 h => h.elim fun z54 h => h.elim fun z55 h => h.elim fun z56 h => h.elim fun z57 h => h.elim fun z58 h => h.elim fun z59 h => h.elim fun z60 h => h.elim fun z61 h => h.elim fun z62 h => h.elim fun z63 h => h.elim fun z64 h => h.elim fun z65 h => h.elim fun z66 h => h.elim fun z67 h => h.elim fun z68 h => h.elim fun z69 h => h.elim fun z70 h => h.elim fun z71 h => h.elim fun z72 h => h.elim fun z73 h => h.elim fun z74 h => h.elim fun z75 h => h.elim fun z76 h => h.elim fun z77 h => h.elim fun z78 h => h.elim fun z79 h => h.elim fun z80 h => h.elim fun z81 h => h.elim fun z82 h => h.elim fun z83 h => h.elim fun z84 h => h.elim fun z85 h => h.elim fun z86 h => h.elim fun z87 h => h.elim fun z88 h => h.elim fun z89 h => h.elim fun z90 h => h.elim fun z91 h => h.elim fun z92 h => h.elim fun z93 h => h.elim fun z94 h => h.elim fun z95 h => h.elim fun z96 h => h.elim fun z97 h => h.elim fun z98 h => h.elim fun z99 h => h.elim fun z100 h => h.elim fun z101 h => h.elim fun z102 h => h.elim fun z103 h => h.elim fun z104 h => h.elim fun z105 h => h.elim fun z106 h => h.elim fun z107 h => h.elim fun z108 h => h.elim fun z109 h => h.elim fun z110 h => h.elim fun z111 h => h.elim fun z112 h => h.elim fun z113 h => h.elim fun z114 h => h.elim fun z115 h => h.elim fun z116 h => h.elim fun z117 h => h.elim fun z118 h => h.elim fun z119 h => h.elim fun z120 h => h.elim fun z121 h => h.elim fun z122 h => h.elim fun z123 h => h.elim fun z124 h => h.elim fun z125 h => h.elim fun z126 h => h.elim fun z127 h => h.elim fun z128 h => h.elim fun z129 h => h.elim fun z130 h => h.elim fun z131 h => h.elim fun z132 h => h.elim fun z133 h => h.elim fun z134 h => h.elim fun z135 h => h.elim fun z136 h => h.elim fun z137 h => h.elim fun z138 h => h.elim fun z139 h => h.elim fun z140 h => h.elim fun z141 h => h.elim fun z142 h => h.elim fun z143 h => h.elim fun z144 h => h.elim fun z145 h => h.elim fun z146 h => h.elim fun z147 h => h.elim fun z148 h => h.elim fun z149 h => h.elim fun z150 h => h.elim fun z151 h => h.elim fun z152 h => h.elim fun z153 h => h.elim fun z154 h => h.elim fun z155 h => h.elim fun z156 h => h.elim fun z157 h => h.elim fun z158 h => h.elim fun z159 h => h.elim fun z160 h => h.elim fun z161 h => h.elim fun z162 h => h.elim fun z163 h => h.elim fun z164 h => h.elim fun z165 h => h.elim fun z166 h => h.elim fun z167 h => h.elim fun z168 h => h.elim fun z169 h => h.elim fun z170 h => h.elim fun z171 h => h.elim fun z172 h => h.elim fun z173 h => h.elim fun z174 h => h.elim fun z175 h => h.elim fun z176 h => h.elim fun z177 h => h.elim fun z178 h => h.elim fun z179 h => h.elim fun z180 h => h.elim fun z181 h => h.elim fun z182 h => h.elim fun z183 h => h.elim fun z184 h => h.elim fun z185 h => h.elim fun z186 h => h.elim fun z187 h => h.elim fun z188 h => h.elim fun z189 h => h.elim fun z190 h => h.elim fun z191 h => h.elim fun z192 h => h.elim fun z193 h => h.elim fun z194 h => h.elim fun z195 h => h.elim fun z196 h => h.elim fun z197 h => h.elim fun z198 h => h.elim fun z199 h => h.elim fun z200 h => h.elim fun z201 h => h.elim fun z202 h => h.elim fun z203 h => h.elim fun z204 h => h.elim fun z205 h => h.elim fun z206 h => h.elim fun z207 h => h.elim fun z208 h => h.elim fun z209 h => h.elim fun z210 h => h.elim fun z211 h => h.elim fun z212 h => h.elim fun z213 h => h.elim fun z214 h => h.elim fun z215 h => h.elim fun z216 h => h.elim fun z217 h => h.elim fun z218 h => h.elim fun z219 h => h.elim fun z220 h => h.elim fun z221 h => h.elim fun z222 h => h.elim fun z223 h => h.elim fun z224 h => h.elim fun z225 h => h.elim fun z226 h => h.elim fun z227 h => h.elim fun z228 h => h.elim fun z229 h => h.elim fun z230 h => h.elim fun z231 h => h.elim fun z232 h => h.elim fun z233 h => h.elim fun z234 h => h.elim fun z235 h => h.elim fun z236 h => h.elim fun z237 h => h.elim fun z238 h => h.elim fun z239 h => h.elim fun z240 h => h.elim fun z241 h => h.elim fun z242 h => h.elim fun z243 h => h.elim fun z244 h => h.elim fun z245 h => h.elim fun z246 h => h.elim fun z247 h => h.elim fun z248 h => h.elim fun z249 h => h.elim fun z250 h => h.elim fun z251 h => h.elim fun z252 h => h.elim fun z253 h => Eq.subst (motive := Q) h.symm (k z0 z2 z3 z4 z5 z6 z9 z10 z11 z12 z13 z14 z15 z16 z17 z18 z19 z20 z21 z22 z23 z24 z25 z26 z27 z28 z29 z30 z31 z32 z33 z34 z35 z36 z37 z38 z39 z40 z41 z42 z43 z44 z45 z46 z47 z48 z49 z50 z51 z52 z53 z54 z55 z56 z57 z58 z59 z60 z61 z62 z63 z64 z65 z66 z67 z68 z69 z70 z71 z72 z73 z74 z75 z76 z77 z78 z79 z80 z81 z82 z83 z84 z85 z86 z87 z88 z89 z90 z91 z92 z93 z94 z95 z96 z97 z98 z99 z100 z101 z102 z103 z104 z105 z106 z107 z108 z109 z110 z111 z112 z113 z114 z115 z116 z117 z118 z119 z120 z121 z122 z123 z124 z125 z126 z127 z128 z129 z130 z131 z132 z133 z134 z135 z136 z137 z138 z139 z140 z141 z142 z143 z144 z145 z146 z147 z148 z149 z150 z151 z152 z153 z154 z155 z156 z157 z158 z159 z160 z161 z162 z163 z164 z165 z166 z167 z168 z169 z170 z171 z172 z173 z174 z175 z176 z177 z178 z179 z180 z181 z182 z183 z184 z185 z186 z187 z188 z189 z190 z191 z192 z193 z194 z195 z196 z197 z198 z199 z200 z201 z202 z203 z204 z205 z206 z207 z208 z209 z210 z211 z212 z213 z214 z215 z216 z217 z218 z219 z220 z221 z222 z223 z224 z225 z226 z227 z228 z229 z230 z231 z232 z233 z234 z235 z236 z237 z238 z239 z240 z241 z242 z243 z244 z245 z246 z247 z248 z249 z250 z251 z252 z253)
end Go.Proofs.Ytbemfgpdfacdpaa.Ms
namespace Go.Proofs.Ytbemfgpdfacdpaa.Ms
open Go.RowKit Go.Proofs.Ytbemfgpdfacdpaa.Pr Go.Proofs.YtbemfgpdfacdpaaW.PrintWords Go.Proofs.YtbemfgpdfacdpaaW.PrintLast Go.Proofs.YtbemfgpdfacdpaaW.PrintMore
open Go.Proofs.Ytbemfgpdfacdpaa.QT (OwnAt)
set_option linter.unusedVariables false
set_option linter.unusedSimpArgs false
set_option maxHeartbeats 16000000 in
set_option maxRecDepth 100000 in
theorem refenc_t3 (kd fr tt tm ix lt cm : Int) (ys : Bool) (es : List S46) (si st : Int) (sm : List Int) (sd : ByteArray) (A8 : Option Addr) (n8 c8 : Nat) (A11 : Option Addr) (n11 c11 : Nat) (w : World) (R : Option (List Int)) (g : Nat) (w1 : World) (hE : k46.C w A8 es.length es) (hE1 : n8 = es.length) (hl : es.length ≤ 20) (h9 : ∀ e ∈ es, e.f4.length ≤ 20000) (hR : (∃ e ∈ es, oddE e = true) → R = none) (hX : w1.heap[g]? = some (.cells #[.int .i64 kd, .int .i64 fr, .int .i64 tt, .int .i64 tm, .int .i64 ix, .int .i64 lt, .int .i64 cm, .bool ys, .slice A8 n8 c8, .int .i64 si, .int .i64 st, .slice A11 n11 c11, .string sd] 27 (0, 0))) (hW : Below w.heap.size w w1) (hG : w.heap.size ≤ g)
    (hT : (∀ e ∈ es, oddE e = false) → ∀ w2 : World, w2.heap[g]? = some (.cells #[.int .i64 kd, .int .i64 fr, .int .i64 tt, .int .i64 tm, .int .i64 ix, .int .i64 lt, .int .i64 cm, .bool ys, .slice A8 n8 c8, .int .i64 si, .int .i64 st, .slice A11 n11 c11, .string sd] 27 (0, 0)) → Below w.heap.size w w2 → ∀ ts : Array Value, (∃ z0 z2 z3 z4 z5 z6 z7 z8 z9 z10 z11 z12 z13 z14 z15 z16 z17 z18 z19 z20 z21 z22 z23 z24 z25 z26 z27 z28 z29 z30 z31 z32 z33 z34 z35 z36 z37 z38 z39 z40 z41 z42 z43 z44 z45 z46 z47 z48 z49 z50 z51 z52 z53 z54 z55 z56 z57 z58 z59 z60 z61 z62 z63 z64 z65 z66 z67 z68 z69 z70 z71 z72 z73 z74 z75 z76 z77 z78 z79 z80 z81 z82 z83 z84 z85 z86 z87 z88 z89 z90 z91 z92 z93 z94 z95 z96 z97 z98 z99 z100 z101 z102 z103 z104 z105 z106 z107 z108 z109 z110 z111 z112 z113 z114 z115 z116 z117 z118 z119 z120 z121 z122 z123 z124 z125 z126 z127 z128 z129 z130 z131 z132 z133 z134 z135 z136 z137 z138 z139 z140 z141 z142 z143 z144 z145 z146 z147 z148 z149 z150 z151 z152 z153 z154 z155 z156 z157 z158 z159 z160 z161 z162 z163 z164 z165 z166 z167 z168 z169 z170 z171 z172 z173 z174 z175 z176 z177 z178 z179 z180 z181 z182 z183 z184 z185 z186 z187 z188 z189 z190 z191 z192 z193 z194 z195 z196 z197 z198 z199 z200 z201 z202 z203 z204 z205 z206 z207 z208 z209 z210 z211 z212 z213 z214 z215 z216 z217 z218 z219 z220 z221 z222 z223 z224 z225 z226 z227 z228 z229 z230 z231 z232 z233 z234 z235 z236 z237 z238 z239 z240 z241 z242 z243 z244 z245 z246 z247 z248 z249 z250 z251 z252 z253, ts = #[z0, .pointer (some ⟨g, 0, none⟩), z2, z3, z4, z5, z6, z7, z8, z9, z10, z11, z12, z13, z14, z15, z16, z17, z18, z19, z20, z21, z22, z23, z24, z25, z26, z27, z28, z29, z30, z31, z32, z33, z34, z35, z36, z37, z38, z39, z40, z41, z42, z43, z44, z45, z46, z47, z48, z49, z50, z51, z52, z53, z54, z55, z56, z57, z58, z59, z60, z61, z62, z63, z64, z65, z66, z67, z68, z69, z70, z71, z72, z73, z74, z75, z76, z77, z78, z79, z80, z81, z82, z83, z84, z85, z86, z87, z88, z89, z90, z91, z92, z93, z94, z95, z96, z97, z98, z99, z100, z101, z102, z103, z104, z105, z106, z107, z108, z109, z110, z111, z112, z113, z114, z115, z116, z117, z118, z119, z120, z121, z122, z123, z124, z125, z126, z127, z128, z129, z130, z131, z132, z133, z134, z135, z136, z137, z138, z139, z140, z141, z142, z143, z144, z145, z146, z147, z148, z149, z150, z151, z152, z153, z154, z155, z156, z157, z158, z159, z160, z161, z162, z163, z164, z165, z166, z167, z168, z169, z170, z171, z172, z173, z174, z175, z176, z177, z178, z179, z180, z181, z182, z183, z184, z185, z186, z187, z188, z189, z190, z191, z192, z193, z194, z195, z196, z197, z198, z199, z200, z201, z202, z203, z204, z205, z206, z207, z208, z209, z210, z211, z212, z213, z214, z215, z216, z217, z218, z219, z220, z221, z222, z223, z224, z225, z226, z227, z228, z229, z230, z231, z232, z233, z234, z235, z236, z237, z238, z239, z240, z241, z242, z243, z244, z245, z246, z247, z248, z249, z250, z251, z252, z253]) → Code.wp Try.prog (encT 4) (bodyPost Try.prog Try.f11 (EncQ w R)) ⟨ts, []⟩ w2)
    (z0 z2 z3 z4 z5 z6 z7 z8 z9 z10 z11 z12 z13 z14 z15 z16 z17 z18 z19 z20 z21 z22 z23 z24 z25 z26 z27 z28 z29 z30 z31 z32 z33 z34 z35 z36 z37 z38 z39 z40 z41 z42 z43 z44 z45 z46 z47 z48 z49 z50 z51 z52 z53 z54 z55 z56 z57 z58 z59 z60 z61 z62 z63 z64 z65 z66 z67 z68 z69 z70 z71 z72 z73 z74 z75 z76 z77 z78 z79 z80 z81 z82 z83 z84 z85 z86 z87 z88 z89 z90 z91 z92 z93 z94 z95 z96 z97 z98 z99 z100 z101 z102 z103 z104 z105 z106 z107 z108 z109 z110 z111 z112 z113 z114 z115 z116 z117 z118 z119 z120 z121 z122 z123 z124 z125 z126 z127 z128 z129 z130 z131 z132 z133 z134 z135 z136 z137 z138 z139 z140 z141 z142 z143 z144 z145 z146 z147 z148 z149 z150 z151 z152 z153 z154 z155 z156 z157 z158 z159 z160 z161 z162 z163 z164 z165 z166 z167 z168 z169 z170 z171 z172 z173 z174 z175 z176 z177 z178 z179 z180 z181 z182 z183 z184 z185 z186 z187 z188 z189 z190 z191 z192 z193 z194 z195 z196 z197 z198 z199 z200 z201 z202 z203 z204 z205 z206 z207 z208 z209 z210 z211 z212 z213 z214 z215 z216 z217 z218 z219 z220 z221 z222 z223 z224 z225 z226 z227 z228 z229 z230 z231 z232 z233 z234 z235 z236 z237 z238 z239 z240 z241 z242 z243 z244 z245 z246 z247 z248 z249 z250 z251 z252 z253 : Value) : Code.wp Try.prog (encT 3) (bodyPost Try.prog Try.f11 (EncQ w R)) ⟨#[z0, .pointer (some ⟨g, 0, none⟩), z2, z3, z4, z5, z6, z7, z8, z9, z10, z11, z12, z13, z14, z15, z16, z17, z18, z19, z20, z21, z22, z23, z24, z25, z26, z27, z28, z29, z30, z31, z32, z33, z34, z35, z36, z37, z38, z39, z40, z41, z42, z43, z44, z45, z46, z47, z48, z49, z50, z51, z52, z53, z54, z55, z56, z57, z58, z59, z60, z61, z62, z63, z64, z65, z66, z67, z68, z69, z70, z71, z72, z73, z74, z75, z76, z77, z78, z79, z80, z81, z82, z83, z84, z85, z86, z87, z88, z89, z90, z91, z92, z93, z94, z95, z96, z97, z98, z99, z100, z101, z102, z103, z104, z105, z106, z107, z108, z109, z110, z111, z112, z113, z114, z115, z116, z117, z118, z119, z120, z121, z122, z123, z124, z125, z126, z127, z128, z129, z130, z131, z132, z133, z134, z135, z136, z137, z138, z139, z140, z141, z142, z143, z144, z145, z146, z147, z148, z149, z150, z151, z152, z153, z154, z155, z156, z157, z158, z159, z160, z161, z162, z163, z164, z165, z166, z167, z168, z169, z170, z171, z172, z173, z174, z175, z176, z177, z178, z179, z180, z181, z182, z183, z184, z185, z186, z187, z188, z189, z190, z191, z192, z193, z194, z195, z196, z197, z198, z199, z200, z201, z202, z203, z204, z205, z206, z207, z208, z209, z210, z211, z212, z213, z214, z215, z216, z217, z218, z219, z220, z221, z222, z223, z224, z225, z226, z227, z228, z229, z230, z231, z232, z233, z234, z235, z236, z237, z238, z239, z240, z241, z242, z243, z244, z245, z246, z247, z248, z249, z250, z251, z252, z253], []⟩ w1 := by
  have HT := Aside0.mk hT
  have HE := Aside0.mk hE
  have HL := Aside0.mk hl
  have HN := Aside0.mk hE1
  have H9 := Aside0.mk h9
  have HR := Aside0.mk hR
  have HX1 := Aside0.mk hX
  have HW1 := Aside0.mk hW
  clear hT hE hl hE1 h9 hR hX hW hG
  conv => arg 2; whnf
  go_upto_region 4 with (fail)
  rename_i K1 hK1 K2 hK2
  have HK1 := Aside0.mk hK1
  clear hK1
  go_wp2_with fail
  go_loopg [5] n8 (fun gk v5 wr => ∃ (i : Nat), v5 = .int .i64 i ∧ Aside0 (i ≤ n8) ∧ Aside0 (n8 - i ≤ gk) ∧ Aside0 (∀ e ∈ es.take i, oddE e = false) ∧ Aside0 (wr.heap[g]? = some (.cells #[.int .i64 kd, .int .i64 fr, .int .i64 tt, .int .i64 tm, .int .i64 ix, .int .i64 lt, .int .i64 cm, .bool ys, .slice A8 n8 c8, .int .i64 si, .int .i64 st, .slice A11 n11 c11, .string sd] 27 (0, 0))) ∧ Aside0 (Below w.heap.size w wr))
  case atStart => exact ⟨0, rfl, ⟨by omega⟩, ⟨by omega⟩, ⟨fun e h => by simp at h⟩, HX1, HW1⟩
  case round =>
    clear HX1 HW1
    obtain ⟨i, rfl, HI, HGK, HO, HX, HW⟩ := hrel
    have q8 : wr.cell? ⟨g, 8, none⟩ = some (.slice A8 n8 c8) := blk_cell HX.out 8
    have hi := HI.out
    have h20 : n8 ≤ 20 := by have := HL.out; have := HN.out; omega
    by_cases hlt : i < n8
    · have l1 : decide (i < n8) = true := decide_eq_true hlt
      have l2 : (i : Int) < (n8 : Int) := by omega
      have hCr : k46.C wr A8 es.length es := Kd.C_below HE.out HW.out
      obtain ⟨ad, A4, c4, hA1, q0, q1, q2, q3, q4, q5, q6⟩ := at_T46 hCr (i : Int) (by omega) (by rw [← HN.out]; omega)
      subst hA1
      simp only [Int.toNat_natCast] at q0 q1 q2 q3 q4
      obtain ⟨E, hE⟩ : ∃ E, E = rd_T46 es (i : Int) := ⟨_, rfl⟩
      rw [← hE] at q0 q1 q2 q3 q4 q5 q6
      have hmem : E ∈ es := by
        rw [hE]; have h := HN.out; simp only [rd_T46, Int.toNat_natCast, List.getD_eq_getElem?_getD, List.getElem?_eq_getElem (show i < es.length by omega), Option.getD_some]; exact List.getElem_mem _
      have htk : ∀ e ∈ es.take (i + 1), oddE e = false ∨ e = E := by
        intro e he
        rw [List.take_succ_eq_append_getElem (show i < es.length by have := HN.out; omega)] at he
        rcases List.mem_append.1 he with he | he
        · exact .inl (HO.out e he)
        · refine .inr ?_
          rw [List.mem_singleton.1 he, hE]
          simp only [rd_T46, Int.toNat_natCast, List.getD_eq_getElem?_getD, List.getElem?_eq_getElem (show i < es.length by have := HN.out; omega), Option.getD_some]
      have HC4 := Aside0.mk q6
      have HD4 := Aside0.mk q5
      have HM := Aside0.mk hmem
      have HTK := Aside0.mk htk
      obtain ⟨n4, hn4⟩ : ∃ n4, n4 = E.f4.length := ⟨_, rfl⟩
      rw [← hn4] at q4
      have HN4 := Aside0.mk hn4
      have HLT := Aside0.mk hlt
      clear hn4 hE q5 q6 hmem htk hCr hlt
      go_wp2_with fail
      have qc := odd_calls E A4 n4 c4 wr HC4.out HN4.out (by rw [HN4.out]; exact HD4.out) (by have := H9.out E HM.out; omega)
      obtain ⟨b, hb⟩ : ∃ b, b = oddE E := ⟨_, rfl⟩
      rw [← hb] at qc
      have HB := Aside0.mk hb
      refine qc.mono ?_
      rintro e w2 ⟨rfl, hb2⟩
      dsimp only
      clear qc
      have HX2 := Aside0.mk (blk_below HX.out hb2)
      have HW2 : Aside0 (Below w.heap.size w w2) := ⟨HW.out.trans (hb2.mono HW.out.size)⟩
      clear hb hb2 HX HW q8 q0 q1 q2 q3 q4
      cases b
      · go_wp2_with fail
        go_roundg (n8 - (i + 1))
        case measure => have := HLT.out; have := HGK.out; omega
        case rel =>
          exact ⟨i + 1, by go_num, ⟨by have := HLT.out; omega⟩, ⟨Nat.le_refl _⟩, ⟨fun e he => (HTK.out e he).elim id (fun h => by rw [h]; exact HB.out.symm)⟩, HX2, HW2⟩
      · go_wp2
        rw [HR.out ⟨E, HM.out, HB.out.symm⟩]
        exact bodyPost_ret (v := .tuple #[.slice none 0 0, .int .i64 1]) (by simp [results, Try.results11, go_sem]) rfl (encQ_none HW2.out)
    · have l1 : decide (i < n8) = false := decide_eq_false hlt
      have l2 : ¬ (i : Int) < (n8 : Int) := by omega
      have hall : ∀ e ∈ es, oddE e = false := by have := HO.out; rw [List.take_of_length_le (by have := HN.out; omega)] at this; exact this
      have HALL := Aside0.mk hall
      clear hall
      go_wp2
      refine HK1.out _ _ ?_
      exact HT.out HALL.out _ HX.out HW.out _ ⟨_, _, _, _, _, _, _, _, _, _, _, _, _, _, _, _, _, _, _, _, _, _, _, _, _, _, _, _, _, _, _, _, _, _, _, _, _, _, _, _, _, _, _, _, _, _, _, _, _, _, _, _, _, _, _, _, _, _, _, _, _, _, _, _, _, _, _, _, _, _, _, _, _, _, _, _, _, _, _, _, _, _, _, _, _, _, _, _, _, _, _, _, _, _, _, _, _, _, _, _, _, _, _, _, _, _, _, _, _, _, _, _, _, _, _, _, _, _, _, _, _, _, _, _, _, _, _, _, _, _, _, _, _, _, _, _, _, _, _, _, _, _, _, _, _, _, _, _, _, _, _, _, _, _, _, _, _, _, _, _, _, _, _, _, _, _, _, _, _, _, _, _, _, _, _, _, _, _, _, _, _, _, _, _, _, _, _, _, _, _, _, _, _, _, _, _, _, _, _, _, _, _, _, _, _, _, _, _, _, _, _, _, _, _, _, _, _, _, _, _, _, _, _, _, _, _, _, _, _, _, _, _, _, _, _, _, _, _, _, _, _, _, _, _, _, _, _, _, _, _, _, _, _, rfl⟩
set_option maxHeartbeats 16000000 in
set_option maxRecDepth 100000 in
theorem refenc_t4 (kd fr tt tm ix lt cm : Int) (ys : Bool) (es : List S46) (si st : Int) (sm : List Int) (sd : ByteArray) (A8 : Option Addr) (n8 c8 : Nat) (A11 : Option Addr) (n11 c11 : Nat) (w : World) (R : Option (List Int)) (g : Nat) (w1 : World) (hS : (Kd.int .i64).C w A11 sm.length sm) (hS1 : n11 = sm.length) (hl : sm.length ≤ 20) (hR : (∃ v ∈ sm, v < 0) → R = none) (hX : w1.heap[g]? = some (.cells #[.int .i64 kd, .int .i64 fr, .int .i64 tt, .int .i64 tm, .int .i64 ix, .int .i64 lt, .int .i64 cm, .bool ys, .slice A8 n8 c8, .int .i64 si, .int .i64 st, .slice A11 n11 c11, .string sd] 27 (0, 0))) (hW : Below w.heap.size w w1) (hG : w.heap.size ≤ g)
    (hT : (∀ v ∈ sm, ¬ v < 0) → ∀ w2 : World, w2.heap[g]? = some (.cells #[.int .i64 kd, .int .i64 fr, .int .i64 tt, .int .i64 tm, .int .i64 ix, .int .i64 lt, .int .i64 cm, .bool ys, .slice A8 n8 c8, .int .i64 si, .int .i64 st, .slice A11 n11 c11, .string sd] 27 (0, 0)) → Below w.heap.size w w2 → ∀ ts : Array Value, (∃ z0 z2 z3 z4 z5 z6 z7 z8 z9 z10 z11 z12 z13 z14 z15 z16 z17 z18 z19 z20 z21 z22 z23 z24 z25 z26 z27 z28 z29 z30 z31 z32 z33 z34 z35 z36 z37 z38 z39 z40 z41 z42 z43 z44 z45 z46 z47 z48 z49 z50 z51 z52 z53 z54 z55 z56 z57 z58 z59 z60 z61 z62 z63 z64 z65 z66 z67 z68 z69 z70 z71 z72 z73 z74 z75 z76 z77 z78 z79 z80 z81 z82 z83 z84 z85 z86 z87 z88 z89 z90 z91 z92 z93 z94 z95 z96 z97 z98 z99 z100 z101 z102 z103 z104 z105 z106 z107 z108 z109 z110 z111 z112 z113 z114 z115 z116 z117 z118 z119 z120 z121 z122 z123 z124 z125 z126 z127 z128 z129 z130 z131 z132 z133 z134 z135 z136 z137 z138 z139 z140 z141 z142 z143 z144 z145 z146 z147 z148 z149 z150 z151 z152 z153 z154 z155 z156 z157 z158 z159 z160 z161 z162 z163 z164 z165 z166 z167 z168 z169 z170 z171 z172 z173 z174 z175 z176 z177 z178 z179 z180 z181 z182 z183 z184 z185 z186 z187 z188 z189 z190 z191 z192 z193 z194 z195 z196 z197 z198 z199 z200 z201 z202 z203 z204 z205 z206 z207 z208 z209 z210 z211 z212 z213 z214 z215 z216 z217 z218 z219 z220 z221 z222 z223 z224 z225 z226 z227 z228 z229 z230 z231 z232 z233 z234 z235 z236 z237 z238 z239 z240 z241 z242 z243 z244 z245 z246 z247 z248 z249 z250 z251 z252 z253, ts = #[z0, .pointer (some ⟨g, 0, none⟩), z2, z3, z4, z5, z6, z7, z8, z9, z10, z11, z12, z13, z14, z15, z16, z17, z18, z19, z20, z21, z22, z23, z24, z25, z26, z27, z28, z29, z30, z31, z32, z33, z34, z35, z36, z37, z38, z39, z40, z41, z42, z43, z44, z45, z46, z47, z48, z49, z50, z51, z52, z53, z54, z55, z56, z57, z58, z59, z60, z61, z62, z63, z64, z65, z66, z67, z68, z69, z70, z71, z72, z73, z74, z75, z76, z77, z78, z79, z80, z81, z82, z83, z84, z85, z86, z87, z88, z89, z90, z91, z92, z93, z94, z95, z96, z97, z98, z99, z100, z101, z102, z103, z104, z105, z106, z107, z108, z109, z110, z111, z112, z113, z114, z115, z116, z117, z118, z119, z120, z121, z122, z123, z124, z125, z126, z127, z128, z129, z130, z131, z132, z133, z134, z135, z136, z137, z138, z139, z140, z141, z142, z143, z144, z145, z146, z147, z148, z149, z150, z151, z152, z153, z154, z155, z156, z157, z158, z159, z160, z161, z162, z163, z164, z165, z166, z167, z168, z169, z170, z171, z172, z173, z174, z175, z176, z177, z178, z179, z180, z181, z182, z183, z184, z185, z186, z187, z188, z189, z190, z191, z192, z193, z194, z195, z196, z197, z198, z199, z200, z201, z202, z203, z204, z205, z206, z207, z208, z209, z210, z211, z212, z213, z214, z215, z216, z217, z218, z219, z220, z221, z222, z223, z224, z225, z226, z227, z228, z229, z230, z231, z232, z233, z234, z235, z236, z237, z238, z239, z240, z241, z242, z243, z244, z245, z246, z247, z248, z249, z250, z251, z252, z253]) → Code.wp Try.prog (encT 5) (bodyPost Try.prog Try.f11 (EncQ w R)) ⟨ts, []⟩ w2)
    (z0 z2 z3 z4 z5 z6 z7 z8 z9 z10 z11 z12 z13 z14 z15 z16 z17 z18 z19 z20 z21 z22 z23 z24 z25 z26 z27 z28 z29 z30 z31 z32 z33 z34 z35 z36 z37 z38 z39 z40 z41 z42 z43 z44 z45 z46 z47 z48 z49 z50 z51 z52 z53 z54 z55 z56 z57 z58 z59 z60 z61 z62 z63 z64 z65 z66 z67 z68 z69 z70 z71 z72 z73 z74 z75 z76 z77 z78 z79 z80 z81 z82 z83 z84 z85 z86 z87 z88 z89 z90 z91 z92 z93 z94 z95 z96 z97 z98 z99 z100 z101 z102 z103 z104 z105 z106 z107 z108 z109 z110 z111 z112 z113 z114 z115 z116 z117 z118 z119 z120 z121 z122 z123 z124 z125 z126 z127 z128 z129 z130 z131 z132 z133 z134 z135 z136 z137 z138 z139 z140 z141 z142 z143 z144 z145 z146 z147 z148 z149 z150 z151 z152 z153 z154 z155 z156 z157 z158 z159 z160 z161 z162 z163 z164 z165 z166 z167 z168 z169 z170 z171 z172 z173 z174 z175 z176 z177 z178 z179 z180 z181 z182 z183 z184 z185 z186 z187 z188 z189 z190 z191 z192 z193 z194 z195 z196 z197 z198 z199 z200 z201 z202 z203 z204 z205 z206 z207 z208 z209 z210 z211 z212 z213 z214 z215 z216 z217 z218 z219 z220 z221 z222 z223 z224 z225 z226 z227 z228 z229 z230 z231 z232 z233 z234 z235 z236 z237 z238 z239 z240 z241 z242 z243 z244 z245 z246 z247 z248 z249 z250 z251 z252 z253 : Value) : Code.wp Try.prog (encT 4) (bodyPost Try.prog Try.f11 (EncQ w R)) ⟨#[z0, .pointer (some ⟨g, 0, none⟩), z2, z3, z4, z5, z6, z7, z8, z9, z10, z11, z12, z13, z14, z15, z16, z17, z18, z19, z20, z21, z22, z23, z24, z25, z26, z27, z28, z29, z30, z31, z32, z33, z34, z35, z36, z37, z38, z39, z40, z41, z42, z43, z44, z45, z46, z47, z48, z49, z50, z51, z52, z53, z54, z55, z56, z57, z58, z59, z60, z61, z62, z63, z64, z65, z66, z67, z68, z69, z70, z71, z72, z73, z74, z75, z76, z77, z78, z79, z80, z81, z82, z83, z84, z85, z86, z87, z88, z89, z90, z91, z92, z93, z94, z95, z96, z97, z98, z99, z100, z101, z102, z103, z104, z105, z106, z107, z108, z109, z110, z111, z112, z113, z114, z115, z116, z117, z118, z119, z120, z121, z122, z123, z124, z125, z126, z127, z128, z129, z130, z131, z132, z133, z134, z135, z136, z137, z138, z139, z140, z141, z142, z143, z144, z145, z146, z147, z148, z149, z150, z151, z152, z153, z154, z155, z156, z157, z158, z159, z160, z161, z162, z163, z164, z165, z166, z167, z168, z169, z170, z171, z172, z173, z174, z175, z176, z177, z178, z179, z180, z181, z182, z183, z184, z185, z186, z187, z188, z189, z190, z191, z192, z193, z194, z195, z196, z197, z198, z199, z200, z201, z202, z203, z204, z205, z206, z207, z208, z209, z210, z211, z212, z213, z214, z215, z216, z217, z218, z219, z220, z221, z222, z223, z224, z225, z226, z227, z228, z229, z230, z231, z232, z233, z234, z235, z236, z237, z238, z239, z240, z241, z242, z243, z244, z245, z246, z247, z248, z249, z250, z251, z252, z253], []⟩ w1 := by
  have HT := Aside0.mk hT
  have HS := Aside0.mk hS
  have HL := Aside0.mk hl
  have HN := Aside0.mk hS1
  have HR := Aside0.mk hR
  have HX1 := Aside0.mk hX
  have HW1 := Aside0.mk hW
  clear hT hS hl hS1 hR hX hW hG
  conv => arg 2; whnf
  go_upto_region 9 with (fail)
  rename_i K1 hK1 K2 hK2
  have HK1 := Aside0.mk hK1
  clear hK1
  go_wp2_with fail
  go_loopg [6] n11 (fun gk v6 wr => ∃ (i : Nat), v6 = .int .i64 i ∧ Aside0 (i ≤ n11) ∧ Aside0 (n11 - i ≤ gk) ∧ Aside0 (∀ v ∈ sm.take i, ¬ v < 0) ∧ Aside0 (wr.heap[g]? = some (.cells #[.int .i64 kd, .int .i64 fr, .int .i64 tt, .int .i64 tm, .int .i64 ix, .int .i64 lt, .int .i64 cm, .bool ys, .slice A8 n8 c8, .int .i64 si, .int .i64 st, .slice A11 n11 c11, .string sd] 27 (0, 0))) ∧ Aside0 (Below w.heap.size w wr))
  case atStart => exact ⟨0, rfl, ⟨by omega⟩, ⟨by omega⟩, ⟨fun e h => by simp at h⟩, HX1, HW1⟩
  case round =>
    clear HX1 HW1
    obtain ⟨i, rfl, HI, HGK, HO, HX, HW⟩ := hrel
    have q8 : wr.cell? ⟨g, 11, none⟩ = some (.slice A11 n11 c11) := blk_cell HX.out 11
    have hi := HI.out
    have h20 : n11 ≤ 20 := by have := HL.out; have := HN.out; omega
    by_cases hlt : i < n11
    · have l1 : decide (i < n11) = true := decide_eq_true hlt
      have l2 : (i : Int) < (n11 : Int) := by omega
      obtain ⟨ad, hA1, hcell⟩ := Kd.at_int HS.out (i : Int) (by omega) (by rw [← HN.out]; omega)
      subst hA1
      have hc2 : wr.cell? (ad.add i) = some (.int .i64 (sm.getD i 0)) := (HW.out.cell (World.block_lt_of_cell? w _ hcell)).trans hcell
      have hmem : sm.getD i 0 ∈ sm := by
        have h := HN.out; simp only [List.getD_eq_getElem?_getD, List.getElem?_eq_getElem (show i < sm.length by omega), Option.getD_some]; exact List.getElem_mem _
      have htk : ∀ e ∈ sm.take (i + 1), ¬ e < 0 ∨ e = sm.getD i 0 := by
        intro e he
        rw [List.take_succ_eq_append_getElem (show i < sm.length by have := HN.out; omega)] at he
        rcases List.mem_append.1 he with he | he
        · exact .inl (HO.out e he)
        · refine .inr ?_
          rw [List.mem_singleton.1 he]
          simp only [List.getD_eq_getElem?_getD, List.getElem?_eq_getElem (show i < sm.length by have := HN.out; omega), Option.getD_some]
      obtain ⟨x, hx⟩ : ∃ x, x = sm.getD i 0 := ⟨_, rfl⟩
      rw [← hx] at hc2 hmem htk
      have HM := Aside0.mk hmem
      have HTK := Aside0.mk htk
      have HLT := Aside0.mk hlt
      clear hx hmem htk hlt hcell
      by_cases hx0 : x < 0
      · have l3 : decide (x < 0) = true := decide_eq_true hx0
        have HX0 := Aside0.mk hx0
        clear hx0
        go_wp2
        rw [HR.out ⟨x, HM.out, HX0.out⟩]
        exact bodyPost_ret (v := .tuple #[.slice none 0 0, .int .i64 1]) (by simp [results, Try.results11, go_sem]) rfl (encQ_none HW.out)
      · have l3 : decide (x < 0) = false := decide_eq_false hx0
        have HX0 := Aside0.mk hx0
        clear hx0
        go_wp2_with fail
        go_roundg (n11 - (i + 1))
        case measure => have := HLT.out; have := HGK.out; omega
        case rel =>
          exact ⟨i + 1, by go_num, ⟨by have := HLT.out; omega⟩, ⟨Nat.le_refl _⟩, ⟨fun e he => (HTK.out e he).elim id (fun h => by rw [h]; exact HX0.out)⟩, HX, HW⟩
    · have l1 : decide (i < n11) = false := decide_eq_false hlt
      have l2 : ¬ (i : Int) < (n11 : Int) := by omega
      have hall : ∀ e ∈ sm, ¬ e < 0 := by have := HO.out; rw [List.take_of_length_le (by have := HN.out; omega)] at this; exact this
      have HALL := Aside0.mk hall
      clear hall
      go_wp2
      refine HK1.out _ _ ?_
      exact HT.out HALL.out _ HX.out HW.out _ ⟨_, _, _, _, _, _, _, _, _, _, _, _, _, _, _, _, _, _, _, _, _, _, _, _, _, _, _, _, _, _, _, _, _, _, _, _, _, _, _, _, _, _, _, _, _, _, _, _, _, _, _, _, _, _, _, _, _, _, _, _, _, _, _, _, _, _, _, _, _, _, _, _, _, _, _, _, _, _, _, _, _, _, _, _, _, _, _, _, _, _, _, _, _, _, _, _, _, _, _, _, _, _, _, _, _, _, _, _, _, _, _, _, _, _, _, _, _, _, _, _, _, _, _, _, _, _, _, _, _, _, _, _, _, _, _, _, _, _, _, _, _, _, _, _, _, _, _, _, _, _, _, _, _, _, _, _, _, _, _, _, _, _, _, _, _, _, _, _, _, _, _, _, _, _, _, _, _, _, _, _, _, _, _, _, _, _, _, _, _, _, _, _, _, _, _, _, _, _, _, _, _, _, _, _, _, _, _, _, _, _, _, _, _, _, _, _, _, _, _, _, _, _, _, _, _, _, _, _, _, _, _, _, _, _, _, _, _, _, _, _, _, _, _, _, _, _, _, _, _, _, _, _, _, rfl⟩
end Go.Proofs.Ytbemfgpdfacdpaa.Ms
namespace Go.Proofs.Ytbemfgpdfacdpaa.Ms
open Go.RowKit Go.Proofs.Ytbemfgpdfacdpaa.Pr Go.Proofs.YtbemfgpdfacdpaaW.PrintWords Go.Proofs.YtbemfgpdfacdpaaW.PrintLast Go.Proofs.YtbemfgpdfacdpaaW.PrintMore
open Go.Proofs.Ytbemfgpdfacdpaa.QT (OwnAt)
set_option linter.unusedVariables false
set_option linter.unusedSimpArgs false
set_option maxHeartbeats 16000000 in
set_option maxRecDepth 100000 in
theorem refenc_t5 (kd fr tt tm ix lt cm : Int) (ys : Bool) (es : List S46) (si st : Int) (sm : List Int) (sd : ByteArray) (A8 : Option Addr) (n8 c8 : Nat) (A11 : Option Addr) (n11 c11 : Nat) (w : World) (R : Option (List Int)) (g : Nat) (w1 : World) (hX : w1.heap[g]? = some (.cells #[.int .i64 kd, .int .i64 fr, .int .i64 tt, .int .i64 tm, .int .i64 ix, .int .i64 lt, .int .i64 cm, .bool ys, .slice A8 n8 c8, .int .i64 si, .int .i64 st, .slice A11 n11 c11, .string sd] 27 (0, 0))) (hW : Below w.heap.size w w1) (hG : w.heap.size ≤ g)
    (hT : ∀ (v : Value) (B : Nat) (w2 : World), w2.heap[g]? = some (.cells #[.int .i64 kd, .int .i64 fr, .int .i64 tt, .int .i64 tm, .int .i64 ix, .int .i64 lt, .int .i64 cm, .bool ys, .slice A8 n8 c8, .int .i64 si, .int .i64 st, .slice A11 n11 c11, .string sd] 27 (0, 0)) → Below w.heap.size w w2 → w.heap.size ≤ B → B ≤ w2.heap.size → RB w w2 B v (wnum kd 1 ++ wints [fr, tt, tm]) → ∀ (yb : Int) (ts : Array Value), yb = (if ys then 1 else 0) → (∃ z0 z2 z3 z4 z5 z6 z9 z10 z11 z12 z13 z14 z15 z16 z17 z18 z19 z20 z21 z22 z23 z24 z25 z26 z27 z28 z29 z30 z31 z32 z33 z34 z35 z36 z37 z38 z39 z40 z41 z42 z43 z44 z45 z46 z47 z48 z49 z50 z51 z52 z53 z54 z55 z56 z57 z58 z59 z60 z61 z62 z63 z64 z65 z66 z67 z68 z69 z70 z71 z72 z73 z74 z75 z76 z77 z78 z79 z80 z81 z82 z83 z84 z85 z86 z87 z88 z89 z90 z91 z92 z93 z94 z95 z96 z97 z98 z99 z100 z101 z102 z103 z104 z105 z106 z107 z108 z109 z110 z111 z112 z113 z114 z115 z116 z117 z118 z119 z120 z121 z122 z123 z124 z125 z126 z127 z128 z129 z130 z131 z132 z133 z134 z135 z136 z137 z138 z139 z140 z141 z142 z143 z144 z145 z146 z147 z148 z149 z150 z151 z152 z153 z154 z155 z156 z157 z158 z159 z160 z161 z162 z163 z164 z165 z166 z167 z168 z169 z170 z171 z172 z173 z174 z175 z176 z177 z178 z179 z180 z181 z182 z183 z184 z185 z186 z187 z188 z189 z190 z191 z192 z193 z194 z195 z196 z197 z198 z199 z200 z201 z202 z203 z204 z205 z206 z207 z208 z209 z210 z211 z212 z213 z214 z215 z216 z217 z218 z219 z220 z221 z222 z223 z224 z225 z226 z227 z228 z229 z230 z231 z232 z233 z234 z235 z236 z237 z238 z239 z240 z241 z242 z243 z244 z245 z246 z247 z248 z249 z250 z251 z252 z253, ts = #[z0, .pointer (some ⟨g, 0, none⟩), z2, z3, z4, z5, z6, v, .int .u8 yb, z9, z10, z11, z12, z13, z14, z15, z16, z17, z18, z19, z20, z21, z22, z23, z24, z25, z26, z27, z28, z29, z30, z31, z32, z33, z34, z35, z36, z37, z38, z39, z40, z41, z42, z43, z44, z45, z46, z47, z48, z49, z50, z51, z52, z53, z54, z55, z56, z57, z58, z59, z60, z61, z62, z63, z64, z65, z66, z67, z68, z69, z70, z71, z72, z73, z74, z75, z76, z77, z78, z79, z80, z81, z82, z83, z84, z85, z86, z87, z88, z89, z90, z91, z92, z93, z94, z95, z96, z97, z98, z99, z100, z101, z102, z103, z104, z105, z106, z107, z108, z109, z110, z111, z112, z113, z114, z115, z116, z117, z118, z119, z120, z121, z122, z123, z124, z125, z126, z127, z128, z129, z130, z131, z132, z133, z134, z135, z136, z137, z138, z139, z140, z141, z142, z143, z144, z145, z146, z147, z148, z149, z150, z151, z152, z153, z154, z155, z156, z157, z158, z159, z160, z161, z162, z163, z164, z165, z166, z167, z168, z169, z170, z171, z172, z173, z174, z175, z176, z177, z178, z179, z180, z181, z182, z183, z184, z185, z186, z187, z188, z189, z190, z191, z192, z193, z194, z195, z196, z197, z198, z199, z200, z201, z202, z203, z204, z205, z206, z207, z208, z209, z210, z211, z212, z213, z214, z215, z216, z217, z218, z219, z220, z221, z222, z223, z224, z225, z226, z227, z228, z229, z230, z231, z232, z233, z234, z235, z236, z237, z238, z239, z240, z241, z242, z243, z244, z245, z246, z247, z248, z249, z250, z251, z252, z253]) → Code.wp Try.prog (encT 11) (bodyPost Try.prog Try.f11 (EncQ w R)) ⟨ts, []⟩ w2)
    (z0 z2 z3 z4 z5 z6 z7 z8 z9 z10 z11 z12 z13 z14 z15 z16 z17 z18 z19 z20 z21 z22 z23 z24 z25 z26 z27 z28 z29 z30 z31 z32 z33 z34 z35 z36 z37 z38 z39 z40 z41 z42 z43 z44 z45 z46 z47 z48 z49 z50 z51 z52 z53 z54 z55 z56 z57 z58 z59 z60 z61 z62 z63 z64 z65 z66 z67 z68 z69 z70 z71 z72 z73 z74 z75 z76 z77 z78 z79 z80 z81 z82 z83 z84 z85 z86 z87 z88 z89 z90 z91 z92 z93 z94 z95 z96 z97 z98 z99 z100 z101 z102 z103 z104 z105 z106 z107 z108 z109 z110 z111 z112 z113 z114 z115 z116 z117 z118 z119 z120 z121 z122 z123 z124 z125 z126 z127 z128 z129 z130 z131 z132 z133 z134 z135 z136 z137 z138 z139 z140 z141 z142 z143 z144 z145 z146 z147 z148 z149 z150 z151 z152 z153 z154 z155 z156 z157 z158 z159 z160 z161 z162 z163 z164 z165 z166 z167 z168 z169 z170 z171 z172 z173 z174 z175 z176 z177 z178 z179 z180 z181 z182 z183 z184 z185 z186 z187 z188 z189 z190 z191 z192 z193 z194 z195 z196 z197 z198 z199 z200 z201 z202 z203 z204 z205 z206 z207 z208 z209 z210 z211 z212 z213 z214 z215 z216 z217 z218 z219 z220 z221 z222 z223 z224 z225 z226 z227 z228 z229 z230 z231 z232 z233 z234 z235 z236 z237 z238 z239 z240 z241 z242 z243 z244 z245 z246 z247 z248 z249 z250 z251 z252 z253 : Value) : Code.wp Try.prog (encT 5) (bodyPost Try.prog Try.f11 (EncQ w R)) ⟨#[z0, .pointer (some ⟨g, 0, none⟩), z2, z3, z4, z5, z6, z7, z8, z9, z10, z11, z12, z13, z14, z15, z16, z17, z18, z19, z20, z21, z22, z23, z24, z25, z26, z27, z28, z29, z30, z31, z32, z33, z34, z35, z36, z37, z38, z39, z40, z41, z42, z43, z44, z45, z46, z47, z48, z49, z50, z51, z52, z53, z54, z55, z56, z57, z58, z59, z60, z61, z62, z63, z64, z65, z66, z67, z68, z69, z70, z71, z72, z73, z74, z75, z76, z77, z78, z79, z80, z81, z82, z83, z84, z85, z86, z87, z88, z89, z90, z91, z92, z93, z94, z95, z96, z97, z98, z99, z100, z101, z102, z103, z104, z105, z106, z107, z108, z109, z110, z111, z112, z113, z114, z115, z116, z117, z118, z119, z120, z121, z122, z123, z124, z125, z126, z127, z128, z129, z130, z131, z132, z133, z134, z135, z136, z137, z138, z139, z140, z141, z142, z143, z144, z145, z146, z147, z148, z149, z150, z151, z152, z153, z154, z155, z156, z157, z158, z159, z160, z161, z162, z163, z164, z165, z166, z167, z168, z169, z170, z171, z172, z173, z174, z175, z176, z177, z178, z179, z180, z181, z182, z183, z184, z185, z186, z187, z188, z189, z190, z191, z192, z193, z194, z195, z196, z197, z198, z199, z200, z201, z202, z203, z204, z205, z206, z207, z208, z209, z210, z211, z212, z213, z214, z215, z216, z217, z218, z219, z220, z221, z222, z223, z224, z225, z226, z227, z228, z229, z230, z231, z232, z233, z234, z235, z236, z237, z238, z239, z240, z241, z242, z243, z244, z245, z246, z247, z248, z249, z250, z251, z252, z253], []⟩ w1 := by
  have HT := Aside0.mk hT
  have HX1 := Aside0.mk hX
  have HW1 := Aside0.mk hW
  have HG := Aside0.mk hG
  clear hT hX hW hG
  have q0 : w1.cell? ⟨g, 0, none⟩ = some (.int .i64 kd) := blk_cell HX1.out 0
  conv => arg 2; whnf
  go_upto_region 15 with (fail)
  obtain ⟨w2, hw2⟩ : ∃ w2, w2 = w1.alloc (.cells #[.int .u8 (kd % 256)] 5) := ⟨_, rfl⟩
  change Code.wp _ _ _ _ (w1.alloc (.cells #[.int .u8 (kd % 256)] 5))
  rw [← hw2]
  obtain ⟨B, hB⟩ : ∃ B, B = w1.heap.size := ⟨_, rfl⟩
  rw [← hB]
  have HX2 : Aside0 (w2.heap[g]? = some (.cells #[.int .i64 kd, .int .i64 fr, .int .i64 tt, .int .i64 tm, .int .i64 ix, .int .i64 lt, .int .i64 cm, .bool ys, .slice A8 n8 c8, .int .i64 si, .int .i64 st, .slice A11 n11 c11, .string sd] 27 (0, 0))) := ⟨by rw [hw2]; exact blk_alloc HX1.out _⟩
  have HW2 : Aside0 (Below w.heap.size w w2) := ⟨by rw [hw2]; exact below_alloc HW1.out _⟩
  have HBB : Aside0 (w.heap.size ≤ B) := ⟨by rw [hB]; exact HW1.out.size⟩
  have HBW2 : Aside0 (B ≤ w2.heap.size) := ⟨by rw [hw2, hB]; exact (below_alloc (Below.refl _ _) _).size⟩
  have HR2 : Aside0 (RB w w2 B (.slice (some ⟨B, 0, none⟩) 1 1) (wnum kd 1)) := ⟨by
    refine Kd.R_of_own ⟨rfl, .inr ⟨B, 1, #[.int .u8 (kd % 256)], rfl, HBB.out, by rw [hw2, hB]; exact blk_new _ _, Nat.le_refl _, by decide, rfl, ?_⟩⟩ (fun k hk => by cases hk; exact Nat.le_refl _)
    simp only [wnum, Int.pow_zero, Int.ediv_one]
    rw [show kd % 18446744073709551616 % 256 = kd % 256 by omega]; rfl⟩
  clear hw2 hB HX1 HW1 q0
  have q1 : w2.cell? ⟨g, 1, none⟩ = some (.int .i64 fr) := blk_cell HX2.out 1
  go_wp2_with fail
  refine (lay_calls w w2 B _ (wnum kd 1) fr 8 HR2.out HW2.out HBW2.out (by decide) (by simp [wnum_length])).mono ?_
  rintro e w3 ⟨v3, rfl, hr, hb, hk⟩
  dsimp only
  have HR3 := Aside0.mk hr
  have HW3 := Aside0.mk hb
  have HX3 := Aside0.mk (hk.blk HX2.out (by decide))
  have HBW3 : Aside0 (B ≤ w3.heap.size) := ⟨Nat.le_trans HBW2.out hk.size⟩
  clear hr hb hk HR2 HW2 HX2 HBW2
  clear q1
  have q2 : w3.cell? ⟨g, 2, none⟩ = some (.int .i64 tt) := blk_cell HX3.out 2
  go_wp2_with fail
  refine (lay_calls w w3 B v3 (wnum kd 1 ++ wnum fr 8) tt 8 HR3.out HW3.out HBW3.out (by decide) (by simp [wnum_length])).mono ?_
  rintro e w4 ⟨v4, rfl, hr, hb, hk⟩
  dsimp only
  have HR4 := Aside0.mk hr
  have HW4 := Aside0.mk hb
  have HX4 := Aside0.mk (hk.blk HX3.out (by decide))
  have HBW4 : Aside0 (B ≤ w4.heap.size) := ⟨Nat.le_trans HBW3.out hk.size⟩
  clear hr hb hk HR3 HW3 HX3 HBW3
  clear q2
  have q3 : w4.cell? ⟨g, 3, none⟩ = some (.int .i64 tm) := blk_cell HX4.out 3
  go_wp2_with fail
  refine (lay_calls w w4 B v4 (wnum kd 1 ++ wnum fr 8 ++ wnum tt 8) tm 8 HR4.out HW4.out HBW4.out (by decide) (by simp [wnum_length])).mono ?_
  rintro e w5 ⟨v5, rfl, hr, hb, hk⟩
  dsimp only
  have HR5 := Aside0.mk hr
  have HW5 := Aside0.mk hb
  have HX5 := Aside0.mk (hk.blk HX4.out (by decide))
  have HBW5 : Aside0 (B ≤ w5.heap.size) := ⟨Nat.le_trans HBW4.out hk.size⟩
  clear hr hb hk HR4 HW4 HX4 HBW4
  clear q3
  have q7 : w5.cell? ⟨g, 7, none⟩ = some (.bool ys) := blk_cell HX5.out 7
  have HRR : Aside0 (RB w w5 B v5 (wnum kd 1 ++ wints [fr, tt, tm])) := ⟨by have := HR5.out; simpa [wints] using this⟩
  go_upto_region 19 with (fail)
  rename_i K1 hK1 K2 hK2
  have HK1 := Aside0.mk hK1
  clear hK1
  cases ys
  · go_wp2
    refine HK1.out _ _ ?_
    exact HT.out v5 B w5 HX5.out HW5.out HBB.out HBW5.out HRR.out _ _ rfl ⟨_, _, _, _, _, _, _, _, _, _, _, _, _, _, _, _, _, _, _, _, _, _, _, _, _, _, _, _, _, _, _, _, _, _, _, _, _, _, _, _, _, _, _, _, _, _, _, _, _, _, _, _, _, _, _, _, _, _, _, _, _, _, _, _, _, _, _, _, _, _, _, _, _, _, _, _, _, _, _, _, _, _, _, _, _, _, _, _, _, _, _, _, _, _, _, _, _, _, _, _, _, _, _, _, _, _, _, _, _, _, _, _, _, _, _, _, _, _, _, _, _, _, _, _, _, _, _, _, _, _, _, _, _, _, _, _, _, _, _, _, _, _, _, _, _, _, _, _, _, _, _, _, _, _, _, _, _, _, _, _, _, _, _, _, _, _, _, _, _, _, _, _, _, _, _, _, _, _, _, _, _, _, _, _, _, _, _, _, _, _, _, _, _, _, _, _, _, _, _, _, _, _, _, _, _, _, _, _, _, _, _, _, _, _, _, _, _, _, _, _, _, _, _, _, _, _, _, _, _, _, _, _, _, _, _, _, _, _, _, _, _, _, _, _, _, _, _, _, _, _, _, rfl⟩
  · go_wp2
    refine HK1.out _ _ ?_
    exact HT.out v5 B w5 HX5.out HW5.out HBB.out HBW5.out HRR.out _ _ rfl ⟨_, _, _, _, _, _, _, _, _, _, _, _, _, _, _, _, _, _, _, _, _, _, _, _, _, _, _, _, _, _, _, _, _, _, _, _, _, _, _, _, _, _, _, _, _, _, _, _, _, _, _, _, _, _, _, _, _, _, _, _, _, _, _, _, _, _, _, _, _, _, _, _, _, _, _, _, _, _, _, _, _, _, _, _, _, _, _, _, _, _, _, _, _, _, _, _, _, _, _, _, _, _, _, _, _, _, _, _, _, _, _, _, _, _, _, _, _, _, _, _, _, _, _, _, _, _, _, _, _, _, _, _, _, _, _, _, _, _, _, _, _, _, _, _, _, _, _, _, _, _, _, _, _, _, _, _, _, _, _, _, _, _, _, _, _, _, _, _, _, _, _, _, _, _, _, _, _, _, _, _, _, _, _, _, _, _, _, _, _, _, _, _, _, _, _, _, _, _, _, _, _, _, _, _, _, _, _, _, _, _, _, _, _, _, _, _, _, _, _, _, _, _, _, _, _, _, _, _, _, _, _, _, _, _, _, _, _, _, _, _, _, _, _, _, _, _, _, _, _, _, _, rfl⟩
end Go.Proofs.Ytbemfgpdfacdpaa.Ms
