/- 6 texts of the proof, put together, less what is not used; what a tool printed stands among them. -/
import Derived.SizedLaws
import Derived.ChangeSlices
import Derived.Test.YtbemfgpdfacdpaaMFld13
namespace Go.Proofs.Ytbemfgpdfacdpaa.Ms
open Go.RowKit Go.Proofs.Ytbemfgpdfacdpaa.Pr Go.Proofs.YtbemfgpdfacdpaaW.PrintWords Go.Proofs.YtbemfgpdfacdpaaW.PrintLast Go.Proofs.YtbemfgpdfacdpaaW.PrintMore
open Go.Proofs.Ytbemfgpdfacdpaa.QT (OwnAt)
set_option linter.unusedVariables false
set_option linter.unusedSimpArgs false
def enc36.T36 : Bool × List (List Nat × List Nat) := (true, [([], []), ([], []), ([1], [1]), ([0, 2], [0, 2]), ([], []), ([4], [4]), ([5], [5]), ([3, 6, 3], [3, 6]), ([7, 7, 0, 1, 2, 3, 4, 5, 6, 7], [0, 7])])
def enc36.B36 : List Nat := [0, 0, 2, 7, 0, 16, 48, 127, 255]
theorem enc36.tab36 : rtab .any (opsOf Try.f11 36) = enc36.T36 := by kernel_rfl
theorem enc36.bits36 : waitsOk enc36.T36.2 enc36.B36 = true := by kernel_rfl
set_option maxHeartbeats 16000000 in
set_option maxRecDepth 100000 in
theorem refenc_k4 (fr tt tm ix lt cm : Int) (ys : Bool) (es : List S46) (si st : Int) (sm : List Int) (sd : ByteArray) (A8 : Option Addr) (n8 c8 : Nat) (A11 : Option Addr) (n11 c11 : Nat) (w : World) (R : Option (List Int)) (g : Nat) (w1 : World) (v : Value) (B : Nat) (l : List Int) (hX : w1.heap[g]? = some (.cells #[.int .i64 4, .int .i64 fr, .int .i64 tt, .int .i64 tm, .int .i64 ix, .int .i64 lt, .int .i64 cm, .bool ys, .slice A8 n8 c8, .int .i64 si, .int .i64 st, .slice A11 n11 c11, .string sd] 27 (0, 0))) (hW : Below w.heap.size w w1) (hBB : w.heap.size ≤ B) (hBW : B ≤ w1.heap.size) (hR : RB w w1 B v l) (hl : l.length ≤ 100) (yb : Int) (hRR : R = some (l ++ ([yb] ++ wints [ix])))
    (z0 z2 z3 z4 z5 z6 z9 z10 z11 z12 z13 z14 z15 z16 z17 z18 z19 z20 z21 z22 z23 z24 z25 z26 z27 z28 z29 z30 z31 z32 z33 z34 z35 z36 z37 z38 z39 z40 z41 z42 z43 z44 z45 z46 z47 z48 z49 z50 z51 z52 z53 z54 z55 z56 z57 z58 z59 z60 z61 z62 z63 z64 z65 z66 z67 z68 z69 z70 z71 z72 z73 z74 z75 z76 z77 z78 z79 z80 z81 z82 z83 z84 z85 z86 z87 z88 z89 z90 z91 z92 z93 z94 z95 z96 z97 z98 z99 z100 z101 z102 z103 z104 z105 z106 z107 z108 z109 z110 z111 z112 z113 z114 z115 z116 z117 z118 z119 z120 z121 z122 z123 z124 z125 z126 z127 z128 z129 z130 z131 z132 z133 z134 z135 z136 z137 z138 z139 z140 z141 z142 z143 z144 z145 z146 z147 z148 z149 z150 z151 z152 z153 z154 z155 z156 z157 z158 z159 z160 z161 z162 z163 z164 z165 z166 z167 z168 z169 z170 z171 z172 z173 z174 z175 z176 z177 z178 z179 z180 z181 z182 z183 z184 z185 z186 z187 z188 z189 z190 z191 z192 z193 z194 z195 z196 z197 z198 z199 z200 z201 z202 z203 z204 z205 z206 z207 z208 z209 z210 z211 z212 z213 z214 z215 z216 z217 z218 z219 z220 z221 z222 z223 z224 z225 z226 z227 z228 z229 z230 z231 z232 z233 z234 z235 z236 z237 z238 z239 z240 z241 z242 z243 z244 z245 z246 z247 z248 z249 z250 z251 z252 z253 : Value) : Code.wp Try.prog (encT 11) (bodyPost Try.prog Try.f11 (EncQ w R)) ⟨#[z0, .pointer (some ⟨g, 0, none⟩), z2, z3, z4, z5, z6, v, .int .u8 yb, z9, z10, z11, z12, z13, z14, z15, z16, z17, z18, z19, z20, z21, z22, z23, z24, z25, z26, z27, z28, z29, z30, z31, z32, z33, z34, z35, z36, z37, z38, z39, z40, z41, z42, z43, z44, z45, z46, z47, z48, z49, z50, z51, z52, z53, z54, z55, z56, z57, z58, z59, z60, z61, z62, z63, z64, z65, z66, z67, z68, z69, z70, z71, z72, z73, z74, z75, z76, z77, z78, z79, z80, z81, z82, z83, z84, z85, z86, z87, z88, z89, z90, z91, z92, z93, z94, z95, z96, z97, z98, z99, z100, z101, z102, z103, z104, z105, z106, z107, z108, z109, z110, z111, z112, z113, z114, z115, z116, z117, z118, z119, z120, z121, z122, z123, z124, z125, z126, z127, z128, z129, z130, z131, z132, z133, z134, z135, z136, z137, z138, z139, z140, z141, z142, z143, z144, z145, z146, z147, z148, z149, z150, z151, z152, z153, z154, z155, z156, z157, z158, z159, z160, z161, z162, z163, z164, z165, z166, z167, z168, z169, z170, z171, z172, z173, z174, z175, z176, z177, z178, z179, z180, z181, z182, z183, z184, z185, z186, z187, z188, z189, z190, z191, z192, z193, z194, z195, z196, z197, z198, z199, z200, z201, z202, z203, z204, z205, z206, z207, z208, z209, z210, z211, z212, z213, z214, z215, z216, z217, z218, z219, z220, z221, z222, z223, z224, z225, z226, z227, z228, z229, z230, z231, z232, z233, z234, z235, z236, z237, z238, z239, z240, z241, z242, z243, z244, z245, z246, z247, z248, z249, z250, z251, z252, z253], []⟩ w1 := by
  have HX1 := Aside0.mk hX
  have HW := Aside0.mk hW
  have HR := Aside0.mk hR
  have HL := Aside0.mk hl
  have HBB := Aside0.mk hBB
  have HBW := Aside0.mk hBW
  have HRR := Aside0.mk hRR
  clear hX hW hR hl hBB hBW hRR
  have q0 : w1.cell? ⟨g, 0, none⟩ = some (.int .i64 4) := blk_cell HX1.out 0
  conv => arg 2; whnf
  go_upto_region 36 with (fail)
  refine start_ (n := 9) (S := fun w' => True) (ds := []) #[false, false, false, false, false, false, false, false, false] (by kernel_rfl) rfl rfl trivial (fun hHeld => ?_)
  refine with_tabW enc36.tab36 enc36.bits36 (fun HT_ HW_ => ?_)
  have F : Aside0 (Below w.heap.size w w1.drew) := ⟨below_drew HW.out⟩
  have L : Aside0 (LK w1 w1.drew B) := ⟨LK.of_below (below_drew (Below.refl _ _))⟩
  have R0 : Aside0 (RB w w1.drew B v l) := ⟨Kd.R_drew HR.out⟩
  refine inv_at [0, 1, 2, 3, 4, 5, 6, 7, 8] (fun a0_ b a w' => ∃ (gb : Nat) (v1 : Value) (v2 : Value) (m2_ : Value) (m8_ : Value), a = putSel a0_ b [(0, 223, v), (1, 224, .int .u8 yb), (2, 225, m2_), (3, 226, v1), (4, 227, .pointer (some ⟨g, 4, none⟩)), (5, 228, .int .i64 ix), (6, 229, .int .u64 (IntKind.u64.wrap ix)), (7, 230, v2), (8, 7, m8_)] ∧ (Below w.heap.size w w') ∧ (LK w1 w' B) ∧ (b 3 = false → RB w w' B v l) ∧ (b 2 = true → b 3 = false → w'.heap[gb]? = some (.cells #[.int .u8 yb] 5 (0, 0))) ∧ (b 3 = true → b 7 = false → RB w w' B v1 (l ++ [yb])) ∧ (b 7 = true → RB w w' B v2 ((l ++ [yb]) ++ wnum ix 8)) ∧ (b 2 = true → (m2_ : Value) = .slice (some ⟨gb, 0, none⟩) 1 1) ∧ (b 8 = true → (m8_ : Value) = v2)) HT_.out HW_.out (by kernel_rfl) (by kernel_rfl) ?_ ?_ ?_
  · exact ⟨0, .bool false, .bool false, .bool false, .bool false, by simp only [putSel, Bool.false_eq_true, if_false], F.out, L.out, fun _ => R0.out, fun h_ => absurd h_ (by decide), fun h_ => absurd h_ (by decide), fun h_ => absurd h_ (by decide), fun h_ => absurd h_ (by decide), fun h_ => absurd h_ (by decide)⟩
  · skip
    clear F L R0
    refine steps_cons ?_ ?_
    · rintro b a w' ⟨gb, v1, v2, m2_, m8_, ha, Q_F, Q_L, Q_R0, Q_G, Q_R1, Q_R2, Q_X2_, Q_X8_⟩ hb_ hon hoff
      refine ⟨_, rfl, fun K hK => ?_⟩
      have e7 : a.tmps[7]? = some (v) := by rw [ha]; exact (putSel_not (hoff 8 (by kernel_rfl)) rfl).trans rfl
      replace ha := Aside0.mk ha
      have F := Aside0.mk Q_F
      have L := Aside0.mk Q_L
      have R0 := Aside0.mk (Q_R0 (hoff 3 (by kernel_rfl)))
      refine value_ (w1 := w') (v := v) (by rfl) rfl ?_ ?_
      · go_simp
        (try simp only [i64_w])
        try rfl
      refine hK.out _ _ ⟨gb, v1, v2, m2_, m8_, (by rw [ha.out]; exact putSel_upk 0 hb_ rfl rfl rfl), Q_F, Q_L, Q_R0, Q_G, fun h0_ _ => absurd ((hoff 3 (by kernel_rfl)).symm.trans h0_) (by decide), fun h0_ => absurd ((hoff 7 (by kernel_rfl)).symm.trans h0_) (by decide), Q_X2_, fun h0_ => absurd ((hoff 8 (by kernel_rfl)).symm.trans h0_) (by decide)⟩
    refine steps_cons ?_ ?_
    · rintro b a w' ⟨gb, v1, v2, m2_, m8_, ha, Q_F, Q_L, Q_R0, Q_G, Q_R1, Q_R2, Q_X2_, Q_X8_⟩ hb_ hon hoff
      refine ⟨_, rfl, fun K hK => ?_⟩
      have e8 : a.tmps[8]? = some (.int .u8 yb) := by rw [ha]; exact (putSel_off rfl).trans rfl
      replace ha := Aside0.mk ha
      have F := Aside0.mk Q_F
      have L := Aside0.mk Q_L
      have R0 := Aside0.mk (Q_R0 (hoff 3 (by kernel_rfl)))
      refine value_ (w1 := w') (v := .int .u8 yb) (by rfl) rfl ?_ ?_
      · go_simp
        (try simp only [i64_w])
        try rfl
      refine hK.out _ _ ⟨gb, v1, v2, m2_, m8_, (by rw [ha.out]; exact putSel_upk 1 hb_ rfl rfl rfl), Q_F, Q_L, Q_R0, fun h0_ _ => absurd ((hoff 2 (by kernel_rfl)).symm.trans h0_) (by decide), fun h0_ _ => absurd ((hoff 3 (by kernel_rfl)).symm.trans h0_) (by decide), fun h0_ => absurd ((hoff 7 (by kernel_rfl)).symm.trans h0_) (by decide), fun h0_ => absurd ((hoff 2 (by kernel_rfl)).symm.trans h0_) (by decide), fun h0_ => absurd ((hoff 8 (by kernel_rfl)).symm.trans h0_) (by decide)⟩
    refine steps_cons ?_ ?_
    · rintro b a w' ⟨gb, v1, v2, m2_, m8_, ha, Q_F, Q_L, Q_R0, Q_G, Q_R1, Q_R2, Q_X2_, Q_X8_⟩ hb_ hon hoff
      refine ⟨_, rfl, fun K hK => ?_⟩
      have e224 : a.tmps[224]? = some (.int .u8 yb) := by rw [ha]; exact putSel_on (e := (1, 224, .int .u8 yb)) 1 rfl rfl (hon 1 (by kernel_rfl)) rfl
      replace ha := Aside0.mk ha
      have F := Aside0.mk Q_F
      have L := Aside0.mk Q_L
      have R0 := Aside0.mk (Q_R0 (hoff 3 (by kernel_rfl)))
      refine value_ (w1 := w'.alloc (.cells #[.int .u8 yb] 5)) (v := .slice (some ⟨w'.heap.size, 0, none⟩) 1 1) (by rfl) rfl (by go_simp) ?_
      refine hK.out _ _ ⟨w'.heap.size, v1, v2, (.slice (some ⟨w'.heap.size, 0, none⟩) 1 1), m8_, (by rw [ha.out]; exact putSel_upk 2 hb_ rfl rfl rfl), below_alloc F.out _, L.out.trans (LK.of_below (below_alloc (Below.refl _ _) _)), fun _ => Kd.R_alloc R0.out _, fun _ _ => blk_new _ _, fun h0_ _ => absurd ((hoff 3 (by kernel_rfl)).symm.trans h0_) (by decide), fun h0_ => absurd ((hoff 7 (by kernel_rfl)).symm.trans h0_) (by decide), fun _ => rfl, fun h0_ => absurd ((hoff 8 (by kernel_rfl)).symm.trans h0_) (by decide)⟩
    refine steps_cons ?_ ?_
    · rintro b a w' ⟨gb, v1, v2, m2_, m8_, ha, Q_F, Q_L, Q_R0, Q_G, Q_R1, Q_R2, Q_X2_, Q_X8_⟩ hb_ hon hoff
      refine ⟨_, rfl, fun K hK => ?_⟩
      have e223 : a.tmps[223]? = some (v) := by rw [ha]; exact putSel_on (e := (0, 223, v)) 0 rfl rfl (hon 0 (by kernel_rfl)) rfl
      have e225 : a.tmps[225]? = some (m2_) := by rw [ha]; exact putSel_on (e := (2, 225, m2_)) 2 rfl rfl (hon 2 (by kernel_rfl)) rfl
      rw [Q_X2_ (hon 2 (by kernel_rfl))] at e225
      replace ha := Aside0.mk ha
      have F := Aside0.mk Q_F
      have L := Aside0.mk Q_L
      have R0 := Aside0.mk (Q_R0 hb_)
      have G := Aside0.mk (Q_G (hon 2 (by kernel_rfl)) hb_)
      refine append_RB_step (N := some 226) (by rfl) rfl _ _ 30 rfl rfl w w' B v l yb gb (eval_of e223) (eval_of e225) R0.out F.out (Nat.le_trans HBW.out L.out.size) HBB.out G.out (by have := HL.out; omega) ?_
      intro v1_ w1_ hr1 hq1 hk1
      refine hK.out _ _ ⟨gb, v1_, v2, m2_, m8_, (by rw [ha.out]; exact putSel_upk 3 hb_ rfl rfl rfl), hq1, L.out.trans hk1, fun h0_ => absurd ((up_self b 3).symm.trans h0_) (by decide), fun _ h1_ => absurd ((up_self b 3).symm.trans h1_) (by decide), fun _ _ => hr1, fun h0_ => absurd ((hoff 7 (by kernel_rfl)).symm.trans h0_) (by decide), Q_X2_, fun h0_ => absurd ((hoff 8 (by kernel_rfl)).symm.trans h0_) (by decide)⟩
    refine steps_cons ?_ ?_
    · rintro b a w' ⟨gb, v1, v2, m2_, m8_, ha, Q_F, Q_L, Q_R0, Q_G, Q_R1, Q_R2, Q_X2_, Q_X8_⟩ hb_ hon hoff
      refine ⟨_, rfl, fun K hK => ?_⟩
      have e1 : a.tmps[1]? = some (.pointer (some ⟨g, 0, none⟩)) := by rw [ha]; exact (putSel_off rfl).trans rfl
      replace ha := Aside0.mk ha
      have F := Aside0.mk Q_F
      have L := Aside0.mk Q_L
      refine value_ (w1 := w') (v := .pointer (some ⟨g, 4, none⟩)) (by rfl) rfl ?_ ?_
      · go_simp
        (try simp only [i64_w])
        try rfl
      refine hK.out _ _ ⟨gb, v1, v2, m2_, m8_, (by rw [ha.out]; exact putSel_upk 4 hb_ rfl rfl rfl), Q_F, Q_L, Q_R0, Q_G, Q_R1, fun h0_ => absurd ((hoff 7 (by kernel_rfl)).symm.trans h0_) (by decide), Q_X2_, fun h0_ => absurd ((hoff 8 (by kernel_rfl)).symm.trans h0_) (by decide)⟩
    refine steps_cons ?_ ?_
    · rintro b a w' ⟨gb, v1, v2, m2_, m8_, ha, Q_F, Q_L, Q_R0, Q_G, Q_R1, Q_R2, Q_X2_, Q_X8_⟩ hb_ hon hoff
      refine ⟨_, rfl, fun K hK => ?_⟩
      have e227 : a.tmps[227]? = some (.pointer (some ⟨g, 4, none⟩)) := by rw [ha]; exact putSel_on (e := (4, 227, .pointer (some ⟨g, 4, none⟩))) 4 rfl rfl (hon 4 (by kernel_rfl)) rfl
      replace ha := Aside0.mk ha
      have F := Aside0.mk Q_F
      have L := Aside0.mk Q_L
      have m0 : w'.cell? ⟨g, 4, none⟩ = some (.int .i64 ix) := blk_cell (L.out.blk HX1.out (by decide)) 4
      refine value_ (w1 := w') (v := .int .i64 ix) (by rfl) rfl ?_ ?_
      · go_simp
        (try simp only [i64_w])
        try rfl
      refine hK.out _ _ ⟨gb, v1, v2, m2_, m8_, (by rw [ha.out]; exact putSel_upk 5 hb_ rfl rfl rfl), Q_F, Q_L, Q_R0, Q_G, Q_R1, fun h0_ => absurd ((hoff 7 (by kernel_rfl)).symm.trans h0_) (by decide), Q_X2_, fun h0_ => absurd ((hoff 8 (by kernel_rfl)).symm.trans h0_) (by decide)⟩
    refine steps_cons ?_ ?_
    · rintro b a w' ⟨gb, v1, v2, m2_, m8_, ha, Q_F, Q_L, Q_R0, Q_G, Q_R1, Q_R2, Q_X2_, Q_X8_⟩ hb_ hon hoff
      refine ⟨_, rfl, fun K hK => ?_⟩
      have e228 : a.tmps[228]? = some (.int .i64 ix) := by rw [ha]; exact putSel_on (e := (5, 228, .int .i64 ix)) 5 rfl rfl (hon 5 (by kernel_rfl)) rfl
      replace ha := Aside0.mk ha
      have F := Aside0.mk Q_F
      have L := Aside0.mk Q_L
      refine value_ (w1 := w') (v := .int .u64 (IntKind.u64.wrap ix)) (by rfl) rfl ?_ ?_
      · go_simp
        (try simp only [i64_w])
        try rfl
      refine hK.out _ _ ⟨gb, v1, v2, m2_, m8_, (by rw [ha.out]; exact putSel_upk 6 hb_ rfl rfl rfl), Q_F, Q_L, Q_R0, Q_G, Q_R1, fun h0_ => absurd ((hoff 7 (by kernel_rfl)).symm.trans h0_) (by decide), Q_X2_, fun h0_ => absurd ((hoff 8 (by kernel_rfl)).symm.trans h0_) (by decide)⟩
    refine steps_cons ?_ ?_
    · rintro b a w' ⟨gb, v1, v2, m2_, m8_, ha, Q_F, Q_L, Q_R0, Q_G, Q_R1, Q_R2, Q_X2_, Q_X8_⟩ hb_ hon hoff
      refine ⟨_, rfl, fun K hK => ?_⟩
      have e226 : a.tmps[226]? = some (v1) := by rw [ha]; exact putSel_on (e := (3, 226, v1)) 3 rfl rfl (hon 3 (by kernel_rfl)) rfl
      have e229 : a.tmps[229]? = some (.int .u64 (IntKind.u64.wrap ix)) := by rw [ha]; exact putSel_on (e := (6, 229, .int .u64 (IntKind.u64.wrap ix))) 6 rfl rfl (hon 6 (by kernel_rfl)) rfl
      replace ha := Aside0.mk ha
      have F := Aside0.mk Q_F
      have L := Aside0.mk Q_L
      have R1 := Aside0.mk (Q_R1 (hon 3 (by kernel_rfl)) hb_)
      refine goes_ (N := some 230) Try.func26 (by kernel_rfl) rfl #[v1, .int .i64 8, .int .u64 (IntKind.u64.wrap ix)] (by rfl) rfl rfl (by first | (simp only [List.map_toArray, List.map_cons, List.map_nil, Act.eval, Array.getD_eq_getD_getElem?, Option.getD_some, e226, e229]; done) | (simp only [List.map_toArray, List.map_cons, List.map_nil, Act.eval, Array.getD_eq_getD_getElem?, Option.getD_some, e226, e229]; rfl)) ?_
      refine (lay_calls w w' B v1 (l ++ [yb]) ix 8 R1.out F.out (Nat.le_trans HBW.out L.out.size) (by decide) (by have := HL.out; rw [List.length_append, List.length_singleton]; omega)).mono ?_
      rintro e w1_ ⟨v1_, rfl, hr1, hq1, hk1⟩
      refine ⟨_, rfl, ?_⟩
      refine hK.out _ _ ⟨gb, v1, v1_, m2_, m8_, (by rw [ha.out]; exact putSel_upk 7 hb_ rfl rfl rfl), hq1, L.out.trans hk1, fun h0_ => absurd ((hon 3 (by kernel_rfl)).symm.trans h0_) (by decide), fun _ h1_ => absurd ((hon 3 (by kernel_rfl)).symm.trans h1_) (by decide), fun _ h1_ => absurd ((up_self b 7).symm.trans h1_) (by decide), fun _ => hr1, Q_X2_, fun h0_ => absurd ((hoff 8 (by kernel_rfl)).symm.trans h0_) (by decide)⟩
    refine steps_cons ?_ ?_
    · rintro b a w' ⟨gb, v1, v2, m2_, m8_, ha, Q_F, Q_L, Q_R0, Q_G, Q_R1, Q_R2, Q_X2_, Q_X8_⟩ hb_ hon hoff
      refine ⟨_, rfl, fun K hK => ?_⟩
      have e230 : a.tmps[230]? = some (v2) := by rw [ha]; exact putSel_on (e := (7, 230, v2)) 7 rfl rfl (hon 7 (by kernel_rfl)) rfl
      replace ha := Aside0.mk ha
      have F := Aside0.mk Q_F
      have L := Aside0.mk Q_L
      have R2 := Aside0.mk (Q_R2 (hon 7 (by kernel_rfl)))
      refine value_ (w1 := w') (v := v2) (by rfl) rfl ?_ ?_
      · go_simp
        (try simp only [i64_w])
        try rfl
      refine hK.out _ _ ⟨gb, v1, v2, m2_, (v2), (by rw [ha.out]; exact putSel_upk 8 hb_ rfl rfl rfl), Q_F, Q_L, fun h0_ => absurd ((hon 3 (by kernel_rfl)).symm.trans h0_) (by decide), fun _ h1_ => absurd ((hon 3 (by kernel_rfl)).symm.trans h1_) (by decide), fun _ h1_ => absurd ((hon 7 (by kernel_rfl)).symm.trans h1_) (by decide), Q_R2, Q_X2_, fun _ => rfl⟩
    exact steps_nil
  · rintro b a w' hall ⟨gb, v1, v2, m2_, m8_, ha, Q_F, Q_L, Q_R0, Q_G, Q_R1, Q_R2, Q_X2_, Q_X8_⟩
    clear F L R0
    have hb0_ := hall 0 (by kernel_rfl)
    have hb1_ := hall 1 (by kernel_rfl)
    have hb2_ := hall 2 (by kernel_rfl)
    have hb3_ := hall 3 (by kernel_rfl)
    have hb4_ := hall 4 (by kernel_rfl)
    have hb5_ := hall 5 (by kernel_rfl)
    have hb6_ := hall 6 (by kernel_rfl)
    have hb7_ := hall 7 (by kernel_rfl)
    have hb8_ := hall 8 (by kernel_rfl)
    subst ha
    obtain rfl := Q_X2_ hb2_
    obtain rfl := Q_X8_ hb8_
    simp only [putSel, hb0_, hb1_, hb2_, hb3_, hb4_, hb5_, hb6_, hb7_, hb8_, if_true, Act.put, List.setIfInBounds_toArray, List.set_cons_zero, List.set_cons_succ]
    have F := Aside0.mk Q_F
    clear Q_F
    have L := Aside0.mk Q_L
    clear Q_L
    clear Q_R0
    clear Q_G
    clear Q_R1
    have R2 := Aside0.mk (Q_R2 hb7_)
    clear Q_R2
    clear hall hb0_ hb1_ hb2_ hb3_ hb4_ hb5_ hb6_ hb7_ hb8_
    obtain ⟨A, c, ev, hc, hC⟩ := Kd.R_reads R2.out
    have HRL : Aside0 (((l ++ [yb]) ++ wnum ix 8) = (l ++ ([yb] ++ wints [ix]))) := ⟨by simp [wints]⟩
    obtain ⟨n, hn⟩ : ∃ n, n = (((l ++ [yb]) ++ wnum ix 8)).length := ⟨_, rfl⟩
    rw [← hn] at ev hc hC
    subst ev
    rw [HRL.out] at hC hn
    have HN := Aside0.mk hn
    have HC := Aside0.mk hC
    have HNC := Aside0.mk hc
    clear hn hC hc
    go_wp2
    rw [HRR.out]
    exact bodyPost_ret (v := .tuple #[.slice A n c, .int .i64 0]) (by simp [results, Try.results11, go_sem]) rfl (encQ_some HN.out HNC.out HC.out F.out)
end Go.Proofs.Ytbemfgpdfacdpaa.Ms
namespace Go.Proofs.Ytbemfgpdfacdpaa.Ms
open Go.RowKit Go.Proofs.Ytbemfgpdfacdpaa.Pr Go.Proofs.YtbemfgpdfacdpaaW.PrintWords Go.Proofs.YtbemfgpdfacdpaaW.PrintLast Go.Proofs.YtbemfgpdfacdpaaW.PrintMore
open Go.Proofs.Ytbemfgpdfacdpaa.QT (OwnAt)
set_option linter.unusedVariables false
set_option linter.unusedSimpArgs false
def enc38.T38 : Bool × List (List Nat × List Nat) := (true, [([], []), ([], []), ([1], [1]), ([2], [2]), ([3], [3]), ([0, 4], [0, 4]), ([], []), ([6], [6]), ([7], [7]), ([8], [8]), ([5, 9, 5], [5, 9]), ([10, 10, 0, 1, 2, 3, 4, 5, 6, 7, 8, 9, 10], [0, 10])])
def enc38.B38 : List Nat := [0, 0, 2, 6, 14, 31, 0, 64, 192, 448, 1023, 2047]
theorem enc38.tab38 : rtab .any (opsOf Try.f11 38) = enc38.T38 := by kernel_rfl
theorem enc38.bits38 : waitsOk enc38.T38.2 enc38.B38 = true := by kernel_rfl
def enc39.T39 : Bool × List (List Nat × List Nat) := (true, [([], []), ([], []), ([1], [1]), ([2], [2]), ([0, 3], [0, 3]), ([], []), ([5], [5]), ([6], [6]), ([4, 7, 4], [4, 7]), ([8, 8, 0, 1, 2, 3, 4, 5, 6, 7, 8], [0, 8])])
def enc39.B39 : List Nat := [0, 0, 2, 6, 15, 0, 32, 96, 255, 511]
theorem enc39.tab39 : rtab .any (opsOf Try.f11 39) = enc39.T39 := by kernel_rfl
theorem enc39.bits39 : waitsOk enc39.T39.2 enc39.B39 = true := by kernel_rfl
set_option maxHeartbeats 16000000 in
set_option maxRecDepth 100000 in
theorem refenc_k5 (fr tt tm ix lt cm : Int) (ys : Bool) (es : List S46) (si st : Int) (sm : List Int) (sd : ByteArray) (A8 : Option Addr) (n8 c8 : Nat) (A11 : Option Addr) (n11 c11 : Nat) (w : World) (R : Option (List Int)) (g : Nat) (w1 : World) (v : Value) (B : Nat) (l : List Int) (hX : w1.heap[g]? = some (.cells #[.int .i64 5, .int .i64 fr, .int .i64 tt, .int .i64 tm, .int .i64 ix, .int .i64 lt, .int .i64 cm, .bool ys, .slice A8 n8 c8, .int .i64 si, .int .i64 st, .slice A11 n11 c11, .string sd] 27 (0, 0))) (hW : Below w.heap.size w w1) (hBB : w.heap.size ≤ B) (hBW : B ≤ w1.heap.size) (hR : RB w w1 B v l) (hl : l.length ≤ 100) (yb : Int) (hS : (Kd.int .i64).C w A11 sm.length sm) (hS1 : n11 = sm.length) (hS2 : n11 ≤ c11) (hm : sm.length ≤ 20) (hd : sd.size ≤ 100000) (hRR : R = some (l ++ (wints [si, st] ++ (wmem sm ++ wtext sd))))
    (z0 z2 z3 z4 z5 z6 z9 z10 z11 z12 z13 z14 z15 z16 z17 z18 z19 z20 z21 z22 z23 z24 z25 z26 z27 z28 z29 z30 z31 z32 z33 z34 z35 z36 z37 z38 z39 z40 z41 z42 z43 z44 z45 z46 z47 z48 z49 z50 z51 z52 z53 z54 z55 z56 z57 z58 z59 z60 z61 z62 z63 z64 z65 z66 z67 z68 z69 z70 z71 z72 z73 z74 z75 z76 z77 z78 z79 z80 z81 z82 z83 z84 z85 z86 z87 z88 z89 z90 z91 z92 z93 z94 z95 z96 z97 z98 z99 z100 z101 z102 z103 z104 z105 z106 z107 z108 z109 z110 z111 z112 z113 z114 z115 z116 z117 z118 z119 z120 z121 z122 z123 z124 z125 z126 z127 z128 z129 z130 z131 z132 z133 z134 z135 z136 z137 z138 z139 z140 z141 z142 z143 z144 z145 z146 z147 z148 z149 z150 z151 z152 z153 z154 z155 z156 z157 z158 z159 z160 z161 z162 z163 z164 z165 z166 z167 z168 z169 z170 z171 z172 z173 z174 z175 z176 z177 z178 z179 z180 z181 z182 z183 z184 z185 z186 z187 z188 z189 z190 z191 z192 z193 z194 z195 z196 z197 z198 z199 z200 z201 z202 z203 z204 z205 z206 z207 z208 z209 z210 z211 z212 z213 z214 z215 z216 z217 z218 z219 z220 z221 z222 z223 z224 z225 z226 z227 z228 z229 z230 z231 z232 z233 z234 z235 z236 z237 z238 z239 z240 z241 z242 z243 z244 z245 z246 z247 z248 z249 z250 z251 z252 z253 : Value) : Code.wp Try.prog (encT 11) (bodyPost Try.prog Try.f11 (EncQ w R)) ⟨#[z0, .pointer (some ⟨g, 0, none⟩), z2, z3, z4, z5, z6, v, .int .u8 yb, z9, z10, z11, z12, z13, z14, z15, z16, z17, z18, z19, z20, z21, z22, z23, z24, z25, z26, z27, z28, z29, z30, z31, z32, z33, z34, z35, z36, z37, z38, z39, z40, z41, z42, z43, z44, z45, z46, z47, z48, z49, z50, z51, z52, z53, z54, z55, z56, z57, z58, z59, z60, z61, z62, z63, z64, z65, z66, z67, z68, z69, z70, z71, z72, z73, z74, z75, z76, z77, z78, z79, z80, z81, z82, z83, z84, z85, z86, z87, z88, z89, z90, z91, z92, z93, z94, z95, z96, z97, z98, z99, z100, z101, z102, z103, z104, z105, z106, z107, z108, z109, z110, z111, z112, z113, z114, z115, z116, z117, z118, z119, z120, z121, z122, z123, z124, z125, z126, z127, z128, z129, z130, z131, z132, z133, z134, z135, z136, z137, z138, z139, z140, z141, z142, z143, z144, z145, z146, z147, z148, z149, z150, z151, z152, z153, z154, z155, z156, z157, z158, z159, z160, z161, z162, z163, z164, z165, z166, z167, z168, z169, z170, z171, z172, z173, z174, z175, z176, z177, z178, z179, z180, z181, z182, z183, z184, z185, z186, z187, z188, z189, z190, z191, z192, z193, z194, z195, z196, z197, z198, z199, z200, z201, z202, z203, z204, z205, z206, z207, z208, z209, z210, z211, z212, z213, z214, z215, z216, z217, z218, z219, z220, z221, z222, z223, z224, z225, z226, z227, z228, z229, z230, z231, z232, z233, z234, z235, z236, z237, z238, z239, z240, z241, z242, z243, z244, z245, z246, z247, z248, z249, z250, z251, z252, z253], []⟩ w1 := by
  have HX1 := Aside0.mk hX
  have HW := Aside0.mk hW
  have HR := Aside0.mk hR
  have HL := Aside0.mk hl
  have HBB := Aside0.mk hBB
  have HBW := Aside0.mk hBW
  have HRR := Aside0.mk hRR
  clear hX hW hR hl hBB hBW hRR
  have q0 : w1.cell? ⟨g, 0, none⟩ = some (.int .i64 5) := blk_cell HX1.out 0
  conv => arg 2; whnf
  have HS := Aside0.mk hS
  have HS1 := Aside0.mk hS1
  have HS2 := Aside0.mk hS2
  have HM := Aside0.mk hm
  have HD := Aside0.mk hd
  clear hS hS1 hS2 hm hd
  go_upto_region 38 with (fail)
  refine start_ (n := 12) (S := fun w' => True) (ds := []) #[false, false, false, false, false, false, false, false, false, false, false, false] (by kernel_rfl) rfl rfl trivial (fun hHeld => ?_)
  refine with_tabW enc38.tab38 enc38.bits38 (fun HT_ HW_ => ?_)
  have F : Aside0 (Below w.heap.size w w1.drew) := ⟨below_drew HW.out⟩
  have L : Aside0 (LK w1 w1.drew B) := ⟨LK.of_below (below_drew (Below.refl _ _))⟩
  have R0 : Aside0 (RB w w1.drew B v l) := ⟨Kd.R_drew HR.out⟩
  refine inv_at [0, 1, 2, 3, 4, 5, 6, 7, 8, 9, 10, 11] (fun a0_ b a w' => ∃ (v1 : Value) (v2 : Value) (m11_ : Value), a = putSel a0_ b [(0, 233, v), (1, 234, .pointer (some ⟨g, 9, none⟩)), (2, 235, .pointer (some ⟨g, 9, none⟩)), (3, 236, .int .i64 si), (4, 237, .int .u64 (IntKind.u64.wrap si)), (5, 238, v1), (6, 239, .pointer (some ⟨g, 9, none⟩)), (7, 240, .pointer (some ⟨g, 10, none⟩)), (8, 241, .int .i64 st), (9, 242, .int .u64 (IntKind.u64.wrap st)), (10, 243, v2), (11, 7, m11_)] ∧ (Below w.heap.size w w') ∧ (LK w1 w' B) ∧ (b 5 = false → RB w w' B v l) ∧ (b 5 = true → b 10 = false → RB w w' B v1 (l ++ wnum si 8)) ∧ (b 10 = true → RB w w' B v2 ((l ++ wnum si 8) ++ wnum st 8)) ∧ (b 11 = true → (m11_ : Value) = v2)) HT_.out HW_.out (by kernel_rfl) (by kernel_rfl) ?_ ?_ ?_
  · exact ⟨.bool false, .bool false, .bool false, by simp only [putSel, Bool.false_eq_true, if_false], F.out, L.out, fun _ => R0.out, fun h_ => absurd h_ (by decide), fun h_ => absurd h_ (by decide), fun h_ => absurd h_ (by decide)⟩
  · skip
    clear F L R0
    refine steps_cons ?_ ?_
    · rintro b a w' ⟨v1, v2, m11_, ha, Q_F, Q_L, Q_R0, Q_R1, Q_R2, Q_X11_⟩ hb_ hon hoff
      refine ⟨_, rfl, fun K hK => ?_⟩
      have e7 : a.tmps[7]? = some (v) := by rw [ha]; exact (putSel_not (hoff 11 (by kernel_rfl)) rfl).trans rfl
      replace ha := Aside0.mk ha
      have F := Aside0.mk Q_F
      have L := Aside0.mk Q_L
      have R0 := Aside0.mk (Q_R0 (hoff 5 (by kernel_rfl)))
      refine value_ (w1 := w') (v := v) (by rfl) rfl ?_ ?_
      · go_simp
        (try simp only [i64_w])
        try rfl
      refine hK.out _ _ ⟨v1, v2, m11_, (by rw [ha.out]; exact putSel_upk 0 hb_ rfl rfl rfl), Q_F, Q_L, Q_R0, fun h0_ _ => absurd ((hoff 5 (by kernel_rfl)).symm.trans h0_) (by decide), fun h0_ => absurd ((hoff 10 (by kernel_rfl)).symm.trans h0_) (by decide), fun h0_ => absurd ((hoff 11 (by kernel_rfl)).symm.trans h0_) (by decide)⟩
    refine steps_cons ?_ ?_
    · rintro b a w' ⟨v1, v2, m11_, ha, Q_F, Q_L, Q_R0, Q_R1, Q_R2, Q_X11_⟩ hb_ hon hoff
      refine ⟨_, rfl, fun K hK => ?_⟩
      have e1 : a.tmps[1]? = some (.pointer (some ⟨g, 0, none⟩)) := by rw [ha]; exact (putSel_off rfl).trans rfl
      replace ha := Aside0.mk ha
      have F := Aside0.mk Q_F
      have L := Aside0.mk Q_L
      have R0 := Aside0.mk (Q_R0 (hoff 5 (by kernel_rfl)))
      refine value_ (w1 := w') (v := .pointer (some ⟨g, 9, none⟩)) (by rfl) rfl ?_ ?_
      · go_simp
        (try simp only [i64_w])
        try rfl
      refine hK.out _ _ ⟨v1, v2, m11_, (by rw [ha.out]; exact putSel_upk 1 hb_ rfl rfl rfl), Q_F, Q_L, Q_R0, fun h0_ _ => absurd ((hoff 5 (by kernel_rfl)).symm.trans h0_) (by decide), fun h0_ => absurd ((hoff 10 (by kernel_rfl)).symm.trans h0_) (by decide), fun h0_ => absurd ((hoff 11 (by kernel_rfl)).symm.trans h0_) (by decide)⟩
    refine steps_cons ?_ ?_
    · rintro b a w' ⟨v1, v2, m11_, ha, Q_F, Q_L, Q_R0, Q_R1, Q_R2, Q_X11_⟩ hb_ hon hoff
      refine ⟨_, rfl, fun K hK => ?_⟩
      have e234 : a.tmps[234]? = some (.pointer (some ⟨g, 9, none⟩)) := by rw [ha]; exact putSel_on (e := (1, 234, .pointer (some ⟨g, 9, none⟩))) 1 rfl rfl (hon 1 (by kernel_rfl)) rfl
      replace ha := Aside0.mk ha
      have F := Aside0.mk Q_F
      have L := Aside0.mk Q_L
      have R0 := Aside0.mk (Q_R0 (hoff 5 (by kernel_rfl)))
      refine value_ (w1 := w') (v := .pointer (some ⟨g, 9, none⟩)) (by rfl) rfl ?_ ?_
      · go_simp
        (try simp only [i64_w])
        try rfl
      refine hK.out _ _ ⟨v1, v2, m11_, (by rw [ha.out]; exact putSel_upk 2 hb_ rfl rfl rfl), Q_F, Q_L, Q_R0, fun h0_ _ => absurd ((hoff 5 (by kernel_rfl)).symm.trans h0_) (by decide), fun h0_ => absurd ((hoff 10 (by kernel_rfl)).symm.trans h0_) (by decide), fun h0_ => absurd ((hoff 11 (by kernel_rfl)).symm.trans h0_) (by decide)⟩
    refine steps_cons ?_ ?_
    · rintro b a w' ⟨v1, v2, m11_, ha, Q_F, Q_L, Q_R0, Q_R1, Q_R2, Q_X11_⟩ hb_ hon hoff
      refine ⟨_, rfl, fun K hK => ?_⟩
      have e235 : a.tmps[235]? = some (.pointer (some ⟨g, 9, none⟩)) := by rw [ha]; exact putSel_on (e := (2, 235, .pointer (some ⟨g, 9, none⟩))) 2 rfl rfl (hon 2 (by kernel_rfl)) rfl
      replace ha := Aside0.mk ha
      have F := Aside0.mk Q_F
      have L := Aside0.mk Q_L
      have R0 := Aside0.mk (Q_R0 (hoff 5 (by kernel_rfl)))
      have m0 : w'.cell? ⟨g, 9, none⟩ = some (.int .i64 si) := blk_cell (L.out.blk HX1.out (by decide)) 9
      refine value_ (w1 := w') (v := .int .i64 si) (by rfl) rfl ?_ ?_
      · go_simp
        (try simp only [i64_w])
        try rfl
      refine hK.out _ _ ⟨v1, v2, m11_, (by rw [ha.out]; exact putSel_upk 3 hb_ rfl rfl rfl), Q_F, Q_L, Q_R0, fun h0_ _ => absurd ((hoff 5 (by kernel_rfl)).symm.trans h0_) (by decide), fun h0_ => absurd ((hoff 10 (by kernel_rfl)).symm.trans h0_) (by decide), fun h0_ => absurd ((hoff 11 (by kernel_rfl)).symm.trans h0_) (by decide)⟩
    refine steps_cons ?_ ?_
    · rintro b a w' ⟨v1, v2, m11_, ha, Q_F, Q_L, Q_R0, Q_R1, Q_R2, Q_X11_⟩ hb_ hon hoff
      refine ⟨_, rfl, fun K hK => ?_⟩
      have e236 : a.tmps[236]? = some (.int .i64 si) := by rw [ha]; exact putSel_on (e := (3, 236, .int .i64 si)) 3 rfl rfl (hon 3 (by kernel_rfl)) rfl
      replace ha := Aside0.mk ha
      have F := Aside0.mk Q_F
      have L := Aside0.mk Q_L
      have R0 := Aside0.mk (Q_R0 (hoff 5 (by kernel_rfl)))
      refine value_ (w1 := w') (v := .int .u64 (IntKind.u64.wrap si)) (by rfl) rfl ?_ ?_
      · go_simp
        (try simp only [i64_w])
        try rfl
      refine hK.out _ _ ⟨v1, v2, m11_, (by rw [ha.out]; exact putSel_upk 4 hb_ rfl rfl rfl), Q_F, Q_L, Q_R0, fun h0_ _ => absurd ((hoff 5 (by kernel_rfl)).symm.trans h0_) (by decide), fun h0_ => absurd ((hoff 10 (by kernel_rfl)).symm.trans h0_) (by decide), fun h0_ => absurd ((hoff 11 (by kernel_rfl)).symm.trans h0_) (by decide)⟩
    refine steps_cons ?_ ?_
    · rintro b a w' ⟨v1, v2, m11_, ha, Q_F, Q_L, Q_R0, Q_R1, Q_R2, Q_X11_⟩ hb_ hon hoff
      refine ⟨_, rfl, fun K hK => ?_⟩
      have e233 : a.tmps[233]? = some (v) := by rw [ha]; exact putSel_on (e := (0, 233, v)) 0 rfl rfl (hon 0 (by kernel_rfl)) rfl
      have e237 : a.tmps[237]? = some (.int .u64 (IntKind.u64.wrap si)) := by rw [ha]; exact putSel_on (e := (4, 237, .int .u64 (IntKind.u64.wrap si))) 4 rfl rfl (hon 4 (by kernel_rfl)) rfl
      replace ha := Aside0.mk ha
      have F := Aside0.mk Q_F
      have L := Aside0.mk Q_L
      have R0 := Aside0.mk (Q_R0 hb_)
      refine goes_ (N := some 238) Try.func26 (by kernel_rfl) rfl #[v, .int .i64 8, .int .u64 (IntKind.u64.wrap si)] (by rfl) rfl rfl (by first | (simp only [List.map_toArray, List.map_cons, List.map_nil, Act.eval, Array.getD_eq_getD_getElem?, Option.getD_some, e233, e237]; done) | (simp only [List.map_toArray, List.map_cons, List.map_nil, Act.eval, Array.getD_eq_getD_getElem?, Option.getD_some, e233, e237]; rfl)) ?_
      refine (lay_calls w w' B v l si 8 R0.out F.out (Nat.le_trans HBW.out L.out.size) (by decide) (by have := HL.out; (try simp only [List.length_append, wnum_length]); omega)).mono ?_
      rintro e w1_ ⟨v1_, rfl, hr1, hq1, hk1⟩
      refine ⟨_, rfl, ?_⟩
      refine hK.out _ _ ⟨v1_, v2, m11_, (by rw [ha.out]; exact putSel_upk 5 hb_ rfl rfl rfl), hq1, L.out.trans hk1, fun h0_ => absurd ((up_self b 5).symm.trans h0_) (by decide), fun _ _ => hr1, fun h0_ => absurd ((hoff 10 (by kernel_rfl)).symm.trans h0_) (by decide), fun h0_ => absurd ((hoff 11 (by kernel_rfl)).symm.trans h0_) (by decide)⟩
    refine steps_cons ?_ ?_
    · rintro b a w' ⟨v1, v2, m11_, ha, Q_F, Q_L, Q_R0, Q_R1, Q_R2, Q_X11_⟩ hb_ hon hoff
      refine ⟨_, rfl, fun K hK => ?_⟩
      have e1 : a.tmps[1]? = some (.pointer (some ⟨g, 0, none⟩)) := by rw [ha]; exact (putSel_off rfl).trans rfl
      replace ha := Aside0.mk ha
      have F := Aside0.mk Q_F
      have L := Aside0.mk Q_L
      refine value_ (w1 := w') (v := .pointer (some ⟨g, 9, none⟩)) (by rfl) rfl ?_ ?_
      · go_simp
        (try simp only [i64_w])
        try rfl
      refine hK.out _ _ ⟨v1, v2, m11_, (by rw [ha.out]; exact putSel_upk 6 hb_ rfl rfl rfl), Q_F, Q_L, Q_R0, Q_R1, fun h0_ => absurd ((hoff 10 (by kernel_rfl)).symm.trans h0_) (by decide), fun h0_ => absurd ((hoff 11 (by kernel_rfl)).symm.trans h0_) (by decide)⟩
    refine steps_cons ?_ ?_
    · rintro b a w' ⟨v1, v2, m11_, ha, Q_F, Q_L, Q_R0, Q_R1, Q_R2, Q_X11_⟩ hb_ hon hoff
      refine ⟨_, rfl, fun K hK => ?_⟩
      have e239 : a.tmps[239]? = some (.pointer (some ⟨g, 9, none⟩)) := by rw [ha]; exact putSel_on (e := (6, 239, .pointer (some ⟨g, 9, none⟩))) 6 rfl rfl (hon 6 (by kernel_rfl)) rfl
      replace ha := Aside0.mk ha
      have F := Aside0.mk Q_F
      have L := Aside0.mk Q_L
      refine value_ (w1 := w') (v := .pointer (some ⟨g, 10, none⟩)) (by rfl) rfl ?_ ?_
      · go_simp
        (try simp only [i64_w])
        try rfl
      refine hK.out _ _ ⟨v1, v2, m11_, (by rw [ha.out]; exact putSel_upk 7 hb_ rfl rfl rfl), Q_F, Q_L, Q_R0, Q_R1, fun h0_ => absurd ((hoff 10 (by kernel_rfl)).symm.trans h0_) (by decide), fun h0_ => absurd ((hoff 11 (by kernel_rfl)).symm.trans h0_) (by decide)⟩
    refine steps_cons ?_ ?_
    · rintro b a w' ⟨v1, v2, m11_, ha, Q_F, Q_L, Q_R0, Q_R1, Q_R2, Q_X11_⟩ hb_ hon hoff
      refine ⟨_, rfl, fun K hK => ?_⟩
      have e240 : a.tmps[240]? = some (.pointer (some ⟨g, 10, none⟩)) := by rw [ha]; exact putSel_on (e := (7, 240, .pointer (some ⟨g, 10, none⟩))) 7 rfl rfl (hon 7 (by kernel_rfl)) rfl
      replace ha := Aside0.mk ha
      have F := Aside0.mk Q_F
      have L := Aside0.mk Q_L
      have m0 : w'.cell? ⟨g, 10, none⟩ = some (.int .i64 st) := blk_cell (L.out.blk HX1.out (by decide)) 10
      refine value_ (w1 := w') (v := .int .i64 st) (by rfl) rfl ?_ ?_
      · go_simp
        (try simp only [i64_w])
        try rfl
      refine hK.out _ _ ⟨v1, v2, m11_, (by rw [ha.out]; exact putSel_upk 8 hb_ rfl rfl rfl), Q_F, Q_L, Q_R0, Q_R1, fun h0_ => absurd ((hoff 10 (by kernel_rfl)).symm.trans h0_) (by decide), fun h0_ => absurd ((hoff 11 (by kernel_rfl)).symm.trans h0_) (by decide)⟩
    refine steps_cons ?_ ?_
    · rintro b a w' ⟨v1, v2, m11_, ha, Q_F, Q_L, Q_R0, Q_R1, Q_R2, Q_X11_⟩ hb_ hon hoff
      refine ⟨_, rfl, fun K hK => ?_⟩
      have e241 : a.tmps[241]? = some (.int .i64 st) := by rw [ha]; exact putSel_on (e := (8, 241, .int .i64 st)) 8 rfl rfl (hon 8 (by kernel_rfl)) rfl
      replace ha := Aside0.mk ha
      have F := Aside0.mk Q_F
      have L := Aside0.mk Q_L
      refine value_ (w1 := w') (v := .int .u64 (IntKind.u64.wrap st)) (by rfl) rfl ?_ ?_
      · go_simp
        (try simp only [i64_w])
        try rfl
      refine hK.out _ _ ⟨v1, v2, m11_, (by rw [ha.out]; exact putSel_upk 9 hb_ rfl rfl rfl), Q_F, Q_L, Q_R0, Q_R1, fun h0_ => absurd ((hoff 10 (by kernel_rfl)).symm.trans h0_) (by decide), fun h0_ => absurd ((hoff 11 (by kernel_rfl)).symm.trans h0_) (by decide)⟩
    refine steps_cons ?_ ?_
    · rintro b a w' ⟨v1, v2, m11_, ha, Q_F, Q_L, Q_R0, Q_R1, Q_R2, Q_X11_⟩ hb_ hon hoff
      refine ⟨_, rfl, fun K hK => ?_⟩
      have e238 : a.tmps[238]? = some (v1) := by rw [ha]; exact putSel_on (e := (5, 238, v1)) 5 rfl rfl (hon 5 (by kernel_rfl)) rfl
      have e242 : a.tmps[242]? = some (.int .u64 (IntKind.u64.wrap st)) := by rw [ha]; exact putSel_on (e := (9, 242, .int .u64 (IntKind.u64.wrap st))) 9 rfl rfl (hon 9 (by kernel_rfl)) rfl
      replace ha := Aside0.mk ha
      have F := Aside0.mk Q_F
      have L := Aside0.mk Q_L
      have R1 := Aside0.mk (Q_R1 (hon 5 (by kernel_rfl)) hb_)
      refine goes_ (N := some 243) Try.func26 (by kernel_rfl) rfl #[v1, .int .i64 8, .int .u64 (IntKind.u64.wrap st)] (by rfl) rfl rfl (by first | (simp only [List.map_toArray, List.map_cons, List.map_nil, Act.eval, Array.getD_eq_getD_getElem?, Option.getD_some, e238, e242]; done) | (simp only [List.map_toArray, List.map_cons, List.map_nil, Act.eval, Array.getD_eq_getD_getElem?, Option.getD_some, e238, e242]; rfl)) ?_
      refine (lay_calls w w' B v1 (l ++ wnum si 8) st 8 R1.out F.out (Nat.le_trans HBW.out L.out.size) (by decide) (by have := HL.out; (try simp only [List.length_append, wnum_length]); omega)).mono ?_
      rintro e w1_ ⟨v1_, rfl, hr1, hq1, hk1⟩
      refine ⟨_, rfl, ?_⟩
      refine hK.out _ _ ⟨v1, v1_, m11_, (by rw [ha.out]; exact putSel_upk 10 hb_ rfl rfl rfl), hq1, L.out.trans hk1, fun h0_ => absurd ((hon 5 (by kernel_rfl)).symm.trans h0_) (by decide), fun _ h1_ => absurd ((up_self b 10).symm.trans h1_) (by decide), fun _ => hr1, fun h0_ => absurd ((hoff 11 (by kernel_rfl)).symm.trans h0_) (by decide)⟩
    refine steps_cons ?_ ?_
    · rintro b a w' ⟨v1, v2, m11_, ha, Q_F, Q_L, Q_R0, Q_R1, Q_R2, Q_X11_⟩ hb_ hon hoff
      refine ⟨_, rfl, fun K hK => ?_⟩
      have e243 : a.tmps[243]? = some (v2) := by rw [ha]; exact putSel_on (e := (10, 243, v2)) 10 rfl rfl (hon 10 (by kernel_rfl)) rfl
      replace ha := Aside0.mk ha
      have F := Aside0.mk Q_F
      have L := Aside0.mk Q_L
      have R2 := Aside0.mk (Q_R2 (hon 10 (by kernel_rfl)))
      refine value_ (w1 := w') (v := v2) (by rfl) rfl ?_ ?_
      · go_simp
        (try simp only [i64_w])
        try rfl
      refine hK.out _ _ ⟨v1, v2, (v2), (by rw [ha.out]; exact putSel_upk 11 hb_ rfl rfl rfl), Q_F, Q_L, fun h0_ => absurd ((hon 5 (by kernel_rfl)).symm.trans h0_) (by decide), fun _ h1_ => absurd ((hon 10 (by kernel_rfl)).symm.trans h1_) (by decide), Q_R2, fun _ => rfl⟩
    exact steps_nil
  · rintro b a w' hall ⟨v1, v2, m11_, ha, Q_F, Q_L, Q_R0, Q_R1, Q_R2, Q_X11_⟩
    clear F L R0
    have hb0_ := hall 0 (by kernel_rfl)
    have hb1_ := hall 1 (by kernel_rfl)
    have hb2_ := hall 2 (by kernel_rfl)
    have hb3_ := hall 3 (by kernel_rfl)
    have hb4_ := hall 4 (by kernel_rfl)
    have hb5_ := hall 5 (by kernel_rfl)
    have hb6_ := hall 6 (by kernel_rfl)
    have hb7_ := hall 7 (by kernel_rfl)
    have hb8_ := hall 8 (by kernel_rfl)
    have hb9_ := hall 9 (by kernel_rfl)
    have hb10_ := hall 10 (by kernel_rfl)
    have hb11_ := hall 11 (by kernel_rfl)
    subst ha
    obtain rfl := Q_X11_ hb11_
    simp only [putSel, hb0_, hb1_, hb2_, hb3_, hb4_, hb5_, hb6_, hb7_, hb8_, hb9_, hb10_, hb11_, if_true, Act.put, List.setIfInBounds_toArray, List.set_cons_zero, List.set_cons_succ]
    have F := Aside0.mk Q_F
    clear Q_F
    have L := Aside0.mk Q_L
    clear Q_L
    clear Q_R0
    clear Q_R1
    have R2 := Aside0.mk (Q_R2 hb10_)
    clear Q_R2
    clear hall hb0_ hb1_ hb2_ hb3_ hb4_ hb5_ hb6_ hb7_ hb8_ hb9_ hb10_ hb11_
    obtain ⟨u2, hu⟩ : ∃ u, u = w' := ⟨_, rfl⟩
    subst hu
    obtain ⟨v2, hv⟩ : ∃ v, v = m11_ := ⟨_, rfl⟩
    subst hv
    have HX2 := Aside0.mk (L.out.blk HX1.out (by decide))
    have HW2 := F
    have HR2 := R2
    have HBW2 : Aside0 (B ≤ u2.heap.size) := ⟨Nat.le_trans HBW.out L.out.size⟩
    have HLK2 := L
    clear F L R2
    go_upto_region 39 with (fail)
    refine start_ (n := 10) (S := fun w' => True) (ds := []) #[false, false, false, false, false, false, false, false, false, false] (by kernel_rfl) rfl rfl trivial (fun hHeld => ?_)
    refine with_tabW enc39.tab39 enc39.bits39 (fun HT_ HW_ => ?_)
    have F : Aside0 (Below w.heap.size w u2.drew) := ⟨below_drew HW2.out⟩
    have L : Aside0 (LK u2 u2.drew B) := ⟨LK.of_below (below_drew (Below.refl _ _))⟩
    have R0 : Aside0 (RB w u2.drew B v2 ((l ++ wnum si 8) ++ wnum st 8)) := ⟨Kd.R_drew HR2.out⟩
    refine inv_at [0, 1, 2, 3, 4, 5, 6, 7, 8, 9] (fun a0_ b a w' => ∃ (v3 : Value) (v4 : Value) (m9_ : Value), a = putSel a0_ b [(0, 244, v2), (1, 245, .pointer (some ⟨g, 9, none⟩)), (2, 246, .pointer (some ⟨g, 11, none⟩)), (3, 247, .slice A11 n11 c11), (4, 248, v3), (5, 249, .pointer (some ⟨g, 9, none⟩)), (6, 250, .pointer (some ⟨g, 12, none⟩)), (7, 251, .string sd), (8, 252, v4), (9, 7, m9_)] ∧ (Below w.heap.size w w') ∧ (LK u2 w' B) ∧ (b 4 = false → RB w w' B v2 ((l ++ wnum si 8) ++ wnum st 8)) ∧ (b 4 = true → b 8 = false → RB w w' B v3 (((l ++ wnum si 8) ++ wnum st 8) ++ wmem sm)) ∧ (b 8 = true → RB w w' B v4 ((((l ++ wnum si 8) ++ wnum st 8) ++ wmem sm) ++ wtext sd)) ∧ (b 9 = true → (m9_ : Value) = v4)) HT_.out HW_.out (by kernel_rfl) (by kernel_rfl) ?_ ?_ ?_
    · exact ⟨.bool false, .bool false, .bool false, by simp only [putSel, Bool.false_eq_true, if_false], F.out, L.out, fun _ => R0.out, fun h_ => absurd h_ (by decide), fun h_ => absurd h_ (by decide), fun h_ => absurd h_ (by decide)⟩
    · skip
      clear F L R0
      refine steps_cons ?_ ?_
      · rintro b a w' ⟨v3, v4, m9_, ha, Q_F, Q_L, Q_R0, Q_R1, Q_R2, Q_X9_⟩ hb_ hon hoff
        refine ⟨_, rfl, fun K hK => ?_⟩
        have e7 : a.tmps[7]? = some (v2) := by rw [ha]; exact (putSel_not (hoff 9 (by kernel_rfl)) rfl).trans rfl
        replace ha := Aside0.mk ha
        have F := Aside0.mk Q_F
        have L := Aside0.mk Q_L
        have R0 := Aside0.mk (Q_R0 (hoff 4 (by kernel_rfl)))
        refine value_ (w1 := w') (v := v2) (by rfl) rfl ?_ ?_
        · go_simp
          (try simp only [i64_w])
          try rfl
        refine hK.out _ _ ⟨v3, v4, m9_, (by rw [ha.out]; exact putSel_upk 0 hb_ rfl rfl rfl), Q_F, Q_L, Q_R0, fun h0_ _ => absurd ((hoff 4 (by kernel_rfl)).symm.trans h0_) (by decide), fun h0_ => absurd ((hoff 8 (by kernel_rfl)).symm.trans h0_) (by decide), fun h0_ => absurd ((hoff 9 (by kernel_rfl)).symm.trans h0_) (by decide)⟩
      refine steps_cons ?_ ?_
      · rintro b a w' ⟨v3, v4, m9_, ha, Q_F, Q_L, Q_R0, Q_R1, Q_R2, Q_X9_⟩ hb_ hon hoff
        refine ⟨_, rfl, fun K hK => ?_⟩
        have e1 : a.tmps[1]? = some (.pointer (some ⟨g, 0, none⟩)) := by rw [ha]; exact (putSel_off rfl).trans rfl
        replace ha := Aside0.mk ha
        have F := Aside0.mk Q_F
        have L := Aside0.mk Q_L
        have R0 := Aside0.mk (Q_R0 (hoff 4 (by kernel_rfl)))
        refine value_ (w1 := w') (v := .pointer (some ⟨g, 9, none⟩)) (by rfl) rfl ?_ ?_
        · go_simp
          (try simp only [i64_w])
          try rfl
        refine hK.out _ _ ⟨v3, v4, m9_, (by rw [ha.out]; exact putSel_upk 1 hb_ rfl rfl rfl), Q_F, Q_L, Q_R0, fun h0_ _ => absurd ((hoff 4 (by kernel_rfl)).symm.trans h0_) (by decide), fun h0_ => absurd ((hoff 8 (by kernel_rfl)).symm.trans h0_) (by decide), fun h0_ => absurd ((hoff 9 (by kernel_rfl)).symm.trans h0_) (by decide)⟩
      refine steps_cons ?_ ?_
      · rintro b a w' ⟨v3, v4, m9_, ha, Q_F, Q_L, Q_R0, Q_R1, Q_R2, Q_X9_⟩ hb_ hon hoff
        refine ⟨_, rfl, fun K hK => ?_⟩
        have e245 : a.tmps[245]? = some (.pointer (some ⟨g, 9, none⟩)) := by rw [ha]; exact putSel_on (e := (1, 245, .pointer (some ⟨g, 9, none⟩))) 1 rfl rfl (hon 1 (by kernel_rfl)) rfl
        replace ha := Aside0.mk ha
        have F := Aside0.mk Q_F
        have L := Aside0.mk Q_L
        have R0 := Aside0.mk (Q_R0 (hoff 4 (by kernel_rfl)))
        refine value_ (w1 := w') (v := .pointer (some ⟨g, 11, none⟩)) (by rfl) rfl ?_ ?_
        · go_simp
          (try simp only [i64_w])
          try rfl
        refine hK.out _ _ ⟨v3, v4, m9_, (by rw [ha.out]; exact putSel_upk 2 hb_ rfl rfl rfl), Q_F, Q_L, Q_R0, fun h0_ _ => absurd ((hoff 4 (by kernel_rfl)).symm.trans h0_) (by decide), fun h0_ => absurd ((hoff 8 (by kernel_rfl)).symm.trans h0_) (by decide), fun h0_ => absurd ((hoff 9 (by kernel_rfl)).symm.trans h0_) (by decide)⟩
      refine steps_cons ?_ ?_
      · rintro b a w' ⟨v3, v4, m9_, ha, Q_F, Q_L, Q_R0, Q_R1, Q_R2, Q_X9_⟩ hb_ hon hoff
        refine ⟨_, rfl, fun K hK => ?_⟩
        have e246 : a.tmps[246]? = some (.pointer (some ⟨g, 11, none⟩)) := by rw [ha]; exact putSel_on (e := (2, 246, .pointer (some ⟨g, 11, none⟩))) 2 rfl rfl (hon 2 (by kernel_rfl)) rfl
        replace ha := Aside0.mk ha
        have F := Aside0.mk Q_F
        have L := Aside0.mk Q_L
        have R0 := Aside0.mk (Q_R0 (hoff 4 (by kernel_rfl)))
        have m0 : w'.cell? ⟨g, 11, none⟩ = some (.slice A11 n11 c11) := blk_cell (L.out.blk HX2.out (by decide)) 11
        refine value_ (w1 := w') (v := .slice A11 n11 c11) (by rfl) rfl ?_ ?_
        · go_simp
          (try simp only [i64_w])
          try rfl
        refine hK.out _ _ ⟨v3, v4, m9_, (by rw [ha.out]; exact putSel_upk 3 hb_ rfl rfl rfl), Q_F, Q_L, Q_R0, fun h0_ _ => absurd ((hoff 4 (by kernel_rfl)).symm.trans h0_) (by decide), fun h0_ => absurd ((hoff 8 (by kernel_rfl)).symm.trans h0_) (by decide), fun h0_ => absurd ((hoff 9 (by kernel_rfl)).symm.trans h0_) (by decide)⟩
      refine steps_cons ?_ ?_
      · rintro b a w' ⟨v3, v4, m9_, ha, Q_F, Q_L, Q_R0, Q_R1, Q_R2, Q_X9_⟩ hb_ hon hoff
        refine ⟨_, rfl, fun K hK => ?_⟩
        have e244 : a.tmps[244]? = some (v2) := by rw [ha]; exact putSel_on (e := (0, 244, v2)) 0 rfl rfl (hon 0 (by kernel_rfl)) rfl
        have e247 : a.tmps[247]? = some (.slice A11 n11 c11) := by rw [ha]; exact putSel_on (e := (3, 247, .slice A11 n11 c11)) 3 rfl rfl (hon 3 (by kernel_rfl)) rfl
        replace ha := Aside0.mk ha
        have F := Aside0.mk Q_F
        have L := Aside0.mk Q_L
        have R0 := Aside0.mk (Q_R0 hb_)
        refine goes_ (N := some 248) Try.func27 (by kernel_rfl) rfl #[v2, .slice A11 n11 c11] (by rfl) rfl rfl (by first | (simp only [List.map_toArray, List.map_cons, List.map_nil, Act.eval, Array.getD_eq_getD_getElem?, Option.getD_some, e244, e247]; done) | (simp only [List.map_toArray, List.map_cons, List.map_nil, Act.eval, Array.getD_eq_getD_getElem?, Option.getD_some, e244, e247]; rfl)) ?_
        refine (rints_calls' w w' B v2 ((l ++ wnum si 8) ++ wnum st 8) sm A11 n11 c11 R0.out F.out (Nat.le_trans HBW2.out L.out.size) HBB.out HS.out HS1.out HS2.out (by have := HM.out; omega) (by have := HL.out; have := HM.out; have := HD.out; (try simp only [List.length_append, wnum_length]); omega)).mono ?_
        rintro e w1_ ⟨v1_, rfl, hr1, hq1, hk1⟩
        refine ⟨_, rfl, ?_⟩
        refine hK.out _ _ ⟨v1_, v4, m9_, (by rw [ha.out]; exact putSel_upk 4 hb_ rfl rfl rfl), hq1, L.out.trans hk1, fun h0_ => absurd ((up_self b 4).symm.trans h0_) (by decide), fun _ _ => hr1, fun h0_ => absurd ((hoff 8 (by kernel_rfl)).symm.trans h0_) (by decide), fun h0_ => absurd ((hoff 9 (by kernel_rfl)).symm.trans h0_) (by decide)⟩
      refine steps_cons ?_ ?_
      · rintro b a w' ⟨v3, v4, m9_, ha, Q_F, Q_L, Q_R0, Q_R1, Q_R2, Q_X9_⟩ hb_ hon hoff
        refine ⟨_, rfl, fun K hK => ?_⟩
        have e1 : a.tmps[1]? = some (.pointer (some ⟨g, 0, none⟩)) := by rw [ha]; exact (putSel_off rfl).trans rfl
        replace ha := Aside0.mk ha
        have F := Aside0.mk Q_F
        have L := Aside0.mk Q_L
        refine value_ (w1 := w') (v := .pointer (some ⟨g, 9, none⟩)) (by rfl) rfl ?_ ?_
        · go_simp
          (try simp only [i64_w])
          try rfl
        refine hK.out _ _ ⟨v3, v4, m9_, (by rw [ha.out]; exact putSel_upk 5 hb_ rfl rfl rfl), Q_F, Q_L, Q_R0, Q_R1, fun h0_ => absurd ((hoff 8 (by kernel_rfl)).symm.trans h0_) (by decide), fun h0_ => absurd ((hoff 9 (by kernel_rfl)).symm.trans h0_) (by decide)⟩
      refine steps_cons ?_ ?_
      · rintro b a w' ⟨v3, v4, m9_, ha, Q_F, Q_L, Q_R0, Q_R1, Q_R2, Q_X9_⟩ hb_ hon hoff
        refine ⟨_, rfl, fun K hK => ?_⟩
        have e249 : a.tmps[249]? = some (.pointer (some ⟨g, 9, none⟩)) := by rw [ha]; exact putSel_on (e := (5, 249, .pointer (some ⟨g, 9, none⟩))) 5 rfl rfl (hon 5 (by kernel_rfl)) rfl
        replace ha := Aside0.mk ha
        have F := Aside0.mk Q_F
        have L := Aside0.mk Q_L
        refine value_ (w1 := w') (v := .pointer (some ⟨g, 12, none⟩)) (by rfl) rfl ?_ ?_
        · go_simp
          (try simp only [i64_w])
          try rfl
        refine hK.out _ _ ⟨v3, v4, m9_, (by rw [ha.out]; exact putSel_upk 6 hb_ rfl rfl rfl), Q_F, Q_L, Q_R0, Q_R1, fun h0_ => absurd ((hoff 8 (by kernel_rfl)).symm.trans h0_) (by decide), fun h0_ => absurd ((hoff 9 (by kernel_rfl)).symm.trans h0_) (by decide)⟩
      refine steps_cons ?_ ?_
      · rintro b a w' ⟨v3, v4, m9_, ha, Q_F, Q_L, Q_R0, Q_R1, Q_R2, Q_X9_⟩ hb_ hon hoff
        refine ⟨_, rfl, fun K hK => ?_⟩
        have e250 : a.tmps[250]? = some (.pointer (some ⟨g, 12, none⟩)) := by rw [ha]; exact putSel_on (e := (6, 250, .pointer (some ⟨g, 12, none⟩))) 6 rfl rfl (hon 6 (by kernel_rfl)) rfl
        replace ha := Aside0.mk ha
        have F := Aside0.mk Q_F
        have L := Aside0.mk Q_L
        have m0 : w'.cell? ⟨g, 12, none⟩ = some (.string sd) := blk_cell (L.out.blk HX2.out (by decide)) 12
        refine value_ (w1 := w') (v := .string sd) (by rfl) rfl ?_ ?_
        · go_simp
          (try simp only [i64_w])
          try rfl
        refine hK.out _ _ ⟨v3, v4, m9_, (by rw [ha.out]; exact putSel_upk 7 hb_ rfl rfl rfl), Q_F, Q_L, Q_R0, Q_R1, fun h0_ => absurd ((hoff 8 (by kernel_rfl)).symm.trans h0_) (by decide), fun h0_ => absurd ((hoff 9 (by kernel_rfl)).symm.trans h0_) (by decide)⟩
      refine steps_cons ?_ ?_
      · rintro b a w' ⟨v3, v4, m9_, ha, Q_F, Q_L, Q_R0, Q_R1, Q_R2, Q_X9_⟩ hb_ hon hoff
        refine ⟨_, rfl, fun K hK => ?_⟩
        have e248 : a.tmps[248]? = some (v3) := by rw [ha]; exact putSel_on (e := (4, 248, v3)) 4 rfl rfl (hon 4 (by kernel_rfl)) rfl
        have e251 : a.tmps[251]? = some (.string sd) := by rw [ha]; exact putSel_on (e := (7, 251, .string sd)) 7 rfl rfl (hon 7 (by kernel_rfl)) rfl
        replace ha := Aside0.mk ha
        have F := Aside0.mk Q_F
        have L := Aside0.mk Q_L
        have R1 := Aside0.mk (Q_R1 (hon 4 (by kernel_rfl)) hb_)
        refine goes_ (N := some 252) Try.func28 (by kernel_rfl) rfl #[v3, .string sd] (by rfl) rfl rfl (by first | (simp only [List.map_toArray, List.map_cons, List.map_nil, Act.eval, Array.getD_eq_getD_getElem?, Option.getD_some, e248, e251]; done) | (simp only [List.map_toArray, List.map_cons, List.map_nil, Act.eval, Array.getD_eq_getD_getElem?, Option.getD_some, e248, e251]; rfl)) ?_
        refine (reftext_calls w w' B v3 (((l ++ wnum si 8) ++ wnum st 8) ++ wmem sm) sd R1.out F.out (Nat.le_trans HBW2.out L.out.size) HBB.out (by have := HD.out; omega) (by have := HL.out; have := HM.out; have := HD.out; (try simp only [List.length_append, wnum_length, wmem_len]); omega)).mono ?_
        rintro e w1_ ⟨v1_, rfl, hr1, hq1, hk1⟩
        refine ⟨_, rfl, ?_⟩
        refine hK.out _ _ ⟨v3, v1_, m9_, (by rw [ha.out]; exact putSel_upk 8 hb_ rfl rfl rfl), hq1, L.out.trans hk1, fun h0_ => absurd ((hon 4 (by kernel_rfl)).symm.trans h0_) (by decide), fun _ h1_ => absurd ((up_self b 8).symm.trans h1_) (by decide), fun _ => hr1, fun h0_ => absurd ((hoff 9 (by kernel_rfl)).symm.trans h0_) (by decide)⟩
      refine steps_cons ?_ ?_
      · rintro b a w' ⟨v3, v4, m9_, ha, Q_F, Q_L, Q_R0, Q_R1, Q_R2, Q_X9_⟩ hb_ hon hoff
        refine ⟨_, rfl, fun K hK => ?_⟩
        have e252 : a.tmps[252]? = some (v4) := by rw [ha]; exact putSel_on (e := (8, 252, v4)) 8 rfl rfl (hon 8 (by kernel_rfl)) rfl
        replace ha := Aside0.mk ha
        have F := Aside0.mk Q_F
        have L := Aside0.mk Q_L
        have R2 := Aside0.mk (Q_R2 (hon 8 (by kernel_rfl)))
        refine value_ (w1 := w') (v := v4) (by rfl) rfl ?_ ?_
        · go_simp
          (try simp only [i64_w])
          try rfl
        refine hK.out _ _ ⟨v3, v4, (v4), (by rw [ha.out]; exact putSel_upk 9 hb_ rfl rfl rfl), Q_F, Q_L, fun h0_ => absurd ((hon 4 (by kernel_rfl)).symm.trans h0_) (by decide), fun _ h1_ => absurd ((hon 8 (by kernel_rfl)).symm.trans h1_) (by decide), Q_R2, fun _ => rfl⟩
      exact steps_nil
    · rintro b a w' hall ⟨v3, v4, m9_, ha, Q_F, Q_L, Q_R0, Q_R1, Q_R2, Q_X9_⟩
      clear F L R0
      have hb0_ := hall 0 (by kernel_rfl)
      have hb1_ := hall 1 (by kernel_rfl)
      have hb2_ := hall 2 (by kernel_rfl)
      have hb3_ := hall 3 (by kernel_rfl)
      have hb4_ := hall 4 (by kernel_rfl)
      have hb5_ := hall 5 (by kernel_rfl)
      have hb6_ := hall 6 (by kernel_rfl)
      have hb7_ := hall 7 (by kernel_rfl)
      have hb8_ := hall 8 (by kernel_rfl)
      have hb9_ := hall 9 (by kernel_rfl)
      subst ha
      obtain rfl := Q_X9_ hb9_
      simp only [putSel, hb0_, hb1_, hb2_, hb3_, hb4_, hb5_, hb6_, hb7_, hb8_, hb9_, if_true, Act.put, List.setIfInBounds_toArray, List.set_cons_zero, List.set_cons_succ]
      have F := Aside0.mk Q_F
      clear Q_F
      have L := Aside0.mk Q_L
      clear Q_L
      clear Q_R0
      clear Q_R1
      have R2 := Aside0.mk (Q_R2 hb8_)
      clear Q_R2
      clear hall hb0_ hb1_ hb2_ hb3_ hb4_ hb5_ hb6_ hb7_ hb8_ hb9_
      obtain ⟨A, c, ev, hc, hC⟩ := Kd.R_reads R2.out
      have HRL : Aside0 (((((l ++ wnum si 8) ++ wnum st 8) ++ wmem sm) ++ wtext sd) = (l ++ (wints [si, st] ++ (wmem sm ++ wtext sd)))) := ⟨by simp [wints]⟩
      obtain ⟨n, hn⟩ : ∃ n, n = (((((l ++ wnum si 8) ++ wnum st 8) ++ wmem sm) ++ wtext sd)).length := ⟨_, rfl⟩
      rw [← hn] at ev hc hC
      subst ev
      rw [HRL.out] at hC hn
      have HN := Aside0.mk hn
      have HC := Aside0.mk hC
      have HNC := Aside0.mk hc
      clear hn hC hc
      go_wp2
      rw [HRR.out]
      exact bodyPost_ret (v := .tuple #[.slice A n c, .int .i64 0]) (by simp [results, Try.results11, go_sem]) rfl (encQ_some HN.out HNC.out HC.out F.out)
end Go.Proofs.Ytbemfgpdfacdpaa.Ms
namespace Go.Proofs.Ytbemfgpdfacdpaa.Ms
open Go.RowKit Go.Proofs.Ytbemfgpdfacdpaa.Pr Go.Proofs.YtbemfgpdfacdpaaW.PrintWords Go.Proofs.YtbemfgpdfacdpaaW.PrintLast Go.Proofs.YtbemfgpdfacdpaaW.PrintMore
open Go.Proofs.Ytbemfgpdfacdpaa.QT (OwnAt)
set_option linter.unusedVariables false
set_option linter.unusedSimpArgs false
set_option maxHeartbeats 16000000 in
set_option maxRecDepth 100000 in
theorem refenc_calls (m : M13) (A8 : Option Addr) (n8 c8 : Nat) (A11 : Option Addr) (n11 c11 : Nat) (w : World) (hE : k46.C w A8 m.es.length m.es) (hE1 : n8 = m.es.length) (hE2 : n8 ≤ c8) (hS : (Kd.int .i64).C w A11 m.sm.length m.sm) (hS1 : n11 = m.sm.length) (hS2 : n11 ≤ c11) (h9 : ∀ e ∈ m.es, e.f4.length ≤ 20000) :
    Calls Try.prog 11 #[.agg (mcells m (.slice A8 n8 c8) (.slice A11 n11 c11))] w (EncQ w (refE m)) := by
  by_cases hb : bad1 m
  · rw [refE_bad hb]; exact refenc_bad m A8 n8 c8 A11 n11 c11 w hE1 hS1 hb
  obtain ⟨kd, fr, tt, tm, ix, lt, cm, ys, es, si, st, sm, sd⟩ := m
  have hb0 := hb
  simp only [bad1, not_or] at hb
  obtain ⟨b0, b1, b2, b3, b4, b5, b6, b7, b8, b9, b10, b11, b12, b13, b14⟩ := hb
  dsimp only at hE hE1 hS hS1 h9
  have hl8 : es.length ≤ 8 := by omega
  have hm9 : sm.length ≤ 9 := by omega
  have hd : sd.size ≤ 65536 := by omega
  have k10 : ¬ ((8 : Int) < (n8 : Int)) := by omega
  have k11 : ¬ ((9 : Int) < (n11 : Int)) := by omega
  have k12 : ¬ ((65536 : Int) < (sd.size : Int)) := by omega
  have hk : kd = 1 ∨ kd = 2 ∨ kd = 3 ∨ kd = 4 ∨ kd = 5 := by clear hE hS h9; omega
  refine refenc_head kd fr tt tm ix lt cm ys es si st sm sd A8 n8 c8 A11 n11 c11 w (decide_eq_false b0) (decide_eq_false b1) (decide_eq_false b2) (decide_eq_false b3) (decide_eq_false b4) (decide_eq_false b5) (decide_eq_false b6) (decide_eq_false b7) (decide_eq_false b8) (decide_eq_false b9) (decide_eq_false k10) (decide_eq_false k11) (decide_eq_false k12) (decide_eq_false b13) (decide_eq_false b14) hE hE1 hE2 hS hS1 hS2 h9 ?_
  clear k10 k11 k12 b0 b1 b2 b3 b4 b5 b6 b7 b8 b9 b10 b11 b12 b13 b14
  intro hso g w1 hg hX hW ts h
  have hG : w.heap.size ≤ g := Nat.le_of_eq hg.symm
  have hon : onlyM ⟨kd, fr, tt, tm, ix, lt, cm, ys, es, si, st, sm, sd⟩ = ⟨kd, fr, tt, tm, ix, lt, cm, ys, es, si, st, sm, sd⟩ := by classical exact of_decide_eq_true hso
  refine (fun hT => elimPH g (Q := fun ts => Code.wp Try.prog (encT 3) (bodyPost Try.prog Try.f11 (EncQ w (refE ⟨kd, fr, tt, tm, ix, lt, cm, ys, es, si, st, sm, sd⟩))) ⟨ts, []⟩ w1) h (fun z0 z4 z5 z6 z7 z8 z9 z10 z11 z12 z13 z14 z15 z16 z17 z18 z19 z20 z21 z22 z23 z24 z25 z26 z27 z28 z29 z30 z31 z32 z33 z34 z35 z36 z37 z38 z39 z40 z41 z42 z43 z44 z45 z46 z47 z48 z49 z50 z51 z52 z53 z54 z55 z56 z57 z58 z59 z60 z61 z62 z63 z64 z65 z66 z67 z68 z69 z70 z71 z72 z73 z74 z75 z76 z77 z78 z79 z80 z81 z82 z83 z84 z85 z86 z87 z88 z89 z90 z91 z92 z93 z94 z95 z96 z97 z98 z99 z100 z101 z102 z103 z104 z105 z106 z107 z108 z109 z110 z111 z112 z113 z114 z115 z116 z117 z118 z119 z120 z121 z122 z123 z124 z125 z126 z127 z128 z129 z130 z131 z132 z133 z134 z135 z136 z137 z138 z139 z140 z141 z142 z143 z144 z145 z146 z147 z148 z149 z150 z151 z152 z153 z154 z155 z156 z157 z158 z159 z160 z161 z162 z163 z164 z165 z166 z167 z168 z169 z170 z171 z172 z173 z174 z175 z176 z177 z178 z179 z180 z181 z182 z183 z184 z185 z186 z187 z188 z189 z190 z191 z192 z193 z194 z195 z196 z197 z198 z199 z200 z201 z202 z203 z204 z205 z206 z207 z208 z209 z210 z211 z212 z213 z214 z215 z216 z217 z218 z219 z220 z221 z222 z223 z224 z225 z226 z227 z228 z229 z230 z231 z232 z233 z234 z235 z236 z237 z238 z239 z240 z241 z242 z243 z244 z245 z246 z247 z248 z249 z250 z251 z252 z253 => refenc_t3 kd fr tt tm ix lt cm ys es si st sm sd A8 n8 c8 A11 n11 c11 w (refE ⟨kd, fr, tt, tm, ix, lt, cm, ys, es, si, st, sm, sd⟩) g w1 hE hE1 (Nat.le_trans hl8 (by decide)) h9 (fun h => by rw [refE, if_pos (.inr (.inr (.inl h)))]) hX hW hG hT z0 (.slice none 0 0) (.int .i64 0) z4 z5 z6 z7 z8 z9 z10 z11 z12 z13 z14 z15 z16 z17 z18 z19 z20 z21 z22 z23 z24 z25 z26 z27 z28 z29 z30 z31 z32 z33 z34 z35 z36 z37 z38 z39 z40 z41 z42 z43 z44 z45 z46 z47 z48 z49 z50 z51 z52 z53 z54 z55 z56 z57 z58 z59 z60 z61 z62 z63 z64 z65 z66 z67 z68 z69 z70 z71 z72 z73 z74 z75 z76 z77 z78 z79 z80 z81 z82 z83 z84 z85 z86 z87 z88 z89 z90 z91 z92 z93 z94 z95 z96 z97 z98 z99 z100 z101 z102 z103 z104 z105 z106 z107 z108 z109 z110 z111 z112 z113 z114 z115 z116 z117 z118 z119 z120 z121 z122 z123 z124 z125 z126 z127 z128 z129 z130 z131 z132 z133 z134 z135 z136 z137 z138 z139 z140 z141 z142 z143 z144 z145 z146 z147 z148 z149 z150 z151 z152 z153 z154 z155 z156 z157 z158 z159 z160 z161 z162 z163 z164 z165 z166 z167 z168 z169 z170 z171 z172 z173 z174 z175 z176 z177 z178 z179 z180 z181 z182 z183 z184 z185 z186 z187 z188 z189 z190 z191 z192 z193 z194 z195 z196 z197 z198 z199 z200 z201 z202 z203 z204 z205 z206 z207 z208 z209 z210 z211 z212 z213 z214 z215 z216 z217 z218 z219 z220 z221 z222 z223 z224 z225 z226 z227 z228 z229 z230 z231 z232 z233 z234 z235 z236 z237 z238 z239 z240 z241 z242 z243 z244 z245 z246 z247 z248 z249 z250 z251 z252 z253)) ?_
  clear h hX hW
  intro hodd w2 hX2 hW2 ts h
  refine (fun hT => elimP g (Q := fun ts => Code.wp Try.prog (encT 4) (bodyPost Try.prog Try.f11 (EncQ w (refE ⟨kd, fr, tt, tm, ix, lt, cm, ys, es, si, st, sm, sd⟩))) ⟨ts, []⟩ w2) h (refenc_t4 kd fr tt tm ix lt cm ys es si st sm sd A8 n8 c8 A11 n11 c11 w (refE ⟨kd, fr, tt, tm, ix, lt, cm, ys, es, si, st, sm, sd⟩) g w2 hS hS1 (Nat.le_trans hm9 (by decide)) (fun h => by rw [refE, if_pos (.inr (.inr (.inr h)))]) hX2 hW2 hG hT)) ?_
  clear h hX2 hW2
  intro hneg w3 hX3 hW3 ts h
  have hR : refE ⟨kd, fr, tt, tm, ix, lt, cm, ys, es, si, st, sm, sd⟩ = some (rawW ⟨kd, fr, tt, tm, ix, lt, cm, ys, es, si, st, sm, sd⟩) := by
    rw [refE, if_neg]
    rintro (h | h | ⟨e, he, h⟩ | ⟨v, hv, h⟩)
    · exact hb0 h
    · exact h hon
    · exact absurd ((hodd e he).symm.trans h) (by decide)
    · exact hneg v hv h
  refine (fun hT => elimP g (Q := fun ts => Code.wp Try.prog (encT 5) (bodyPost Try.prog Try.f11 (EncQ w (refE ⟨kd, fr, tt, tm, ix, lt, cm, ys, es, si, st, sm, sd⟩))) ⟨ts, []⟩ w3) h (refenc_t5 kd fr tt tm ix lt cm ys es si st sm sd A8 n8 c8 A11 n11 c11 w (refE ⟨kd, fr, tt, tm, ix, lt, cm, ys, es, si, st, sm, sd⟩) g w3 hX3 hW3 hG hT)) ?_
  clear h hX3 hW3
  intro v B w4 hX4 hW4 hBB hBW hRB yb ts hy h
  have hl : (wnum kd 1 ++ wints [fr, tt, tm]).length ≤ 100 := by simp [wints, wnum_length]
  rcases hk with rfl | rfl | rfl | rfl | rfl
  · exact elimP5 g v yb (Q := fun ts => Code.wp Try.prog (encT 11) (bodyPost Try.prog Try.f11 (EncQ w (refE ⟨1, fr, tt, tm, ix, lt, cm, ys, es, si, st, sm, sd⟩))) ⟨ts, []⟩ w4) h (refenc_k1 fr tt tm ix lt cm ys es si st sm sd A8 n8 c8 A11 n11 c11 w _ g w4 v B _ hX4 hW4 hBB hBW hRB hl yb (hR.trans rfl))
  · exact elimP5 g v yb (Q := fun ts => Code.wp Try.prog (encT 11) (bodyPost Try.prog Try.f11 (EncQ w (refE ⟨2, fr, tt, tm, ix, lt, cm, ys, es, si, st, sm, sd⟩))) ⟨ts, []⟩ w4) h (refenc_k2 fr tt tm ix lt cm ys es si st sm sd A8 n8 c8 A11 n11 c11 w _ g w4 v B _ hX4 hW4 hBB hBW hRB hl yb (by rw [hR, hy]; rfl))
  · exact elimP5 g v yb (Q := fun ts => Code.wp Try.prog (encT 11) (bodyPost Try.prog Try.f11 (EncQ w (refE ⟨3, fr, tt, tm, ix, lt, cm, ys, es, si, st, sm, sd⟩))) ⟨ts, []⟩ w4) h (refenc_k3 fr tt tm ix lt cm ys es si st sm sd A8 n8 c8 A11 n11 c11 w _ g w4 v B _ hX4 hW4 hBB hBW hRB hl yb hE hE1 hl8 hodd (hR.trans rfl))
  · exact elimP5 g v yb (Q := fun ts => Code.wp Try.prog (encT 11) (bodyPost Try.prog Try.f11 (EncQ w (refE ⟨4, fr, tt, tm, ix, lt, cm, ys, es, si, st, sm, sd⟩))) ⟨ts, []⟩ w4) h (refenc_k4 fr tt tm ix lt cm ys es si st sm sd A8 n8 c8 A11 n11 c11 w _ g w4 v B _ hX4 hW4 hBB hBW hRB hl yb (by rw [hR, hy]; rfl))
  · exact elimP5 g v yb (Q := fun ts => Code.wp Try.prog (encT 11) (bodyPost Try.prog Try.f11 (EncQ w (refE ⟨5, fr, tt, tm, ix, lt, cm, ys, es, si, st, sm, sd⟩))) ⟨ts, []⟩ w4) h (refenc_k5 fr tt tm ix lt cm ys es si st sm sd A8 n8 c8 A11 n11 c11 w _ g w4 v B _ hX4 hW4 hBB hBW hRB hl yb hS hS1 hS2 (Nat.le_trans hm9 (by decide)) (Nat.le_trans hd (by decide)) (hR.trans rfl))
end Go.Proofs.Ytbemfgpdfacdpaa.Ms
namespace Go.Proofs.Ytbemfgpdfacdpaa.Ms
open Go.RowKit Go.Proofs.Ytbemfgpdfacdpaa.Pr Go.Proofs.YtbemfgpdfacdpaaW.PrintWords Go.Proofs.YtbemfgpdfacdpaaW.PrintLast Go.Proofs.YtbemfgpdfacdpaaW.PrintMore
set_option linter.unusedVariables false
set_option linter.unusedSimpArgs false
theorem mem_sum : ∀ (l : List S46) (e : S46), e ∈ l → ew e ≤ (l.map ew).sum
  | a :: l, e, h => by
    rw [List.map_cons, List.sum_cons]
    rcases List.mem_cons.1 h with rfl | h
    · omega
    · have := mem_sum l e h; omega
theorem Small.mem {m : M13} (h : Small m) : ∀ e ∈ m.es, e.f4.length ≤ 20000 := fun e he => by
  have := mem_sum m.es e he
  unfold Small at h
  have h2 : e.f4.length ≤ ew e := by unfold ew; omega
  omega
end Go.Proofs.Ytbemfgpdfacdpaa.Ms
namespace Go.Proofs.Ytbemfgpdfacdpaa.Ms
open Go.RowKit Go.Proofs.Ytbemfgpdfacdpaa.Pr Go.Proofs.YtbemfgpdfacdpaaW.PrintWords Go.Proofs.YtbemfgpdfacdpaaW.PrintLast Go.Proofs.YtbemfgpdfacdpaaW.PrintMore
set_option linter.unusedVariables false
set_option linter.unusedSimpArgs false
def fx (a : Int) : Int := bits .xor .i64 a 1
theorem fx_r64 (a : Int) : R64 (fx a) := by
  unfold fx R64
  show -9223372036854775808 ≤ IntKind.i64.wrap ((BitVec.ofInt 64 a ^^^ BitVec.ofInt 64 1).toNat : Int) ∧ IntKind.i64.wrap ((BitVec.ofInt 64 a ^^^ BitVec.ofInt 64 1).toNat : Int) ≤ 9223372036854775807
  generalize ((BitVec.ofInt 64 a ^^^ BitVec.ofInt 64 1).toNat : Int) = z
  rw [IntKind.wrap_i64]
  omega
def flipM (m : M13) : Nat → M13
  | 0 => ⟨m.kd, m.fr, m.tt, m.tm, (fx m.ix), m.lt, m.cm, m.ys, m.es, m.si, m.st, m.sm, m.sd⟩
  | 1 => ⟨m.kd, m.fr, m.tt, m.tm, m.ix, (fx m.lt), m.cm, m.ys, m.es, m.si, m.st, m.sm, m.sd⟩
  | 2 => ⟨m.kd, m.fr, m.tt, m.tm, m.ix, m.lt, (fx m.cm), m.ys, m.es, m.si, m.st, m.sm, m.sd⟩
  | 3 => ⟨m.kd, m.fr, m.tt, m.tm, m.ix, m.lt, m.cm, (!m.ys), m.es, m.si, m.st, m.sm, m.sd⟩
  | _ => ⟨m.kd, m.fr, m.tt, m.tm, m.ix, m.lt, m.cm, m.ys, m.es, (fx m.si), m.st, m.sm, m.sd⟩
theorem flip_fit {m : M13} (h : FitM m) (i : Nat) : FitM (flipM m i) := by
  obtain ⟨f0, f1, f2, f3, f4, f5, f6, f7, f8, r⟩ := h
  match i with
  | 0 => exact ⟨f0, f1, f2, f3, fx_r64 _, f5, f6, f7, f8, r⟩
  | 1 => exact ⟨f0, f1, f2, f3, f4, fx_r64 _, f6, f7, f8, r⟩
  | 2 => exact ⟨f0, f1, f2, f3, f4, f5, fx_r64 _, f7, f8, r⟩
  | 3 => exact ⟨f0, f1, f2, f3, f4, f5, f6, f7, f8, r⟩
  | (_ + 4) => exact ⟨f0, f1, f2, f3, f4, f5, f6, fx_r64 _, f8, r⟩
theorem good_ix {m : M13} (h : goodM m) (hk : m.kd ≠ 1 ∧ m.kd ≠ 3 ∧ m.kd ≠ 4) : m.ix = 0 := by
  rcases h.2.2.2 with ⟨k, x, y, _, _, e⟩ | ⟨k, y, e⟩ | ⟨k, x, y, z, es, _, _, _, _, _, e⟩ | ⟨k, x, y, _, e⟩ | ⟨k, x, y, ms, s, _, _, _, _, _, e⟩
  all_goals first | (exact absurd k (by omega)) | (rw [e])
theorem refused_0 {m : M13} (hf : FitM m) (h : goodM m) (hk : m.kd ≠ 1 ∧ m.kd ≠ 3 ∧ m.kd ≠ 4) : encP (flipM m 0) = none := by
  cases he : encP (flipM m 0) with
  | none => rfl
  | some b =>
    have g := (right_enc (flip_fit hf 0) he).1
    have h1 := good_ix g hk
    have h2 := good_ix h hk
    have h3 : fx m.ix = 0 := h1
    rw [h2] at h3
    exact absurd h3 (by decide)
theorem good_lt {m : M13} (h : goodM m) (hk : m.kd ≠ 1 ∧ m.kd ≠ 3) : m.lt = 0 := by
  rcases h.2.2.2 with ⟨k, x, y, _, _, e⟩ | ⟨k, y, e⟩ | ⟨k, x, y, z, es, _, _, _, _, _, e⟩ | ⟨k, x, y, _, e⟩ | ⟨k, x, y, ms, s, _, _, _, _, _, e⟩
  all_goals first | (exact absurd k (by omega)) | (rw [e])
theorem refused_1 {m : M13} (hf : FitM m) (h : goodM m) (hk : m.kd ≠ 1 ∧ m.kd ≠ 3) : encP (flipM m 1) = none := by
  cases he : encP (flipM m 1) with
  | none => rfl
  | some b =>
    have g := (right_enc (flip_fit hf 1) he).1
    have h1 := good_lt g hk
    have h2 := good_lt h hk
    have h3 : fx m.lt = 0 := h1
    rw [h2] at h3
    exact absurd h3 (by decide)
theorem good_cm {m : M13} (h : goodM m) (hk : m.kd ≠ 3) : m.cm = 0 := by
  rcases h.2.2.2 with ⟨k, x, y, _, _, e⟩ | ⟨k, y, e⟩ | ⟨k, x, y, z, es, _, _, _, _, _, e⟩ | ⟨k, x, y, _, e⟩ | ⟨k, x, y, ms, s, _, _, _, _, _, e⟩
  all_goals first | (exact absurd k (by omega)) | (rw [e])
theorem refused_2 {m : M13} (hf : FitM m) (h : goodM m) (hk : m.kd ≠ 3) : encP (flipM m 2) = none := by
  cases he : encP (flipM m 2) with
  | none => rfl
  | some b =>
    have g := (right_enc (flip_fit hf 2) he).1
    have h1 := good_cm g hk
    have h2 := good_cm h hk
    have h3 : fx m.cm = 0 := h1
    rw [h2] at h3
    exact absurd h3 (by decide)
theorem good_ys {m : M13} (h : goodM m) (hk : m.kd ≠ 2 ∧ m.kd ≠ 4) : m.ys = false := by
  rcases h.2.2.2 with ⟨k, x, y, _, _, e⟩ | ⟨k, y, e⟩ | ⟨k, x, y, z, es, _, _, _, _, _, e⟩ | ⟨k, x, y, _, e⟩ | ⟨k, x, y, ms, s, _, _, _, _, _, e⟩
  all_goals first | (exact absurd k (by omega)) | (rw [e])
theorem refused_3 {m : M13} (hf : FitM m) (h : goodM m) (hk : m.kd ≠ 2 ∧ m.kd ≠ 4) : encP (flipM m 3) = none := by
  cases he : encP (flipM m 3) with
  | none => rfl
  | some b =>
    have g := (right_enc (flip_fit hf 3) he).1
    have h1 := good_ys g hk
    have h2 := good_ys h hk
    have h3 : (!m.ys) = false := h1
    rw [h2] at h3
    exact absurd h3 (by decide)
theorem good_si {m : M13} (h : goodM m) (hk : m.kd ≠ 5) : m.si = 0 := by
  rcases h.2.2.2 with ⟨k, x, y, _, _, e⟩ | ⟨k, y, e⟩ | ⟨k, x, y, z, es, _, _, _, _, _, e⟩ | ⟨k, x, y, _, e⟩ | ⟨k, x, y, ms, s, _, _, _, _, _, e⟩
  all_goals first | (exact absurd k (by omega)) | (rw [e])
theorem refused_4 {m : M13} (hf : FitM m) (h : goodM m) (hk : m.kd ≠ 5) : encP (flipM m 4) = none := by
  cases he : encP (flipM m 4) with
  | none => rfl
  | some b =>
    have g := (right_enc (flip_fit hf 4) he).1
    have h1 := good_si g hk
    have h2 := good_si h hk
    have h3 : fx m.si = 0 := h1
    rw [h2] at h3
    exact absurd h3 (by decide)
def refd (m : M13) (i : Nat) : Nat := if (encP (flipM m i)).isSome then 0 else 1
def cnt (m : M13) : Nat → Nat
  | 0 => 0
  | i + 1 => cnt m i + refd m i
theorem refd_le (m : M13) (i : Nat) : refd m i ≤ 1 := by unfold refd; split <;> omega
theorem refd_none {m : M13} {i : Nat} (h : encP (flipM m i) = none) : refd m i = 1 := by rw [refd, h]; rfl
theorem cnt_le (m : M13) : ∀ i, cnt m i ≤ i
  | 0 => Nat.le_refl _
  | i + 1 => by have := cnt_le m i; have := refd_le m i; show cnt m i + refd m i ≤ _; omega
theorem cnt_two {m : M13} (hf : FitM m) {b : List Int} (h : encP m = some b) : 2 ≤ cnt m 5 := by
  have g := (right_enc hf h).1
  have e : cnt m 5 = refd m 0 + refd m 1 + refd m 2 + refd m 3 + refd m 4 := by simp only [cnt]; omega
  have hk : m.kd = 1 ∨ m.kd = 2 ∨ m.kd = 3 ∨ m.kd = 4 ∨ m.kd = 5 := by
    rcases g.2.2.2 with ⟨k, _⟩ | ⟨k, _⟩ | ⟨k, _⟩ | ⟨k, _⟩ | ⟨k, _⟩ <;> omega
  rcases hk with hk | hk | hk | hk | hk
  · have h1 := refd_none (refused_2 hf g (by omega)); have h2 := refd_none (refused_4 hf g (by omega)); omega
  · have h1 := refd_none (refused_0 hf g (by omega)); have h2 := refd_none (refused_1 hf g (by omega)); omega
  · have h1 := refd_none (refused_3 hf g (by omega)); have h2 := refd_none (refused_4 hf g (by omega)); omega
  · have h1 := refd_none (refused_1 hf g (by omega)); have h2 := refd_none (refused_2 hf g (by omega)); omega
  · have h1 := refd_none (refused_0 hf g (by omega)); have h2 := refd_none (refused_1 hf g (by omega)); omega
end Go.Proofs.Ytbemfgpdfacdpaa.Ms
namespace Go.Proofs.Ytbemfgpdfacdpaa.Ms
open Go.RowKit Go.Proofs.Ytbemfgpdfacdpaa.Pr Go.Proofs.YtbemfgpdfacdpaaW.PrintWords Go.Proofs.YtbemfgpdfacdpaaW.PrintLast Go.Proofs.YtbemfgpdfacdpaaW.PrintMore
set_option linter.unusedVariables false
set_option linter.unusedSimpArgs false
theorem flip_small {m : M13} (h : Small m) (i : Nat) : Small (flipM m i) := by
  match i with
  | 0 => exact h
  | 1 => exact h
  | 2 => exact h
  | 3 => exact h
  | (_ + 4) => exact h
set_option maxHeartbeats 32000000 in
set_option maxRecDepth 100000 in
theorem fields_calls (m : M13) (A8 : Option Addr) (n8 c8 : Nat) (A11 : Option Addr) (n11 c11 : Nat) (w : World) (hE : n8 = m.es.length ∧ n8 ≤ c8 ∧ k46.C w A8 n8 m.es) (hS : n11 = m.sm.length ∧ n11 ≤ c11 ∧ (Kd.int .i64).C w A11 n11 m.sm) (hF : FitM m) :
    Calls Try.prog 7 #[.agg (mcells m (.slice A8 n8 c8) (.slice A11 n11 c11))] w fun e w' => e = .returned (.bool true) ∧ Below w.heap.size w w' := by
  have HA := Aside0.mk (fun w => awake_calls w)
  have HE := Aside0.mk hE
  have HS := Aside0.mk hS
  have HF := Aside0.mk hF
  obtain ⟨bi, hbi, hsm⟩ := in_f m hF
  have HBI := Aside0.mk hbi
  have HSM := Aside0.mk hsm
  clear hE hS hF hbi hsm
  go_enter Try.func7, Try.ntmps7
  go_upto_region 1 with (fail)
  generalize hw1 : World.alloc w _ = w1
  obtain ⟨gb, hgb⟩ : ∃ gb, gb = w.heap.size := ⟨_, rfl⟩
  rw [← hgb]
  have HX1 : Aside0 (w1.heap[gb]? = some (.cells (mcells m (.slice A8 n8 c8) (.slice A11 n11 c11)) 27 (0, 0))) := ⟨by rw [← hw1, hgb]; exact blk_new _ _⟩
  have HB1 : Aside0 (Below w.heap.size w w1) := ⟨by rw [← hw1]; exact below_alloc (Below.refl _ _) _⟩
  clear hw1 hgb
  go_wp2_with (refine wpList_load_row rfl 27 _ rfl gb rfl 27 (mcells m (.slice A8 n8 c8) (.slice A11 n11 c11)) (0, 0) _ HX1.out Try.underlying27 rfl size_msg ?_)
  have qi := parapetlaw7_in.calls (m.es.length + 1) m.kd m.fr m.tt m.tm m.ix m.lt m.cm m.ys A8 c8 m.es m.si m.st A11 c11 m.sm m.sd bi w1 (by have q := Kd.C_below HE.out.2.2 HB1.out; rw [HE.out.1] at q; exact q) (by rw [← HE.out.1]; exact HE.out.2.1) (by have q := Kd.C_below HS.out.2.2 HB1.out; rw [HS.out.1] at q; exact q) (by rw [← HS.out.1]; exact HS.out.2.1) HBI.out
  rw [← HE.out.1, ← HS.out.1] at qi
  refine (show Calls Try.prog 8 #[.agg (mcells m (.slice A8 n8 c8) (.slice A11 n11 c11))] w1 _ from qi).mono ?_
  rintro e w2 ⟨rfl, hb⟩
  have HX2 := Aside0.mk (blk_below HX1.out hb)
  have HB2 := Aside0.mk (HB1.out.trans (hb.mono HB1.out.size))
  clear hb qi HX1 HB1 HBI
  cases bi
  · go_wp2_with fail
    refine (HA.out _).mono ?_
    rintro e w3 ⟨rfl, hb⟩
    have HB3 := Aside0.mk (HB2.out.trans (hb.mono HB2.out.size))
    clear hb
    go_wp2
    go_ret
    exact ⟨rfl, HB3.out⟩
  have HSML := Aside0.mk (HSM.out rfl)
  clear HSM
  go_wp2_with (refine wpList_load_row rfl 27 _ rfl gb rfl 27 (mcells m (.slice A8 n8 c8) (.slice A11 n11 c11)) (0, 0) _ HX2.out Try.underlying27 rfl size_msg ?_)
  refine (encode_calls m A8 n8 c8 A11 n11 c11 w2 (Kd.C_below HE.out.2.2 HB2.out) HE.out.1 HE.out.2.1 (Kd.C_below HS.out.2.2 HB2.out) HS.out.1 HS.out.2.1 (by have := (raw_small HSML.out).1; omega) (by have := (raw_small HSML.out).2; omega)).mono ?_
  obtain ⟨q, hq⟩ : ∃ q, q = encP m := ⟨_, rfl⟩
  rw [← hq]
  rintro e w3 ⟨⟨A, n, c, rfl, hn, hc, hC⟩, hb⟩
  have HX3 := Aside0.mk (blk_below HX2.out hb)
  have HB3 := Aside0.mk (HB2.out.trans (hb.mono HB2.out.size))
  have HQ := Aside0.mk hq
  clear hb hq hn hc hC HX2 HB2
  cases q
  · simp only [Option.isSome_none, Bool.false_eq_true, ↓reduceIte]
    go_wp2_with fail
    refine (HA.out _).mono ?_
    rintro e w4 ⟨rfl, hb⟩
    have HB4 := Aside0.mk (HB3.out.trans (hb.mono HB3.out.size))
    clear hb
    go_wp2
    go_ret
    exact ⟨rfl, HB4.out⟩
  rename_i bs
  simp only [Option.isSome_some, ↓reduceIte]
  have HTWO := Aside0.mk (cnt_two HF.out HQ.out.symm)
  clear HQ
  go_wp2_with fail
  go_loopg [5, 6] 5 (fun gk v5 v6 wr => ∃ (i : Nat), v6 = .int .i64 i ∧ v5 = .int .i64 (cnt m i : Nat) ∧ Aside0 (i ≤ 5) ∧ Aside0 (5 - i ≤ gk) ∧ Aside0 (wr.heap[gb]? = some (.cells (mcells m (.slice A8 n8 c8) (.slice A11 n11 c11)) 27 (0, 0))) ∧ Aside0 (Below w.heap.size w wr))
  case atStart => exact ⟨0, rfl, rfl, ⟨by omega⟩, ⟨by omega⟩, HX3, HB3⟩
  case round =>
    clear HX3 HB3
    obtain ⟨i, rfl, rfl, HI, HGK, HX, HB⟩ := hrel
    by_cases hlt : i < 5
    · have hi : i = 0 ∨ i = 1 ∨ i = 2 ∨ i = 3 ∨ i = 4 := by omega
      clear hlt
      rcases hi with rfl | rfl | rfl | rfl | rfl
      · obtain ⟨gx, hgx⟩ : ∃ gx, gx = wr.heap.size := ⟨_, rfl⟩
        go_upto_region 13 with (first
          | refine wpList_load_row rfl 27 _ rfl gb rfl 27 (mcells m (.slice A8 n8 c8) (.slice A11 n11 c11)) (0, 0) _ HX.out Try.underlying27 rfl size_msg ?_
          | refine wpList_store_row rfl 27 _ _ rfl wr.heap.size (mcells m (.slice A8 n8 c8) (.slice A11 n11 c11)) rfl rfl 27 _ (blk_new wr _) size_msg rfl (one_cells _ _ _ _ _ _ _) ?_)
        generalize hv : World.setRow (World.alloc wr _) _ _ = v
        rw [← hgx]
        have hUV : Below wr.heap.size wr v := by rw [← hv]; exact below_setRow (below_alloc (Below.refl _ _) _) (Nat.le_refl _) _
        have hGX : v.heap[gx]? = some (.cells (mcells m (.slice A8 n8 c8) (.slice A11 n11 c11)) 27 (0, 0)) := by rw [← hv, hgx]; exact setRow_heap _ _ _ _ _ _ (blk_new _ _)
        have HGB : Aside0 (gb ≠ gx) := ⟨by have := blk_lt HX.out; omega⟩
        have HGW : Aside0 (w.heap.size ≤ gx) := ⟨by rw [hgx]; exact HB.out.size⟩
        have HXV := Aside0.mk (blk_below HX.out hUV)
        have HBV := Aside0.mk (HB.out.trans (hUV.mono HB.out.size))
        have m0 : v.cell? ⟨gx, 4, none⟩ = some (.int .i64 m.ix) := blk_cell hGX 4
        have f0 := blk_frozen hGX 4
        obtain ⟨v1, hv1⟩ : ∃ v1, v1 = v.setCell ⟨gx, 4, none⟩ (.int .i64 (bits .xor .i64 m.ix 1)) := ⟨_, rfl⟩
        have HV1 := Aside0.mk hv1
        have HGX1 : Aside0 (v1.heap[gx]? = some (.cells (mcells (flipM m 0) (.slice A8 n8 c8) (.slice A11 n11 c11)) 27 (0, 0))) := ⟨by rw [hv1]; exact blk_set hGX 4 _⟩
        have HX1 : Aside0 (v1.heap[gb]? = some (.cells (mcells m (.slice A8 n8 c8) (.slice A11 n11 c11)) 27 (0, 0))) := ⟨by rw [hv1]; exact blk_far HXV.out (p := ⟨gx, 4, none⟩) HGB.out _⟩
        have HB1 : Aside0 (Below w.heap.size w v1) := ⟨by rw [hv1]; exact HBV.out.setCell (p := ⟨gx, 4, none⟩) HGW.out _⟩
        clear hv hgx hUV hGX hv1 HX HB HXV HBV
        go_upto_region 22 with (fail)
        rw [← HV1.out]
        clear HV1 m0 f0
        go_wp2_with (refine wpList_load_row rfl 27 _ rfl gx rfl 27 (mcells (flipM m 0) (.slice A8 n8 c8) (.slice A11 n11 c11)) (0, 0) _ HGX1.out Try.underlying27 rfl size_msg ?_)
        refine (encode_calls (flipM m 0) A8 n8 c8 A11 n11 c11 v1 (Kd.C_below HE.out.2.2 HB1.out) HE.out.1 HE.out.2.1 (Kd.C_below HS.out.2.2 HB1.out) HS.out.1 HS.out.2.1 (Nat.le_trans (raw_small (flip_small HSML.out 0)).1 (by decide)) (Nat.le_trans (raw_small (flip_small HSML.out 0)).2 (by decide))).mono ?_
        obtain ⟨q, hq⟩ : ∃ q, q = encP (flipM m 0) := ⟨_, rfl⟩
        rw [← hq]
        rintro e v2 ⟨⟨A2, n2, c2, rfl, hn2, hc2, hC2⟩, hb⟩
        have HGX2 := Aside0.mk (blk_below HGX1.out hb)
        have HX2 := Aside0.mk (blk_below HX1.out hb)
        have HB2 := Aside0.mk (HB1.out.trans (hb.mono HB1.out.size))
        have HQ : Aside0 (refE (flipM m 0) = q) := ⟨by rw [hq]; exact (enc_ref (flip_fit HF.out 0)).symm⟩
        have HRD : Aside0 (refd m 0 = if q.isSome then 0 else 1) := ⟨by rw [refd, hq]⟩
        clear hb hn2 hc2 hC2 hq HGX1 HX1 HB1
        dsimp only
        obtain ⟨cc, hcc⟩ : ∃ cc, cc = cnt m 0 := ⟨_, rfl⟩
        have hcl : cc ≤ 0 := by rw [hcc]; exact cnt_le m 0
        have HC1 : Aside0 (cnt m (0 + 1) = cc + refd m 0) := ⟨by rw [hcc]; rfl⟩
        rw [← hcc]
        clear hcc
        cases q with
        | none =>
          simp only [Option.isSome_none, Bool.false_eq_true, ↓reduceIte] at HRD ⊢
          go_wp2_with (refine wpList_load_row rfl 27 _ rfl gx rfl 27 (mcells (flipM m 0) (.slice A8 n8 c8) (.slice A11 n11 c11)) (0, 0) _ HGX2.out Try.underlying27 rfl size_msg ?_)
          refine (refenc_calls (flipM m 0) A8 n8 c8 A11 n11 c11 v2 (by have q := Kd.C_below HE.out.2.2 HB2.out; rw [HE.out.1] at q; exact q) HE.out.1 HE.out.2.1 (by have q := Kd.C_below HS.out.2.2 HB2.out; rw [HS.out.1] at q; exact q) HS.out.1 HS.out.2.1 (flip_small HSML.out 0).mem).mono ?_
          rw [HQ.out]
          rintro e v3 ⟨⟨A3, n3, c3, rfl, hn3, hc3, hC3⟩, hb⟩
          have HX3 := Aside0.mk (blk_below HX2.out hb)
          have HB3 := Aside0.mk (HB2.out.trans (hb.mono HB2.out.size))
          clear hb hn3 hc3 hC3 HX2 HB2 HGX2
          simp only [Option.isSome_none, Bool.false_eq_true, ↓reduceIte]
          go_wp2_with fail
          go_roundg (5 - (0 + 1))
          case measure => have := HGK.out; omega
          case rel => exact ⟨0 + 1, by first | rfl | go_num, by rw [HC1.out, HRD.out]; first | rfl | go_num, ⟨by omega⟩, ⟨Nat.le_refl _⟩, HX3, HB3⟩
        | some b2 =>
          simp only [Option.isSome_some, ↓reduceIte] at HRD ⊢
          go_wp2_with (refine wpList_load_row rfl 27 _ rfl gx rfl 27 (mcells (flipM m 0) (.slice A8 n8 c8) (.slice A11 n11 c11)) (0, 0) _ HGX2.out Try.underlying27 rfl size_msg ?_)
          refine (refenc_calls (flipM m 0) A8 n8 c8 A11 n11 c11 v2 (by have q := Kd.C_below HE.out.2.2 HB2.out; rw [HE.out.1] at q; exact q) HE.out.1 HE.out.2.1 (by have q := Kd.C_below HS.out.2.2 HB2.out; rw [HS.out.1] at q; exact q) HS.out.1 HS.out.2.1 (flip_small HSML.out 0).mem).mono ?_
          rw [HQ.out]
          rintro e v3 ⟨⟨A3, n3, c3, rfl, hn3, hc3, hC3⟩, hb⟩
          have HX3 := Aside0.mk (blk_below HX2.out hb)
          have HB3 := Aside0.mk (HB2.out.trans (hb.mono HB2.out.size))
          clear hb hn3 hc3 hC3 HX2 HB2 HGX2
          simp only [Option.isSome_some, ↓reduceIte]
          go_wp2_with fail
          go_roundg (5 - (0 + 1))
          case measure => have := HGK.out; omega
          case rel => exact ⟨0 + 1, by first | rfl | go_num, by rw [HC1.out, HRD.out]; first | rfl | go_num, ⟨by omega⟩, ⟨Nat.le_refl _⟩, HX3, HB3⟩
      · obtain ⟨gx, hgx⟩ : ∃ gx, gx = wr.heap.size := ⟨_, rfl⟩
        go_upto_region 15 with (first
          | refine wpList_load_row rfl 27 _ rfl gb rfl 27 (mcells m (.slice A8 n8 c8) (.slice A11 n11 c11)) (0, 0) _ HX.out Try.underlying27 rfl size_msg ?_
          | refine wpList_store_row rfl 27 _ _ rfl wr.heap.size (mcells m (.slice A8 n8 c8) (.slice A11 n11 c11)) rfl rfl 27 _ (blk_new wr _) size_msg rfl (one_cells _ _ _ _ _ _ _) ?_)
        generalize hv : World.setRow (World.alloc wr _) _ _ = v
        rw [← hgx]
        have hUV : Below wr.heap.size wr v := by rw [← hv]; exact below_setRow (below_alloc (Below.refl _ _) _) (Nat.le_refl _) _
        have hGX : v.heap[gx]? = some (.cells (mcells m (.slice A8 n8 c8) (.slice A11 n11 c11)) 27 (0, 0)) := by rw [← hv, hgx]; exact setRow_heap _ _ _ _ _ _ (blk_new _ _)
        have HGB : Aside0 (gb ≠ gx) := ⟨by have := blk_lt HX.out; omega⟩
        have HGW : Aside0 (w.heap.size ≤ gx) := ⟨by rw [hgx]; exact HB.out.size⟩
        have HXV := Aside0.mk (blk_below HX.out hUV)
        have HBV := Aside0.mk (HB.out.trans (hUV.mono HB.out.size))
        have m0 : v.cell? ⟨gx, 5, none⟩ = some (.int .i64 m.lt) := blk_cell hGX 5
        have f0 := blk_frozen hGX 5
        obtain ⟨v1, hv1⟩ : ∃ v1, v1 = v.setCell ⟨gx, 5, none⟩ (.int .i64 (bits .xor .i64 m.lt 1)) := ⟨_, rfl⟩
        have HV1 := Aside0.mk hv1
        have HGX1 : Aside0 (v1.heap[gx]? = some (.cells (mcells (flipM m 1) (.slice A8 n8 c8) (.slice A11 n11 c11)) 27 (0, 0))) := ⟨by rw [hv1]; exact blk_set hGX 5 _⟩
        have HX1 : Aside0 (v1.heap[gb]? = some (.cells (mcells m (.slice A8 n8 c8) (.slice A11 n11 c11)) 27 (0, 0))) := ⟨by rw [hv1]; exact blk_far HXV.out (p := ⟨gx, 5, none⟩) HGB.out _⟩
        have HB1 : Aside0 (Below w.heap.size w v1) := ⟨by rw [hv1]; exact HBV.out.setCell (p := ⟨gx, 5, none⟩) HGW.out _⟩
        clear hv hgx hUV hGX hv1 HX HB HXV HBV
        go_upto_region 22 with (fail)
        rw [← HV1.out]
        clear HV1 m0 f0
        go_wp2_with (refine wpList_load_row rfl 27 _ rfl gx rfl 27 (mcells (flipM m 1) (.slice A8 n8 c8) (.slice A11 n11 c11)) (0, 0) _ HGX1.out Try.underlying27 rfl size_msg ?_)
        refine (encode_calls (flipM m 1) A8 n8 c8 A11 n11 c11 v1 (Kd.C_below HE.out.2.2 HB1.out) HE.out.1 HE.out.2.1 (Kd.C_below HS.out.2.2 HB1.out) HS.out.1 HS.out.2.1 (Nat.le_trans (raw_small (flip_small HSML.out 1)).1 (by decide)) (Nat.le_trans (raw_small (flip_small HSML.out 1)).2 (by decide))).mono ?_
        obtain ⟨q, hq⟩ : ∃ q, q = encP (flipM m 1) := ⟨_, rfl⟩
        rw [← hq]
        rintro e v2 ⟨⟨A2, n2, c2, rfl, hn2, hc2, hC2⟩, hb⟩
        have HGX2 := Aside0.mk (blk_below HGX1.out hb)
        have HX2 := Aside0.mk (blk_below HX1.out hb)
        have HB2 := Aside0.mk (HB1.out.trans (hb.mono HB1.out.size))
        have HQ : Aside0 (refE (flipM m 1) = q) := ⟨by rw [hq]; exact (enc_ref (flip_fit HF.out 1)).symm⟩
        have HRD : Aside0 (refd m 1 = if q.isSome then 0 else 1) := ⟨by rw [refd, hq]⟩
        clear hb hn2 hc2 hC2 hq HGX1 HX1 HB1
        dsimp only
        obtain ⟨cc, hcc⟩ : ∃ cc, cc = cnt m 1 := ⟨_, rfl⟩
        have hcl : cc ≤ 1 := by rw [hcc]; exact cnt_le m 1
        have HC1 : Aside0 (cnt m (1 + 1) = cc + refd m 1) := ⟨by rw [hcc]; rfl⟩
        rw [← hcc]
        clear hcc
        cases q with
        | none =>
          simp only [Option.isSome_none, Bool.false_eq_true, ↓reduceIte] at HRD ⊢
          go_wp2_with (refine wpList_load_row rfl 27 _ rfl gx rfl 27 (mcells (flipM m 1) (.slice A8 n8 c8) (.slice A11 n11 c11)) (0, 0) _ HGX2.out Try.underlying27 rfl size_msg ?_)
          refine (refenc_calls (flipM m 1) A8 n8 c8 A11 n11 c11 v2 (by have q := Kd.C_below HE.out.2.2 HB2.out; rw [HE.out.1] at q; exact q) HE.out.1 HE.out.2.1 (by have q := Kd.C_below HS.out.2.2 HB2.out; rw [HS.out.1] at q; exact q) HS.out.1 HS.out.2.1 (flip_small HSML.out 1).mem).mono ?_
          rw [HQ.out]
          rintro e v3 ⟨⟨A3, n3, c3, rfl, hn3, hc3, hC3⟩, hb⟩
          have HX3 := Aside0.mk (blk_below HX2.out hb)
          have HB3 := Aside0.mk (HB2.out.trans (hb.mono HB2.out.size))
          clear hb hn3 hc3 hC3 HX2 HB2 HGX2
          simp only [Option.isSome_none, Bool.false_eq_true, ↓reduceIte]
          go_wp2_with fail
          go_roundg (5 - (1 + 1))
          case measure => have := HGK.out; omega
          case rel => exact ⟨1 + 1, by first | rfl | go_num, by rw [HC1.out, HRD.out]; first | rfl | go_num, ⟨by omega⟩, ⟨Nat.le_refl _⟩, HX3, HB3⟩
        | some b2 =>
          simp only [Option.isSome_some, ↓reduceIte] at HRD ⊢
          go_wp2_with (refine wpList_load_row rfl 27 _ rfl gx rfl 27 (mcells (flipM m 1) (.slice A8 n8 c8) (.slice A11 n11 c11)) (0, 0) _ HGX2.out Try.underlying27 rfl size_msg ?_)
          refine (refenc_calls (flipM m 1) A8 n8 c8 A11 n11 c11 v2 (by have q := Kd.C_below HE.out.2.2 HB2.out; rw [HE.out.1] at q; exact q) HE.out.1 HE.out.2.1 (by have q := Kd.C_below HS.out.2.2 HB2.out; rw [HS.out.1] at q; exact q) HS.out.1 HS.out.2.1 (flip_small HSML.out 1).mem).mono ?_
          rw [HQ.out]
          rintro e v3 ⟨⟨A3, n3, c3, rfl, hn3, hc3, hC3⟩, hb⟩
          have HX3 := Aside0.mk (blk_below HX2.out hb)
          have HB3 := Aside0.mk (HB2.out.trans (hb.mono HB2.out.size))
          clear hb hn3 hc3 hC3 HX2 HB2 HGX2
          simp only [Option.isSome_some, ↓reduceIte]
          go_wp2_with fail
          go_roundg (5 - (1 + 1))
          case measure => have := HGK.out; omega
          case rel => exact ⟨1 + 1, by first | rfl | go_num, by rw [HC1.out, HRD.out]; first | rfl | go_num, ⟨by omega⟩, ⟨Nat.le_refl _⟩, HX3, HB3⟩
      · obtain ⟨gx, hgx⟩ : ∃ gx, gx = wr.heap.size := ⟨_, rfl⟩
        go_upto_region 17 with (first
          | refine wpList_load_row rfl 27 _ rfl gb rfl 27 (mcells m (.slice A8 n8 c8) (.slice A11 n11 c11)) (0, 0) _ HX.out Try.underlying27 rfl size_msg ?_
          | refine wpList_store_row rfl 27 _ _ rfl wr.heap.size (mcells m (.slice A8 n8 c8) (.slice A11 n11 c11)) rfl rfl 27 _ (blk_new wr _) size_msg rfl (one_cells _ _ _ _ _ _ _) ?_)
        generalize hv : World.setRow (World.alloc wr _) _ _ = v
        rw [← hgx]
        have hUV : Below wr.heap.size wr v := by rw [← hv]; exact below_setRow (below_alloc (Below.refl _ _) _) (Nat.le_refl _) _
        have hGX : v.heap[gx]? = some (.cells (mcells m (.slice A8 n8 c8) (.slice A11 n11 c11)) 27 (0, 0)) := by rw [← hv, hgx]; exact setRow_heap _ _ _ _ _ _ (blk_new _ _)
        have HGB : Aside0 (gb ≠ gx) := ⟨by have := blk_lt HX.out; omega⟩
        have HGW : Aside0 (w.heap.size ≤ gx) := ⟨by rw [hgx]; exact HB.out.size⟩
        have HXV := Aside0.mk (blk_below HX.out hUV)
        have HBV := Aside0.mk (HB.out.trans (hUV.mono HB.out.size))
        have m0 : v.cell? ⟨gx, 6, none⟩ = some (.int .i64 m.cm) := blk_cell hGX 6
        have f0 := blk_frozen hGX 6
        obtain ⟨v1, hv1⟩ : ∃ v1, v1 = v.setCell ⟨gx, 6, none⟩ (.int .i64 (bits .xor .i64 m.cm 1)) := ⟨_, rfl⟩
        have HV1 := Aside0.mk hv1
        have HGX1 : Aside0 (v1.heap[gx]? = some (.cells (mcells (flipM m 2) (.slice A8 n8 c8) (.slice A11 n11 c11)) 27 (0, 0))) := ⟨by rw [hv1]; exact blk_set hGX 6 _⟩
        have HX1 : Aside0 (v1.heap[gb]? = some (.cells (mcells m (.slice A8 n8 c8) (.slice A11 n11 c11)) 27 (0, 0))) := ⟨by rw [hv1]; exact blk_far HXV.out (p := ⟨gx, 6, none⟩) HGB.out _⟩
        have HB1 : Aside0 (Below w.heap.size w v1) := ⟨by rw [hv1]; exact HBV.out.setCell (p := ⟨gx, 6, none⟩) HGW.out _⟩
        clear hv hgx hUV hGX hv1 HX HB HXV HBV
        go_upto_region 22 with (fail)
        rw [← HV1.out]
        clear HV1 m0 f0
        go_wp2_with (refine wpList_load_row rfl 27 _ rfl gx rfl 27 (mcells (flipM m 2) (.slice A8 n8 c8) (.slice A11 n11 c11)) (0, 0) _ HGX1.out Try.underlying27 rfl size_msg ?_)
        refine (encode_calls (flipM m 2) A8 n8 c8 A11 n11 c11 v1 (Kd.C_below HE.out.2.2 HB1.out) HE.out.1 HE.out.2.1 (Kd.C_below HS.out.2.2 HB1.out) HS.out.1 HS.out.2.1 (Nat.le_trans (raw_small (flip_small HSML.out 2)).1 (by decide)) (Nat.le_trans (raw_small (flip_small HSML.out 2)).2 (by decide))).mono ?_
        obtain ⟨q, hq⟩ : ∃ q, q = encP (flipM m 2) := ⟨_, rfl⟩
        rw [← hq]
        rintro e v2 ⟨⟨A2, n2, c2, rfl, hn2, hc2, hC2⟩, hb⟩
        have HGX2 := Aside0.mk (blk_below HGX1.out hb)
        have HX2 := Aside0.mk (blk_below HX1.out hb)
        have HB2 := Aside0.mk (HB1.out.trans (hb.mono HB1.out.size))
        have HQ : Aside0 (refE (flipM m 2) = q) := ⟨by rw [hq]; exact (enc_ref (flip_fit HF.out 2)).symm⟩
        have HRD : Aside0 (refd m 2 = if q.isSome then 0 else 1) := ⟨by rw [refd, hq]⟩
        clear hb hn2 hc2 hC2 hq HGX1 HX1 HB1
        dsimp only
        obtain ⟨cc, hcc⟩ : ∃ cc, cc = cnt m 2 := ⟨_, rfl⟩
        have hcl : cc ≤ 2 := by rw [hcc]; exact cnt_le m 2
        have HC1 : Aside0 (cnt m (2 + 1) = cc + refd m 2) := ⟨by rw [hcc]; rfl⟩
        rw [← hcc]
        clear hcc
        cases q with
        | none =>
          simp only [Option.isSome_none, Bool.false_eq_true, ↓reduceIte] at HRD ⊢
          go_wp2_with (refine wpList_load_row rfl 27 _ rfl gx rfl 27 (mcells (flipM m 2) (.slice A8 n8 c8) (.slice A11 n11 c11)) (0, 0) _ HGX2.out Try.underlying27 rfl size_msg ?_)
          refine (refenc_calls (flipM m 2) A8 n8 c8 A11 n11 c11 v2 (by have q := Kd.C_below HE.out.2.2 HB2.out; rw [HE.out.1] at q; exact q) HE.out.1 HE.out.2.1 (by have q := Kd.C_below HS.out.2.2 HB2.out; rw [HS.out.1] at q; exact q) HS.out.1 HS.out.2.1 (flip_small HSML.out 2).mem).mono ?_
          rw [HQ.out]
          rintro e v3 ⟨⟨A3, n3, c3, rfl, hn3, hc3, hC3⟩, hb⟩
          have HX3 := Aside0.mk (blk_below HX2.out hb)
          have HB3 := Aside0.mk (HB2.out.trans (hb.mono HB2.out.size))
          clear hb hn3 hc3 hC3 HX2 HB2 HGX2
          simp only [Option.isSome_none, Bool.false_eq_true, ↓reduceIte]
          go_wp2_with fail
          go_roundg (5 - (2 + 1))
          case measure => have := HGK.out; omega
          case rel => exact ⟨2 + 1, by first | rfl | go_num, by rw [HC1.out, HRD.out]; first | rfl | go_num, ⟨by omega⟩, ⟨Nat.le_refl _⟩, HX3, HB3⟩
        | some b2 =>
          simp only [Option.isSome_some, ↓reduceIte] at HRD ⊢
          go_wp2_with (refine wpList_load_row rfl 27 _ rfl gx rfl 27 (mcells (flipM m 2) (.slice A8 n8 c8) (.slice A11 n11 c11)) (0, 0) _ HGX2.out Try.underlying27 rfl size_msg ?_)
          refine (refenc_calls (flipM m 2) A8 n8 c8 A11 n11 c11 v2 (by have q := Kd.C_below HE.out.2.2 HB2.out; rw [HE.out.1] at q; exact q) HE.out.1 HE.out.2.1 (by have q := Kd.C_below HS.out.2.2 HB2.out; rw [HS.out.1] at q; exact q) HS.out.1 HS.out.2.1 (flip_small HSML.out 2).mem).mono ?_
          rw [HQ.out]
          rintro e v3 ⟨⟨A3, n3, c3, rfl, hn3, hc3, hC3⟩, hb⟩
          have HX3 := Aside0.mk (blk_below HX2.out hb)
          have HB3 := Aside0.mk (HB2.out.trans (hb.mono HB2.out.size))
          clear hb hn3 hc3 hC3 HX2 HB2 HGX2
          simp only [Option.isSome_some, ↓reduceIte]
          go_wp2_with fail
          go_roundg (5 - (2 + 1))
          case measure => have := HGK.out; omega
          case rel => exact ⟨2 + 1, by first | rfl | go_num, by rw [HC1.out, HRD.out]; first | rfl | go_num, ⟨by omega⟩, ⟨Nat.le_refl _⟩, HX3, HB3⟩
      · obtain ⟨gx, hgx⟩ : ∃ gx, gx = wr.heap.size := ⟨_, rfl⟩
        go_upto_region 19 with (first
          | refine wpList_load_row rfl 27 _ rfl gb rfl 27 (mcells m (.slice A8 n8 c8) (.slice A11 n11 c11)) (0, 0) _ HX.out Try.underlying27 rfl size_msg ?_
          | refine wpList_store_row rfl 27 _ _ rfl wr.heap.size (mcells m (.slice A8 n8 c8) (.slice A11 n11 c11)) rfl rfl 27 _ (blk_new wr _) size_msg rfl (one_cells _ _ _ _ _ _ _) ?_)
        generalize hv : World.setRow (World.alloc wr _) _ _ = v
        rw [← hgx]
        have hUV : Below wr.heap.size wr v := by rw [← hv]; exact below_setRow (below_alloc (Below.refl _ _) _) (Nat.le_refl _) _
        have hGX : v.heap[gx]? = some (.cells (mcells m (.slice A8 n8 c8) (.slice A11 n11 c11)) 27 (0, 0)) := by rw [← hv, hgx]; exact setRow_heap _ _ _ _ _ _ (blk_new _ _)
        have HGB : Aside0 (gb ≠ gx) := ⟨by have := blk_lt HX.out; omega⟩
        have HGW : Aside0 (w.heap.size ≤ gx) := ⟨by rw [hgx]; exact HB.out.size⟩
        have HXV := Aside0.mk (blk_below HX.out hUV)
        have HBV := Aside0.mk (HB.out.trans (hUV.mono HB.out.size))
        have m0 : v.cell? ⟨gx, 7, none⟩ = some (.bool m.ys) := blk_cell hGX 7
        have f0 := blk_frozen hGX 7
        obtain ⟨v1, hv1⟩ : ∃ v1, v1 = v.setCell ⟨gx, 7, none⟩ (.bool (!m.ys)) := ⟨_, rfl⟩
        have HV1 := Aside0.mk hv1
        have HGX1 : Aside0 (v1.heap[gx]? = some (.cells (mcells (flipM m 3) (.slice A8 n8 c8) (.slice A11 n11 c11)) 27 (0, 0))) := ⟨by rw [hv1]; exact blk_set hGX 7 _⟩
        have HX1 : Aside0 (v1.heap[gb]? = some (.cells (mcells m (.slice A8 n8 c8) (.slice A11 n11 c11)) 27 (0, 0))) := ⟨by rw [hv1]; exact blk_far HXV.out (p := ⟨gx, 7, none⟩) HGB.out _⟩
        have HB1 : Aside0 (Below w.heap.size w v1) := ⟨by rw [hv1]; exact HBV.out.setCell (p := ⟨gx, 7, none⟩) HGW.out _⟩
        clear hv hgx hUV hGX hv1 HX HB HXV HBV
        go_upto_region 22 with (fail)
        rw [← HV1.out]
        clear HV1 m0 f0
        go_wp2_with (refine wpList_load_row rfl 27 _ rfl gx rfl 27 (mcells (flipM m 3) (.slice A8 n8 c8) (.slice A11 n11 c11)) (0, 0) _ HGX1.out Try.underlying27 rfl size_msg ?_)
        refine (encode_calls (flipM m 3) A8 n8 c8 A11 n11 c11 v1 (Kd.C_below HE.out.2.2 HB1.out) HE.out.1 HE.out.2.1 (Kd.C_below HS.out.2.2 HB1.out) HS.out.1 HS.out.2.1 (Nat.le_trans (raw_small (flip_small HSML.out 3)).1 (by decide)) (Nat.le_trans (raw_small (flip_small HSML.out 3)).2 (by decide))).mono ?_
        obtain ⟨q, hq⟩ : ∃ q, q = encP (flipM m 3) := ⟨_, rfl⟩
        rw [← hq]
        rintro e v2 ⟨⟨A2, n2, c2, rfl, hn2, hc2, hC2⟩, hb⟩
        have HGX2 := Aside0.mk (blk_below HGX1.out hb)
        have HX2 := Aside0.mk (blk_below HX1.out hb)
        have HB2 := Aside0.mk (HB1.out.trans (hb.mono HB1.out.size))
        have HQ : Aside0 (refE (flipM m 3) = q) := ⟨by rw [hq]; exact (enc_ref (flip_fit HF.out 3)).symm⟩
        have HRD : Aside0 (refd m 3 = if q.isSome then 0 else 1) := ⟨by rw [refd, hq]⟩
        clear hb hn2 hc2 hC2 hq HGX1 HX1 HB1
        dsimp only
        obtain ⟨cc, hcc⟩ : ∃ cc, cc = cnt m 3 := ⟨_, rfl⟩
        have hcl : cc ≤ 3 := by rw [hcc]; exact cnt_le m 3
        have HC1 : Aside0 (cnt m (3 + 1) = cc + refd m 3) := ⟨by rw [hcc]; rfl⟩
        rw [← hcc]
        clear hcc
        cases q with
        | none =>
          simp only [Option.isSome_none, Bool.false_eq_true, ↓reduceIte] at HRD ⊢
          go_wp2_with (refine wpList_load_row rfl 27 _ rfl gx rfl 27 (mcells (flipM m 3) (.slice A8 n8 c8) (.slice A11 n11 c11)) (0, 0) _ HGX2.out Try.underlying27 rfl size_msg ?_)
          refine (refenc_calls (flipM m 3) A8 n8 c8 A11 n11 c11 v2 (by have q := Kd.C_below HE.out.2.2 HB2.out; rw [HE.out.1] at q; exact q) HE.out.1 HE.out.2.1 (by have q := Kd.C_below HS.out.2.2 HB2.out; rw [HS.out.1] at q; exact q) HS.out.1 HS.out.2.1 (flip_small HSML.out 3).mem).mono ?_
          rw [HQ.out]
          rintro e v3 ⟨⟨A3, n3, c3, rfl, hn3, hc3, hC3⟩, hb⟩
          have HX3 := Aside0.mk (blk_below HX2.out hb)
          have HB3 := Aside0.mk (HB2.out.trans (hb.mono HB2.out.size))
          clear hb hn3 hc3 hC3 HX2 HB2 HGX2
          simp only [Option.isSome_none, Bool.false_eq_true, ↓reduceIte]
          go_wp2_with fail
          go_roundg (5 - (3 + 1))
          case measure => have := HGK.out; omega
          case rel => exact ⟨3 + 1, by first | rfl | go_num, by rw [HC1.out, HRD.out]; first | rfl | go_num, ⟨by omega⟩, ⟨Nat.le_refl _⟩, HX3, HB3⟩
        | some b2 =>
          simp only [Option.isSome_some, ↓reduceIte] at HRD ⊢
          go_wp2_with (refine wpList_load_row rfl 27 _ rfl gx rfl 27 (mcells (flipM m 3) (.slice A8 n8 c8) (.slice A11 n11 c11)) (0, 0) _ HGX2.out Try.underlying27 rfl size_msg ?_)
          refine (refenc_calls (flipM m 3) A8 n8 c8 A11 n11 c11 v2 (by have q := Kd.C_below HE.out.2.2 HB2.out; rw [HE.out.1] at q; exact q) HE.out.1 HE.out.2.1 (by have q := Kd.C_below HS.out.2.2 HB2.out; rw [HS.out.1] at q; exact q) HS.out.1 HS.out.2.1 (flip_small HSML.out 3).mem).mono ?_
          rw [HQ.out]
          rintro e v3 ⟨⟨A3, n3, c3, rfl, hn3, hc3, hC3⟩, hb⟩
          have HX3 := Aside0.mk (blk_below HX2.out hb)
          have HB3 := Aside0.mk (HB2.out.trans (hb.mono HB2.out.size))
          clear hb hn3 hc3 hC3 HX2 HB2 HGX2
          simp only [Option.isSome_some, ↓reduceIte]
          go_wp2_with fail
          go_roundg (5 - (3 + 1))
          case measure => have := HGK.out; omega
          case rel => exact ⟨3 + 1, by first | rfl | go_num, by rw [HC1.out, HRD.out]; first | rfl | go_num, ⟨by omega⟩, ⟨Nat.le_refl _⟩, HX3, HB3⟩
      · obtain ⟨gx, hgx⟩ : ∃ gx, gx = wr.heap.size := ⟨_, rfl⟩
        go_upto_region 21 with (first
          | refine wpList_load_row rfl 27 _ rfl gb rfl 27 (mcells m (.slice A8 n8 c8) (.slice A11 n11 c11)) (0, 0) _ HX.out Try.underlying27 rfl size_msg ?_
          | refine wpList_store_row rfl 27 _ _ rfl wr.heap.size (mcells m (.slice A8 n8 c8) (.slice A11 n11 c11)) rfl rfl 27 _ (blk_new wr _) size_msg rfl (one_cells _ _ _ _ _ _ _) ?_)
        generalize hv : World.setRow (World.alloc wr _) _ _ = v
        rw [← hgx]
        have hUV : Below wr.heap.size wr v := by rw [← hv]; exact below_setRow (below_alloc (Below.refl _ _) _) (Nat.le_refl _) _
        have hGX : v.heap[gx]? = some (.cells (mcells m (.slice A8 n8 c8) (.slice A11 n11 c11)) 27 (0, 0)) := by rw [← hv, hgx]; exact setRow_heap _ _ _ _ _ _ (blk_new _ _)
        have HGB : Aside0 (gb ≠ gx) := ⟨by have := blk_lt HX.out; omega⟩
        have HGW : Aside0 (w.heap.size ≤ gx) := ⟨by rw [hgx]; exact HB.out.size⟩
        have HXV := Aside0.mk (blk_below HX.out hUV)
        have HBV := Aside0.mk (HB.out.trans (hUV.mono HB.out.size))
        have m0 : v.cell? ⟨gx, 9, none⟩ = some (.int .i64 m.si) := blk_cell hGX 9
        have f0 := blk_frozen hGX 9
        obtain ⟨v1, hv1⟩ : ∃ v1, v1 = v.setCell ⟨gx, 9, none⟩ (.int .i64 (bits .xor .i64 m.si 1)) := ⟨_, rfl⟩
        have HV1 := Aside0.mk hv1
        have HGX1 : Aside0 (v1.heap[gx]? = some (.cells (mcells (flipM m 4) (.slice A8 n8 c8) (.slice A11 n11 c11)) 27 (0, 0))) := ⟨by rw [hv1]; exact blk_set hGX 9 _⟩
        have HX1 : Aside0 (v1.heap[gb]? = some (.cells (mcells m (.slice A8 n8 c8) (.slice A11 n11 c11)) 27 (0, 0))) := ⟨by rw [hv1]; exact blk_far HXV.out (p := ⟨gx, 9, none⟩) HGB.out _⟩
        have HB1 : Aside0 (Below w.heap.size w v1) := ⟨by rw [hv1]; exact HBV.out.setCell (p := ⟨gx, 9, none⟩) HGW.out _⟩
        clear hv hgx hUV hGX hv1 HX HB HXV HBV
        go_upto_region 22 with (fail)
        rw [← HV1.out]
        clear HV1 m0 f0
        go_wp2_with (refine wpList_load_row rfl 27 _ rfl gx rfl 27 (mcells (flipM m 4) (.slice A8 n8 c8) (.slice A11 n11 c11)) (0, 0) _ HGX1.out Try.underlying27 rfl size_msg ?_)
        refine (encode_calls (flipM m 4) A8 n8 c8 A11 n11 c11 v1 (Kd.C_below HE.out.2.2 HB1.out) HE.out.1 HE.out.2.1 (Kd.C_below HS.out.2.2 HB1.out) HS.out.1 HS.out.2.1 (Nat.le_trans (raw_small (flip_small HSML.out 4)).1 (by decide)) (Nat.le_trans (raw_small (flip_small HSML.out 4)).2 (by decide))).mono ?_
        obtain ⟨q, hq⟩ : ∃ q, q = encP (flipM m 4) := ⟨_, rfl⟩
        rw [← hq]
        rintro e v2 ⟨⟨A2, n2, c2, rfl, hn2, hc2, hC2⟩, hb⟩
        have HGX2 := Aside0.mk (blk_below HGX1.out hb)
        have HX2 := Aside0.mk (blk_below HX1.out hb)
        have HB2 := Aside0.mk (HB1.out.trans (hb.mono HB1.out.size))
        have HQ : Aside0 (refE (flipM m 4) = q) := ⟨by rw [hq]; exact (enc_ref (flip_fit HF.out 4)).symm⟩
        have HRD : Aside0 (refd m 4 = if q.isSome then 0 else 1) := ⟨by rw [refd, hq]⟩
        clear hb hn2 hc2 hC2 hq HGX1 HX1 HB1
        dsimp only
        obtain ⟨cc, hcc⟩ : ∃ cc, cc = cnt m 4 := ⟨_, rfl⟩
        have hcl : cc ≤ 4 := by rw [hcc]; exact cnt_le m 4
        have HC1 : Aside0 (cnt m (4 + 1) = cc + refd m 4) := ⟨by rw [hcc]; rfl⟩
        rw [← hcc]
        clear hcc
        cases q with
        | none =>
          simp only [Option.isSome_none, Bool.false_eq_true, ↓reduceIte] at HRD ⊢
          go_wp2_with (refine wpList_load_row rfl 27 _ rfl gx rfl 27 (mcells (flipM m 4) (.slice A8 n8 c8) (.slice A11 n11 c11)) (0, 0) _ HGX2.out Try.underlying27 rfl size_msg ?_)
          refine (refenc_calls (flipM m 4) A8 n8 c8 A11 n11 c11 v2 (by have q := Kd.C_below HE.out.2.2 HB2.out; rw [HE.out.1] at q; exact q) HE.out.1 HE.out.2.1 (by have q := Kd.C_below HS.out.2.2 HB2.out; rw [HS.out.1] at q; exact q) HS.out.1 HS.out.2.1 (flip_small HSML.out 4).mem).mono ?_
          rw [HQ.out]
          rintro e v3 ⟨⟨A3, n3, c3, rfl, hn3, hc3, hC3⟩, hb⟩
          have HX3 := Aside0.mk (blk_below HX2.out hb)
          have HB3 := Aside0.mk (HB2.out.trans (hb.mono HB2.out.size))
          clear hb hn3 hc3 hC3 HX2 HB2 HGX2
          simp only [Option.isSome_none, Bool.false_eq_true, ↓reduceIte]
          go_wp2_with fail
          go_roundg (5 - (4 + 1))
          case measure => have := HGK.out; omega
          case rel => exact ⟨4 + 1, by first | rfl | go_num, by rw [HC1.out, HRD.out]; first | rfl | go_num, ⟨by omega⟩, ⟨Nat.le_refl _⟩, HX3, HB3⟩
        | some b2 =>
          simp only [Option.isSome_some, ↓reduceIte] at HRD ⊢
          go_wp2_with (refine wpList_load_row rfl 27 _ rfl gx rfl 27 (mcells (flipM m 4) (.slice A8 n8 c8) (.slice A11 n11 c11)) (0, 0) _ HGX2.out Try.underlying27 rfl size_msg ?_)
          refine (refenc_calls (flipM m 4) A8 n8 c8 A11 n11 c11 v2 (by have q := Kd.C_below HE.out.2.2 HB2.out; rw [HE.out.1] at q; exact q) HE.out.1 HE.out.2.1 (by have q := Kd.C_below HS.out.2.2 HB2.out; rw [HS.out.1] at q; exact q) HS.out.1 HS.out.2.1 (flip_small HSML.out 4).mem).mono ?_
          rw [HQ.out]
          rintro e v3 ⟨⟨A3, n3, c3, rfl, hn3, hc3, hC3⟩, hb⟩
          have HX3 := Aside0.mk (blk_below HX2.out hb)
          have HB3 := Aside0.mk (HB2.out.trans (hb.mono HB2.out.size))
          clear hb hn3 hc3 hC3 HX2 HB2 HGX2
          simp only [Option.isSome_some, ↓reduceIte]
          go_wp2_with fail
          go_roundg (5 - (4 + 1))
          case measure => have := HGK.out; omega
          case rel => exact ⟨4 + 1, by first | rfl | go_num, by rw [HC1.out, HRD.out]; first | rfl | go_num, ⟨by omega⟩, ⟨Nat.le_refl _⟩, HX3, HB3⟩
    · obtain rfl : i = 5 := by have := HI.out; omega
      clear hlt
      obtain ⟨cc, hcc⟩ : ∃ cc, cc = cnt m 5 := ⟨_, rfl⟩
      rw [← hcc] at HTWO ⊢
      have l1 : decide ((2 : Int) ≤ (cc : Int)) = true := decide_eq_true (by have := HTWO.out; omega)
      clear hcc
      go_wp2_with fail
      refine (HA.out _).mono ?_
      rintro e w4 ⟨rfl, hb⟩
      have HB4 := Aside0.mk (HB.out.trans (hb.mono HB.out.size))
      clear hb
      go_wp2
      go_ret
      exact ⟨rfl, HB4.out⟩
end Go.Proofs.Ytbemfgpdfacdpaa.Ms
