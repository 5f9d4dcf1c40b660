/- 3 texts of the proof, put together, less what is not used; what a tool printed stands among them. -/
import Derived.Test.YtbemfgpdfacdpaaMFld12
namespace Go.Proofs.Ytbemfgpdfacdpaa.Ms
open Go.RowKit Go.Proofs.Ytbemfgpdfacdpaa.Pr Go.Proofs.YtbemfgpdfacdpaaW.PrintWords Go.Proofs.YtbemfgpdfacdpaaW.PrintLast Go.Proofs.YtbemfgpdfacdpaaW.PrintMore
open Go.Proofs.Ytbemfgpdfacdpaa.QT (OwnAt)
set_option linter.unusedVariables false
set_option linter.unusedSimpArgs false
def enc23.T23 : Bool × List (List Nat × List Nat) := (true, [([], []), ([], []), ([1], [1]), ([2], [2]), ([0, 3], [0, 3]), ([], []), ([5], [5]), ([6], [6]), ([4, 7, 4], [4, 7]), ([8, 8, 0, 1, 2, 3, 4, 5, 6, 7, 8], [0, 8])])
def enc23.B23 : List Nat := [0, 0, 2, 6, 15, 0, 32, 96, 255, 511]
theorem enc23.tab23 : rtab .any (opsOf Try.f11 23) = enc23.T23 := by kernel_rfl
theorem enc23.bits23 : waitsOk enc23.T23.2 enc23.B23 = true := by kernel_rfl
set_option maxHeartbeats 16000000 in
set_option maxRecDepth 100000 in
theorem refenc_k1 (fr tt tm ix lt cm : Int) (ys : Bool) (es : List S46) (si st : Int) (sm : List Int) (sd : ByteArray) (A8 : Option Addr) (n8 c8 : Nat) (A11 : Option Addr) (n11 c11 : Nat) (w : World) (R : Option (List Int)) (g : Nat) (w1 : World) (v : Value) (B : Nat) (l : List Int) (hX : w1.heap[g]? = some (.cells #[.int .i64 1, .int .i64 fr, .int .i64 tt, .int .i64 tm, .int .i64 ix, .int .i64 lt, .int .i64 cm, .bool ys, .slice A8 n8 c8, .int .i64 si, .int .i64 st, .slice A11 n11 c11, .string sd] 27 (0, 0))) (hW : Below w.heap.size w w1) (hBB : w.heap.size ≤ B) (hBW : B ≤ w1.heap.size) (hR : RB w w1 B v l) (hl : l.length ≤ 100) (yb : Int) (hRR : R = some (l ++ wints [ix, lt]))
    (z0 z2 z3 z4 z5 z6 z9 z10 z11 z12 z13 z14 z15 z16 z17 z18 z19 z20 z21 z22 z23 z24 z25 z26 z27 z28 z29 z30 z31 z32 z33 z34 z35 z36 z37 z38 z39 z40 z41 z42 z43 z44 z45 z46 z47 z48 z49 z50 z51 z52 z53 z54 z55 z56 z57 z58 z59 z60 z61 z62 z63 z64 z65 z66 z67 z68 z69 z70 z71 z72 z73 z74 z75 z76 z77 z78 z79 z80 z81 z82 z83 z84 z85 z86 z87 z88 z89 z90 z91 z92 z93 z94 z95 z96 z97 z98 z99 z100 z101 z102 z103 z104 z105 z106 z107 z108 z109 z110 z111 z112 z113 z114 z115 z116 z117 z118 z119 z120 z121 z122 z123 z124 z125 z126 z127 z128 z129 z130 z131 z132 z133 z134 z135 z136 z137 z138 z139 z140 z141 z142 z143 z144 z145 z146 z147 z148 z149 z150 z151 z152 z153 z154 z155 z156 z157 z158 z159 z160 z161 z162 z163 z164 z165 z166 z167 z168 z169 z170 z171 z172 z173 z174 z175 z176 z177 z178 z179 z180 z181 z182 z183 z184 z185 z186 z187 z188 z189 z190 z191 z192 z193 z194 z195 z196 z197 z198 z199 z200 z201 z202 z203 z204 z205 z206 z207 z208 z209 z210 z211 z212 z213 z214 z215 z216 z217 z218 z219 z220 z221 z222 z223 z224 z225 z226 z227 z228 z229 z230 z231 z232 z233 z234 z235 z236 z237 z238 z239 z240 z241 z242 z243 z244 z245 z246 z247 z248 z249 z250 z251 z252 z253 : Value) : Code.wp Try.prog (encT 11) (bodyPost Try.prog Try.f11 (EncQ w R)) ⟨#[z0, .pointer (some ⟨g, 0, none⟩), z2, z3, z4, z5, z6, v, .int .u8 yb, z9, z10, z11, z12, z13, z14, z15, z16, z17, z18, z19, z20, z21, z22, z23, z24, z25, z26, z27, z28, z29, z30, z31, z32, z33, z34, z35, z36, z37, z38, z39, z40, z41, z42, z43, z44, z45, z46, z47, z48, z49, z50, z51, z52, z53, z54, z55, z56, z57, z58, z59, z60, z61, z62, z63, z64, z65, z66, z67, z68, z69, z70, z71, z72, z73, z74, z75, z76, z77, z78, z79, z80, z81, z82, z83, z84, z85, z86, z87, z88, z89, z90, z91, z92, z93, z94, z95, z96, z97, z98, z99, z100, z101, z102, z103, z104, z105, z106, z107, z108, z109, z110, z111, z112, z113, z114, z115, z116, z117, z118, z119, z120, z121, z122, z123, z124, z125, z126, z127, z128, z129, z130, z131, z132, z133, z134, z135, z136, z137, z138, z139, z140, z141, z142, z143, z144, z145, z146, z147, z148, z149, z150, z151, z152, z153, z154, z155, z156, z157, z158, z159, z160, z161, z162, z163, z164, z165, z166, z167, z168, z169, z170, z171, z172, z173, z174, z175, z176, z177, z178, z179, z180, z181, z182, z183, z184, z185, z186, z187, z188, z189, z190, z191, z192, z193, z194, z195, z196, z197, z198, z199, z200, z201, z202, z203, z204, z205, z206, z207, z208, z209, z210, z211, z212, z213, z214, z215, z216, z217, z218, z219, z220, z221, z222, z223, z224, z225, z226, z227, z228, z229, z230, z231, z232, z233, z234, z235, z236, z237, z238, z239, z240, z241, z242, z243, z244, z245, z246, z247, z248, z249, z250, z251, z252, z253], []⟩ w1 := by
  have HX1 := Aside0.mk hX
  have HW := Aside0.mk hW
  have HR := Aside0.mk hR
  have HL := Aside0.mk hl
  have HBB := Aside0.mk hBB
  have HBW := Aside0.mk hBW
  have HRR := Aside0.mk hRR
  clear hX hW hR hl hBB hBW hRR
  have q0 : w1.cell? ⟨g, 0, none⟩ = some (.int .i64 1) := blk_cell HX1.out 0
  conv => arg 2; whnf
  go_upto_region 23 with (fail)
  refine start_ (n := 10) (S := fun w' => True) (ds := []) #[false, false, false, false, false, false, false, false, false, false] (by kernel_rfl) rfl rfl trivial (fun hHeld => ?_)
  refine with_tabW enc23.tab23 enc23.bits23 (fun HT_ HW_ => ?_)
  have F : Aside0 (Below w.heap.size w w1.drew) := ⟨below_drew HW.out⟩
  have L : Aside0 (LK w1 w1.drew B) := ⟨LK.of_below (below_drew (Below.refl _ _))⟩
  have R0 : Aside0 (RB w w1.drew B v l) := ⟨Kd.R_drew HR.out⟩
  refine inv_at [0, 1, 2, 3, 4, 5, 6, 7, 8, 9] (fun a0_ b a w' => ∃ (v1 : Value) (v2 : Value) (m9_ : Value), a = putSel a0_ b [(0, 152, v), (1, 153, .pointer (some ⟨g, 4, none⟩)), (2, 154, .int .i64 ix), (3, 155, .int .u64 (IntKind.u64.wrap ix)), (4, 156, v1), (5, 157, .pointer (some ⟨g, 5, none⟩)), (6, 158, .int .i64 lt), (7, 159, .int .u64 (IntKind.u64.wrap lt)), (8, 160, v2), (9, 7, m9_)] ∧ (Below w.heap.size w w') ∧ (LK w1 w' B) ∧ (b 4 = false → RB w w' B v l) ∧ (b 4 = true → b 8 = false → RB w w' B v1 (l ++ wnum ix 8)) ∧ (b 8 = true → RB w w' B v2 ((l ++ wnum ix 8) ++ wnum lt 8)) ∧ (b 9 = true → (m9_ : Value) = v2)) HT_.out HW_.out (by kernel_rfl) (by kernel_rfl) ?_ ?_ ?_
  · exact ⟨.bool false, .bool false, .bool false, by simp only [putSel, Bool.false_eq_true, if_false], F.out, L.out, fun _ => R0.out, fun h_ => absurd h_ (by decide), fun h_ => absurd h_ (by decide), fun h_ => absurd h_ (by decide)⟩
  · skip
    clear F L R0
    refine steps_cons ?_ ?_
    · rintro b a w' ⟨v1, v2, m9_, ha, Q_F, Q_L, Q_R0, Q_R1, Q_R2, Q_X9_⟩ hb_ hon hoff
      refine ⟨_, rfl, fun K hK => ?_⟩
      have e7 : a.tmps[7]? = some (v) := by rw [ha]; exact (putSel_not (hoff 9 (by kernel_rfl)) rfl).trans rfl
      replace ha := Aside0.mk ha
      have F := Aside0.mk Q_F
      have L := Aside0.mk Q_L
      have R0 := Aside0.mk (Q_R0 (hoff 4 (by kernel_rfl)))
      refine value_ (w1 := w') (v := v) (by rfl) rfl ?_ ?_
      · go_simp
        (try simp only [i64_w])
        try rfl
      refine hK.out _ _ ⟨v1, v2, m9_, (by rw [ha.out]; exact putSel_upk 0 hb_ rfl rfl rfl), Q_F, Q_L, Q_R0, fun h0_ _ => absurd ((hoff 4 (by kernel_rfl)).symm.trans h0_) (by decide), fun h0_ => absurd ((hoff 8 (by kernel_rfl)).symm.trans h0_) (by decide), fun h0_ => absurd ((hoff 9 (by kernel_rfl)).symm.trans h0_) (by decide)⟩
    refine steps_cons ?_ ?_
    · rintro b a w' ⟨v1, v2, m9_, ha, Q_F, Q_L, Q_R0, Q_R1, Q_R2, Q_X9_⟩ hb_ hon hoff
      refine ⟨_, rfl, fun K hK => ?_⟩
      have e1 : a.tmps[1]? = some (.pointer (some ⟨g, 0, none⟩)) := by rw [ha]; exact (putSel_off rfl).trans rfl
      replace ha := Aside0.mk ha
      have F := Aside0.mk Q_F
      have L := Aside0.mk Q_L
      have R0 := Aside0.mk (Q_R0 (hoff 4 (by kernel_rfl)))
      refine value_ (w1 := w') (v := .pointer (some ⟨g, 4, none⟩)) (by rfl) rfl ?_ ?_
      · go_simp
        (try simp only [i64_w])
        try rfl
      refine hK.out _ _ ⟨v1, v2, m9_, (by rw [ha.out]; exact putSel_upk 1 hb_ rfl rfl rfl), Q_F, Q_L, Q_R0, fun h0_ _ => absurd ((hoff 4 (by kernel_rfl)).symm.trans h0_) (by decide), fun h0_ => absurd ((hoff 8 (by kernel_rfl)).symm.trans h0_) (by decide), fun h0_ => absurd ((hoff 9 (by kernel_rfl)).symm.trans h0_) (by decide)⟩
    refine steps_cons ?_ ?_
    · rintro b a w' ⟨v1, v2, m9_, ha, Q_F, Q_L, Q_R0, Q_R1, Q_R2, Q_X9_⟩ hb_ hon hoff
      refine ⟨_, rfl, fun K hK => ?_⟩
      have e153 : a.tmps[153]? = some (.pointer (some ⟨g, 4, none⟩)) := by rw [ha]; exact putSel_on (e := (1, 153, .pointer (some ⟨g, 4, none⟩))) 1 rfl rfl (hon 1 (by kernel_rfl)) rfl
      replace ha := Aside0.mk ha
      have F := Aside0.mk Q_F
      have L := Aside0.mk Q_L
      have R0 := Aside0.mk (Q_R0 (hoff 4 (by kernel_rfl)))
      have m0 : w'.cell? ⟨g, 4, none⟩ = some (.int .i64 ix) := blk_cell (L.out.blk HX1.out (by decide)) 4
      refine value_ (w1 := w') (v := .int .i64 ix) (by rfl) rfl ?_ ?_
      · go_simp
        (try simp only [i64_w])
        try rfl
      refine hK.out _ _ ⟨v1, v2, m9_, (by rw [ha.out]; exact putSel_upk 2 hb_ rfl rfl rfl), Q_F, Q_L, Q_R0, fun h0_ _ => absurd ((hoff 4 (by kernel_rfl)).symm.trans h0_) (by decide), fun h0_ => absurd ((hoff 8 (by kernel_rfl)).symm.trans h0_) (by decide), fun h0_ => absurd ((hoff 9 (by kernel_rfl)).symm.trans h0_) (by decide)⟩
    refine steps_cons ?_ ?_
    · rintro b a w' ⟨v1, v2, m9_, ha, Q_F, Q_L, Q_R0, Q_R1, Q_R2, Q_X9_⟩ hb_ hon hoff
      refine ⟨_, rfl, fun K hK => ?_⟩
      have e154 : a.tmps[154]? = some (.int .i64 ix) := by rw [ha]; exact putSel_on (e := (2, 154, .int .i64 ix)) 2 rfl rfl (hon 2 (by kernel_rfl)) rfl
      replace ha := Aside0.mk ha
      have F := Aside0.mk Q_F
      have L := Aside0.mk Q_L
      have R0 := Aside0.mk (Q_R0 (hoff 4 (by kernel_rfl)))
      refine value_ (w1 := w') (v := .int .u64 (IntKind.u64.wrap ix)) (by rfl) rfl ?_ ?_
      · go_simp
        (try simp only [i64_w])
        try rfl
      refine hK.out _ _ ⟨v1, v2, m9_, (by rw [ha.out]; exact putSel_upk 3 hb_ rfl rfl rfl), Q_F, Q_L, Q_R0, fun h0_ _ => absurd ((hoff 4 (by kernel_rfl)).symm.trans h0_) (by decide), fun h0_ => absurd ((hoff 8 (by kernel_rfl)).symm.trans h0_) (by decide), fun h0_ => absurd ((hoff 9 (by kernel_rfl)).symm.trans h0_) (by decide)⟩
    refine steps_cons ?_ ?_
    · rintro b a w' ⟨v1, v2, m9_, ha, Q_F, Q_L, Q_R0, Q_R1, Q_R2, Q_X9_⟩ hb_ hon hoff
      refine ⟨_, rfl, fun K hK => ?_⟩
      have e152 : a.tmps[152]? = some (v) := by rw [ha]; exact putSel_on (e := (0, 152, v)) 0 rfl rfl (hon 0 (by kernel_rfl)) rfl
      have e155 : a.tmps[155]? = some (.int .u64 (IntKind.u64.wrap ix)) := by rw [ha]; exact putSel_on (e := (3, 155, .int .u64 (IntKind.u64.wrap ix))) 3 rfl rfl (hon 3 (by kernel_rfl)) rfl
      replace ha := Aside0.mk ha
      have F := Aside0.mk Q_F
      have L := Aside0.mk Q_L
      have R0 := Aside0.mk (Q_R0 hb_)
      refine goes_ (N := some 156) Try.func26 (by kernel_rfl) rfl #[v, .int .i64 8, .int .u64 (IntKind.u64.wrap ix)] (by rfl) rfl rfl (by first | (simp only [List.map_toArray, List.map_cons, List.map_nil, Act.eval, Array.getD_eq_getD_getElem?, Option.getD_some, e152, e155]; done) | (simp only [List.map_toArray, List.map_cons, List.map_nil, Act.eval, Array.getD_eq_getD_getElem?, Option.getD_some, e152, e155]; rfl)) ?_
      refine (lay_calls w w' B v l ix 8 R0.out F.out (Nat.le_trans HBW.out L.out.size) (by decide) (by have := HL.out; (try simp only [List.length_append, wnum_length]); omega)).mono ?_
      rintro e w1_ ⟨v1_, rfl, hr1, hq1, hk1⟩
      refine ⟨_, rfl, ?_⟩
      refine hK.out _ _ ⟨v1_, v2, m9_, (by rw [ha.out]; exact putSel_upk 4 hb_ rfl rfl rfl), hq1, L.out.trans hk1, fun h0_ => absurd ((up_self b 4).symm.trans h0_) (by decide), fun _ _ => hr1, fun h0_ => absurd ((hoff 8 (by kernel_rfl)).symm.trans h0_) (by decide), fun h0_ => absurd ((hoff 9 (by kernel_rfl)).symm.trans h0_) (by decide)⟩
    refine steps_cons ?_ ?_
    · rintro b a w' ⟨v1, v2, m9_, ha, Q_F, Q_L, Q_R0, Q_R1, Q_R2, Q_X9_⟩ hb_ hon hoff
      refine ⟨_, rfl, fun K hK => ?_⟩
      have e1 : a.tmps[1]? = some (.pointer (some ⟨g, 0, none⟩)) := by rw [ha]; exact (putSel_off rfl).trans rfl
      replace ha := Aside0.mk ha
      have F := Aside0.mk Q_F
      have L := Aside0.mk Q_L
      refine value_ (w1 := w') (v := .pointer (some ⟨g, 5, none⟩)) (by rfl) rfl ?_ ?_
      · go_simp
        (try simp only [i64_w])
        try rfl
      refine hK.out _ _ ⟨v1, v2, m9_, (by rw [ha.out]; exact putSel_upk 5 hb_ rfl rfl rfl), Q_F, Q_L, Q_R0, Q_R1, fun h0_ => absurd ((hoff 8 (by kernel_rfl)).symm.trans h0_) (by decide), fun h0_ => absurd ((hoff 9 (by kernel_rfl)).symm.trans h0_) (by decide)⟩
    refine steps_cons ?_ ?_
    · rintro b a w' ⟨v1, v2, m9_, ha, Q_F, Q_L, Q_R0, Q_R1, Q_R2, Q_X9_⟩ hb_ hon hoff
      refine ⟨_, rfl, fun K hK => ?_⟩
      have e157 : a.tmps[157]? = some (.pointer (some ⟨g, 5, none⟩)) := by rw [ha]; exact putSel_on (e := (5, 157, .pointer (some ⟨g, 5, none⟩))) 5 rfl rfl (hon 5 (by kernel_rfl)) rfl
      replace ha := Aside0.mk ha
      have F := Aside0.mk Q_F
      have L := Aside0.mk Q_L
      have m0 : w'.cell? ⟨g, 5, none⟩ = some (.int .i64 lt) := blk_cell (L.out.blk HX1.out (by decide)) 5
      refine value_ (w1 := w') (v := .int .i64 lt) (by rfl) rfl ?_ ?_
      · go_simp
        (try simp only [i64_w])
        try rfl
      refine hK.out _ _ ⟨v1, v2, m9_, (by rw [ha.out]; exact putSel_upk 6 hb_ rfl rfl rfl), Q_F, Q_L, Q_R0, Q_R1, fun h0_ => absurd ((hoff 8 (by kernel_rfl)).symm.trans h0_) (by decide), fun h0_ => absurd ((hoff 9 (by kernel_rfl)).symm.trans h0_) (by decide)⟩
    refine steps_cons ?_ ?_
    · rintro b a w' ⟨v1, v2, m9_, ha, Q_F, Q_L, Q_R0, Q_R1, Q_R2, Q_X9_⟩ hb_ hon hoff
      refine ⟨_, rfl, fun K hK => ?_⟩
      have e158 : a.tmps[158]? = some (.int .i64 lt) := by rw [ha]; exact putSel_on (e := (6, 158, .int .i64 lt)) 6 rfl rfl (hon 6 (by kernel_rfl)) rfl
      replace ha := Aside0.mk ha
      have F := Aside0.mk Q_F
      have L := Aside0.mk Q_L
      refine value_ (w1 := w') (v := .int .u64 (IntKind.u64.wrap lt)) (by rfl) rfl ?_ ?_
      · go_simp
        (try simp only [i64_w])
        try rfl
      refine hK.out _ _ ⟨v1, v2, m9_, (by rw [ha.out]; exact putSel_upk 7 hb_ rfl rfl rfl), Q_F, Q_L, Q_R0, Q_R1, fun h0_ => absurd ((hoff 8 (by kernel_rfl)).symm.trans h0_) (by decide), fun h0_ => absurd ((hoff 9 (by kernel_rfl)).symm.trans h0_) (by decide)⟩
    refine steps_cons ?_ ?_
    · rintro b a w' ⟨v1, v2, m9_, ha, Q_F, Q_L, Q_R0, Q_R1, Q_R2, Q_X9_⟩ hb_ hon hoff
      refine ⟨_, rfl, fun K hK => ?_⟩
      have e156 : a.tmps[156]? = some (v1) := by rw [ha]; exact putSel_on (e := (4, 156, v1)) 4 rfl rfl (hon 4 (by kernel_rfl)) rfl
      have e159 : a.tmps[159]? = some (.int .u64 (IntKind.u64.wrap lt)) := by rw [ha]; exact putSel_on (e := (7, 159, .int .u64 (IntKind.u64.wrap lt))) 7 rfl rfl (hon 7 (by kernel_rfl)) rfl
      replace ha := Aside0.mk ha
      have F := Aside0.mk Q_F
      have L := Aside0.mk Q_L
      have R1 := Aside0.mk (Q_R1 (hon 4 (by kernel_rfl)) hb_)
      refine goes_ (N := some 160) Try.func26 (by kernel_rfl) rfl #[v1, .int .i64 8, .int .u64 (IntKind.u64.wrap lt)] (by rfl) rfl rfl (by first | (simp only [List.map_toArray, List.map_cons, List.map_nil, Act.eval, Array.getD_eq_getD_getElem?, Option.getD_some, e156, e159]; done) | (simp only [List.map_toArray, List.map_cons, List.map_nil, Act.eval, Array.getD_eq_getD_getElem?, Option.getD_some, e156, e159]; rfl)) ?_
      refine (lay_calls w w' B v1 (l ++ wnum ix 8) lt 8 R1.out F.out (Nat.le_trans HBW.out L.out.size) (by decide) (by have := HL.out; (try simp only [List.length_append, wnum_length]); omega)).mono ?_
      rintro e w1_ ⟨v1_, rfl, hr1, hq1, hk1⟩
      refine ⟨_, rfl, ?_⟩
      refine hK.out _ _ ⟨v1, v1_, m9_, (by rw [ha.out]; exact putSel_upk 8 hb_ rfl rfl rfl), hq1, L.out.trans hk1, fun h0_ => absurd ((hon 4 (by kernel_rfl)).symm.trans h0_) (by decide), fun _ h1_ => absurd ((up_self b 8).symm.trans h1_) (by decide), fun _ => hr1, fun h0_ => absurd ((hoff 9 (by kernel_rfl)).symm.trans h0_) (by decide)⟩
    refine steps_cons ?_ ?_
    · rintro b a w' ⟨v1, v2, m9_, ha, Q_F, Q_L, Q_R0, Q_R1, Q_R2, Q_X9_⟩ hb_ hon hoff
      refine ⟨_, rfl, fun K hK => ?_⟩
      have e160 : a.tmps[160]? = some (v2) := by rw [ha]; exact putSel_on (e := (8, 160, v2)) 8 rfl rfl (hon 8 (by kernel_rfl)) rfl
      replace ha := Aside0.mk ha
      have F := Aside0.mk Q_F
      have L := Aside0.mk Q_L
      have R2 := Aside0.mk (Q_R2 (hon 8 (by kernel_rfl)))
      refine value_ (w1 := w') (v := v2) (by rfl) rfl ?_ ?_
      · go_simp
        (try simp only [i64_w])
        try rfl
      refine hK.out _ _ ⟨v1, v2, (v2), (by rw [ha.out]; exact putSel_upk 9 hb_ rfl rfl rfl), Q_F, Q_L, fun h0_ => absurd ((hon 4 (by kernel_rfl)).symm.trans h0_) (by decide), fun _ h1_ => absurd ((hon 8 (by kernel_rfl)).symm.trans h1_) (by decide), Q_R2, fun _ => rfl⟩
    exact steps_nil
  · rintro b a w' hall ⟨v1, v2, m9_, ha, Q_F, Q_L, Q_R0, Q_R1, Q_R2, Q_X9_⟩
    clear F L R0
    have hb0_ := hall 0 (by kernel_rfl)
    have hb1_ := hall 1 (by kernel_rfl)
    have hb2_ := hall 2 (by kernel_rfl)
    have hb3_ := hall 3 (by kernel_rfl)
    have hb4_ := hall 4 (by kernel_rfl)
    have hb5_ := hall 5 (by kernel_rfl)
    have hb6_ := hall 6 (by kernel_rfl)
    have hb7_ := hall 7 (by kernel_rfl)
    have hb8_ := hall 8 (by kernel_rfl)
    have hb9_ := hall 9 (by kernel_rfl)
    subst ha
    obtain rfl := Q_X9_ hb9_
    simp only [putSel, hb0_, hb1_, hb2_, hb3_, hb4_, hb5_, hb6_, hb7_, hb8_, hb9_, if_true, Act.put, List.setIfInBounds_toArray, List.set_cons_zero, List.set_cons_succ]
    have F := Aside0.mk Q_F
    clear Q_F
    have L := Aside0.mk Q_L
    clear Q_L
    clear Q_R0
    clear Q_R1
    have R2 := Aside0.mk (Q_R2 hb8_)
    clear Q_R2
    clear hall hb0_ hb1_ hb2_ hb3_ hb4_ hb5_ hb6_ hb7_ hb8_ hb9_
    obtain ⟨A, c, ev, hc, hC⟩ := Kd.R_reads R2.out
    have HRL : Aside0 (((l ++ wnum ix 8) ++ wnum lt 8) = (l ++ wints [ix, lt])) := ⟨by simp [wints]⟩
    obtain ⟨n, hn⟩ : ∃ n, n = (((l ++ wnum ix 8) ++ wnum lt 8)).length := ⟨_, rfl⟩
    rw [← hn] at ev hc hC
    subst ev
    rw [HRL.out] at hC hn
    have HN := Aside0.mk hn
    have HC := Aside0.mk hC
    have HNC := Aside0.mk hc
    clear hn hC hc
    go_wp2
    rw [HRR.out]
    exact bodyPost_ret (v := .tuple #[.slice A n c, .int .i64 0]) (by simp [results, Try.results11, go_sem]) rfl (encQ_some HN.out HNC.out HC.out F.out)
end Go.Proofs.Ytbemfgpdfacdpaa.Ms
namespace Go.Proofs.Ytbemfgpdfacdpaa.Ms
open Go.RowKit Go.Proofs.Ytbemfgpdfacdpaa.Pr Go.Proofs.YtbemfgpdfacdpaaW.PrintWords Go.Proofs.YtbemfgpdfacdpaaW.PrintLast Go.Proofs.YtbemfgpdfacdpaaW.PrintMore
open Go.Proofs.Ytbemfgpdfacdpaa.QT (OwnAt)
set_option linter.unusedVariables false
set_option linter.unusedSimpArgs false
set_option maxHeartbeats 16000000 in
set_option maxRecDepth 100000 in
theorem refenc_k2 (fr tt tm ix lt cm : Int) (ys : Bool) (es : List S46) (si st : Int) (sm : List Int) (sd : ByteArray) (A8 : Option Addr) (n8 c8 : Nat) (A11 : Option Addr) (n11 c11 : Nat) (w : World) (R : Option (List Int)) (g : Nat) (w1 : World) (v : Value) (B : Nat) (l : List Int) (hX : w1.heap[g]? = some (.cells #[.int .i64 2, .int .i64 fr, .int .i64 tt, .int .i64 tm, .int .i64 ix, .int .i64 lt, .int .i64 cm, .bool ys, .slice A8 n8 c8, .int .i64 si, .int .i64 st, .slice A11 n11 c11, .string sd] 27 (0, 0))) (hW : Below w.heap.size w w1) (hBB : w.heap.size ≤ B) (hBW : B ≤ w1.heap.size) (hR : RB w w1 B v l) (hl : l.length ≤ 100) (yb : Int) (hRR : R = some (l ++ [yb]))
    (z0 z2 z3 z4 z5 z6 z9 z10 z11 z12 z13 z14 z15 z16 z17 z18 z19 z20 z21 z22 z23 z24 z25 z26 z27 z28 z29 z30 z31 z32 z33 z34 z35 z36 z37 z38 z39 z40 z41 z42 z43 z44 z45 z46 z47 z48 z49 z50 z51 z52 z53 z54 z55 z56 z57 z58 z59 z60 z61 z62 z63 z64 z65 z66 z67 z68 z69 z70 z71 z72 z73 z74 z75 z76 z77 z78 z79 z80 z81 z82 z83 z84 z85 z86 z87 z88 z89 z90 z91 z92 z93 z94 z95 z96 z97 z98 z99 z100 z101 z102 z103 z104 z105 z106 z107 z108 z109 z110 z111 z112 z113 z114 z115 z116 z117 z118 z119 z120 z121 z122 z123 z124 z125 z126 z127 z128 z129 z130 z131 z132 z133 z134 z135 z136 z137 z138 z139 z140 z141 z142 z143 z144 z145 z146 z147 z148 z149 z150 z151 z152 z153 z154 z155 z156 z157 z158 z159 z160 z161 z162 z163 z164 z165 z166 z167 z168 z169 z170 z171 z172 z173 z174 z175 z176 z177 z178 z179 z180 z181 z182 z183 z184 z185 z186 z187 z188 z189 z190 z191 z192 z193 z194 z195 z196 z197 z198 z199 z200 z201 z202 z203 z204 z205 z206 z207 z208 z209 z210 z211 z212 z213 z214 z215 z216 z217 z218 z219 z220 z221 z222 z223 z224 z225 z226 z227 z228 z229 z230 z231 z232 z233 z234 z235 z236 z237 z238 z239 z240 z241 z242 z243 z244 z245 z246 z247 z248 z249 z250 z251 z252 z253 : Value) : Code.wp Try.prog (encT 11) (bodyPost Try.prog Try.f11 (EncQ w R)) ⟨#[z0, .pointer (some ⟨g, 0, none⟩), z2, z3, z4, z5, z6, v, .int .u8 yb, z9, z10, z11, z12, z13, z14, z15, z16, z17, z18, z19, z20, z21, z22, z23, z24, z25, z26, z27, z28, z29, z30, z31, z32, z33, z34, z35, z36, z37, z38, z39, z40, z41, z42, z43, z44, z45, z46, z47, z48, z49, z50, z51, z52, z53, z54, z55, z56, z57, z58, z59, z60, z61, z62, z63, z64, z65, z66, z67, z68, z69, z70, z71, z72, z73, z74, z75, z76, z77, z78, z79, z80, z81, z82, z83, z84, z85, z86, z87, z88, z89, z90, z91, z92, z93, z94, z95, z96, z97, z98, z99, z100, z101, z102, z103, z104, z105, z106, z107, z108, z109, z110, z111, z112, z113, z114, z115, z116, z117, z118, z119, z120, z121, z122, z123, z124, z125, z126, z127, z128, z129, z130, z131, z132, z133, z134, z135, z136, z137, z138, z139, z140, z141, z142, z143, z144, z145, z146, z147, z148, z149, z150, z151, z152, z153, z154, z155, z156, z157, z158, z159, z160, z161, z162, z163, z164, z165, z166, z167, z168, z169, z170, z171, z172, z173, z174, z175, z176, z177, z178, z179, z180, z181, z182, z183, z184, z185, z186, z187, z188, z189, z190, z191, z192, z193, z194, z195, z196, z197, z198, z199, z200, z201, z202, z203, z204, z205, z206, z207, z208, z209, z210, z211, z212, z213, z214, z215, z216, z217, z218, z219, z220, z221, z222, z223, z224, z225, z226, z227, z228, z229, z230, z231, z232, z233, z234, z235, z236, z237, z238, z239, z240, z241, z242, z243, z244, z245, z246, z247, z248, z249, z250, z251, z252, z253], []⟩ w1 := by
  have HX1 := Aside0.mk hX
  have HW := Aside0.mk hW
  have HR := Aside0.mk hR
  have HL := Aside0.mk hl
  have HBB := Aside0.mk hBB
  have HBW := Aside0.mk hBW
  have HRR := Aside0.mk hRR
  clear hX hW hR hl hBB hBW hRR
  have q0 : w1.cell? ⟨g, 0, none⟩ = some (.int .i64 2) := blk_cell HX1.out 0
  conv => arg 2; whnf
  go_upto_region 25 with (fail)
  go_wp2_with (at_builtin; refine wpList_append_RB rfl _ _ 30 rfl rfl w (w1.alloc (.cells #[.int .u8 yb] 5)) B v l yb w1.heap.size rfl rfl (Kd.R_alloc HR.out _) (below_alloc HW.out _) (Nat.le_trans HBW.out (below_alloc (Below.refl _ _) _).size) HBB.out (blk_new _ _) (by have := HL.out; omega) ?_)
  intro v1 w2 hr hb hk
  have HR1 := Aside0.mk hr
  have F := Aside0.mk hb
  clear hr hb hk
  obtain ⟨A, c, ev, hc, hC⟩ := Kd.R_reads HR1.out
  have HRL : Aside0 ((l ++ [yb]) = (l ++ [yb])) := ⟨by simp [wints]⟩
  obtain ⟨n, hn⟩ : ∃ n, n = ((l ++ [yb])).length := ⟨_, rfl⟩
  rw [← hn] at ev hc hC
  subst ev
  rw [HRL.out] at hC hn
  have HN := Aside0.mk hn
  have HC := Aside0.mk hC
  have HNC := Aside0.mk hc
  clear hn hC hc
  go_wp2
  rw [HRR.out]
  exact bodyPost_ret (v := .tuple #[.slice A n c, .int .i64 0]) (by simp [results, Try.results11, go_sem]) rfl (encQ_some HN.out HNC.out HC.out F.out)
end Go.Proofs.Ytbemfgpdfacdpaa.Ms
namespace Go.Proofs.Ytbemfgpdfacdpaa.Ms
open Go.RowKit Go.Proofs.Ytbemfgpdfacdpaa.Pr Go.Proofs.YtbemfgpdfacdpaaW.PrintWords Go.Proofs.YtbemfgpdfacdpaaW.PrintLast Go.Proofs.YtbemfgpdfacdpaaW.PrintMore
open Go.Proofs.Ytbemfgpdfacdpaa.QT (OwnAt)
set_option linter.unusedVariables false
set_option linter.unusedSimpArgs false
def enc27.T27 : Bool × List (List Nat × List Nat) := (true, [([], []), ([], []), ([1], [1]), ([2], [2]), ([0, 3], [0, 3]), ([], []), ([5], [5]), ([6], [6]), ([4, 7, 4], [4, 7]), ([8, 8, 0, 1, 2, 3, 4, 5, 6, 7, 8], [0, 8])])
def enc27.B27 : List Nat := [0, 0, 2, 6, 15, 0, 32, 96, 255, 511]
theorem enc27.tab27 : rtab .any (opsOf Try.f11 27) = enc27.T27 := by kernel_rfl
theorem enc27.bits27 : waitsOk enc27.T27.2 enc27.B27 = true := by kernel_rfl
def enc28.T28 : Bool × List (List Nat × List Nat) := (true, [([], []), ([], []), ([1], [1]), ([2], [2]), ([0, 3], [0, 3]), ([], []), ([5], [5]), ([6], [6]), ([7], [7]), ([8], [8]), ([4, 9, 4], [4, 9]), ([10, 10, 0, 1, 2, 3, 4, 5, 6, 7, 8, 9, 10], [0, 10])])
def enc28.B28 : List Nat := [0, 0, 2, 6, 15, 0, 32, 96, 224, 480, 1023, 2047]
theorem enc28.tab28 : rtab .any (opsOf Try.f11 28) = enc28.T28 := by kernel_rfl
theorem enc28.bits28 : waitsOk enc28.T28.2 enc28.B28 = true := by kernel_rfl
def enc33.T33 : Bool × List (List Nat × List Nat) := (true, [([], []), ([], []), ([1], [1]), ([2], [2]), ([0, 3], [0, 3]), ([], []), ([5], [5]), ([6], [6]), ([4, 7, 4], [4, 7]), ([8, 8, 0, 1, 2, 3, 4, 5, 6, 7, 8], [0, 8])])
def enc33.B33 : List Nat := [0, 0, 2, 6, 15, 0, 32, 96, 255, 511]
theorem enc33.tab33 : rtab .any (opsOf Try.f11 33) = enc33.T33 := by kernel_rfl
theorem enc33.bits33 : waitsOk enc33.T33.2 enc33.B33 = true := by kernel_rfl
def enc34.T34 : Bool × List (List Nat × List Nat) := (true, [([], []), ([], []), ([1], [1]), ([2], [2]), ([0, 3], [0, 3]), ([], []), ([5], [5]), ([4, 6, 4], [4, 6]), ([], []), ([8], [8]), ([7, 9, 7], [7, 9]), ([10, 10, 0, 1, 2, 3, 4, 5, 6, 7, 8, 9, 10], [0, 10])])
def enc34.B34 : List Nat := [0, 0, 2, 6, 15, 0, 32, 127, 0, 256, 1023, 2047]
theorem enc34.tab34 : rtab .any (opsOf Try.f11 34) = enc34.T34 := by kernel_rfl
theorem enc34.bits34 : waitsOk enc34.T34.2 enc34.B34 = true := by kernel_rfl
set_option maxHeartbeats 16000000 in
set_option maxRecDepth 100000 in
theorem refenc_k3 (fr tt tm ix lt cm : Int) (ys : Bool) (es : List S46) (si st : Int) (sm : List Int) (sd : ByteArray) (A8 : Option Addr) (n8 c8 : Nat) (A11 : Option Addr) (n11 c11 : Nat) (w : World) (R : Option (List Int)) (g : Nat) (w1 : World) (v : Value) (B : Nat) (l : List Int) (hX : w1.heap[g]? = some (.cells #[.int .i64 3, .int .i64 fr, .int .i64 tt, .int .i64 tm, .int .i64 ix, .int .i64 lt, .int .i64 cm, .bool ys, .slice A8 n8 c8, .int .i64 si, .int .i64 st, .slice A11 n11 c11, .string sd] 27 (0, 0))) (hW : Below w.heap.size w w1) (hBB : w.heap.size ≤ B) (hBW : B ≤ w1.heap.size) (hR : RB w w1 B v l) (hl : l.length ≤ 100) (yb : Int) (hE : k46.C w A8 es.length es) (hE1 : n8 = es.length) (hl8 : es.length ≤ 8) (hodd : ∀ e ∈ es, oddE e = false) (hRR : R = some (l ++ (wints [ix, lt, cm] ++ wents es)))
    (z0 z2 z3 z4 z5 z6 z9 z10 z11 z12 z13 z14 z15 z16 z17 z18 z19 z20 z21 z22 z23 z24 z25 z26 z27 z28 z29 z30 z31 z32 z33 z34 z35 z36 z37 z38 z39 z40 z41 z42 z43 z44 z45 z46 z47 z48 z49 z50 z51 z52 z53 z54 z55 z56 z57 z58 z59 z60 z61 z62 z63 z64 z65 z66 z67 z68 z69 z70 z71 z72 z73 z74 z75 z76 z77 z78 z79 z80 z81 z82 z83 z84 z85 z86 z87 z88 z89 z90 z91 z92 z93 z94 z95 z96 z97 z98 z99 z100 z101 z102 z103 z104 z105 z106 z107 z108 z109 z110 z111 z112 z113 z114 z115 z116 z117 z118 z119 z120 z121 z122 z123 z124 z125 z126 z127 z128 z129 z130 z131 z132 z133 z134 z135 z136 z137 z138 z139 z140 z141 z142 z143 z144 z145 z146 z147 z148 z149 z150 z151 z152 z153 z154 z155 z156 z157 z158 z159 z160 z161 z162 z163 z164 z165 z166 z167 z168 z169 z170 z171 z172 z173 z174 z175 z176 z177 z178 z179 z180 z181 z182 z183 z184 z185 z186 z187 z188 z189 z190 z191 z192 z193 z194 z195 z196 z197 z198 z199 z200 z201 z202 z203 z204 z205 z206 z207 z208 z209 z210 z211 z212 z213 z214 z215 z216 z217 z218 z219 z220 z221 z222 z223 z224 z225 z226 z227 z228 z229 z230 z231 z232 z233 z234 z235 z236 z237 z238 z239 z240 z241 z242 z243 z244 z245 z246 z247 z248 z249 z250 z251 z252 z253 : Value) : Code.wp Try.prog (encT 11) (bodyPost Try.prog Try.f11 (EncQ w R)) ⟨#[z0, .pointer (some ⟨g, 0, none⟩), z2, z3, z4, z5, z6, v, .int .u8 yb, z9, z10, z11, z12, z13, z14, z15, z16, z17, z18, z19, z20, z21, z22, z23, z24, z25, z26, z27, z28, z29, z30, z31, z32, z33, z34, z35, z36, z37, z38, z39, z40, z41, z42, z43, z44, z45, z46, z47, z48, z49, z50, z51, z52, z53, z54, z55, z56, z57, z58, z59, z60, z61, z62, z63, z64, z65, z66, z67, z68, z69, z70, z71, z72, z73, z74, z75, z76, z77, z78, z79, z80, z81, z82, z83, z84, z85, z86, z87, z88, z89, z90, z91, z92, z93, z94, z95, z96, z97, z98, z99, z100, z101, z102, z103, z104, z105, z106, z107, z108, z109, z110, z111, z112, z113, z114, z115, z116, z117, z118, z119, z120, z121, z122, z123, z124, z125, z126, z127, z128, z129, z130, z131, z132, z133, z134, z135, z136, z137, z138, z139, z140, z141, z142, z143, z144, z145, z146, z147, z148, z149, z150, z151, z152, z153, z154, z155, z156, z157, z158, z159, z160, z161, z162, z163, z164, z165, z166, z167, z168, z169, z170, z171, z172, z173, z174, z175, z176, z177, z178, z179, z180, z181, z182, z183, z184, z185, z186, z187, z188, z189, z190, z191, z192, z193, z194, z195, z196, z197, z198, z199, z200, z201, z202, z203, z204, z205, z206, z207, z208, z209, z210, z211, z212, z213, z214, z215, z216, z217, z218, z219, z220, z221, z222, z223, z224, z225, z226, z227, z228, z229, z230, z231, z232, z233, z234, z235, z236, z237, z238, z239, z240, z241, z242, z243, z244, z245, z246, z247, z248, z249, z250, z251, z252, z253], []⟩ w1 := by
  have HX1 := Aside0.mk hX
  have HW := Aside0.mk hW
  have HR := Aside0.mk hR
  have HL := Aside0.mk hl
  have HBB := Aside0.mk hBB
  have HBW := Aside0.mk hBW
  have HRR := Aside0.mk hRR
  clear hX hW hR hl hBB hBW hRR
  have q0 : w1.cell? ⟨g, 0, none⟩ = some (.int .i64 3) := blk_cell HX1.out 0
  conv => arg 2; whnf
  have HE := Aside0.mk hE
  have HN := Aside0.mk hE1
  have H8 := Aside0.mk hl8
  have HO := Aside0.mk hodd
  clear hE hE1 hl8 hodd
  go_upto_region 27 with (fail)
  refine start_ (n := 10) (S := fun w' => True) (ds := []) #[false, false, false, false, false, false, false, false, false, false] (by kernel_rfl) rfl rfl trivial (fun hHeld => ?_)
  refine with_tabW enc27.tab27 enc27.bits27 (fun HT_ HW_ => ?_)
  have F : Aside0 (Below w.heap.size w w1.drew) := ⟨below_drew HW.out⟩
  have L : Aside0 (LK w1 w1.drew B) := ⟨LK.of_below (below_drew (Below.refl _ _))⟩
  have R0 : Aside0 (RB w w1.drew B v l) := ⟨Kd.R_drew HR.out⟩
  refine inv_at [0, 1, 2, 3, 4, 5, 6, 7, 8, 9] (fun a0_ b a w' => ∃ (v1 : Value) (v2 : Value) (m9_ : Value), a = putSel a0_ b [(0, 169, v), (1, 170, .pointer (some ⟨g, 4, none⟩)), (2, 171, .int .i64 ix), (3, 172, .int .u64 (IntKind.u64.wrap ix)), (4, 173, v1), (5, 174, .pointer (some ⟨g, 5, none⟩)), (6, 175, .int .i64 lt), (7, 176, .int .u64 (IntKind.u64.wrap lt)), (8, 177, v2), (9, 7, m9_)] ∧ (Below w.heap.size w w') ∧ (LK w1 w' B) ∧ (b 4 = false → RB w w' B v l) ∧ (b 4 = true → b 8 = false → RB w w' B v1 (l ++ wnum ix 8)) ∧ (b 8 = true → RB w w' B v2 ((l ++ wnum ix 8) ++ wnum lt 8)) ∧ (b 9 = true → (m9_ : Value) = v2)) HT_.out HW_.out (by kernel_rfl) (by kernel_rfl) ?_ ?_ ?_
  · exact ⟨.bool false, .bool false, .bool false, by simp only [putSel, Bool.false_eq_true, if_false], F.out, L.out, fun _ => R0.out, fun h_ => absurd h_ (by decide), fun h_ => absurd h_ (by decide), fun h_ => absurd h_ (by decide)⟩
  · skip
    clear F L R0
    refine steps_cons ?_ ?_
    · rintro b a w' ⟨v1, v2, m9_, ha, Q_F, Q_L, Q_R0, Q_R1, Q_R2, Q_X9_⟩ hb_ hon hoff
      refine ⟨_, rfl, fun K hK => ?_⟩
      have e7 : a.tmps[7]? = some (v) := by rw [ha]; exact (putSel_not (hoff 9 (by kernel_rfl)) rfl).trans rfl
      replace ha := Aside0.mk ha
      have F := Aside0.mk Q_F
      have L := Aside0.mk Q_L
      have R0 := Aside0.mk (Q_R0 (hoff 4 (by kernel_rfl)))
      refine value_ (w1 := w') (v := v) (by rfl) rfl ?_ ?_
      · go_simp
        (try simp only [i64_w])
        try rfl
      refine hK.out _ _ ⟨v1, v2, m9_, (by rw [ha.out]; exact putSel_upk 0 hb_ rfl rfl rfl), Q_F, Q_L, Q_R0, fun h0_ _ => absurd ((hoff 4 (by kernel_rfl)).symm.trans h0_) (by decide), fun h0_ => absurd ((hoff 8 (by kernel_rfl)).symm.trans h0_) (by decide), fun h0_ => absurd ((hoff 9 (by kernel_rfl)).symm.trans h0_) (by decide)⟩
    refine steps_cons ?_ ?_
    · rintro b a w' ⟨v1, v2, m9_, ha, Q_F, Q_L, Q_R0, Q_R1, Q_R2, Q_X9_⟩ hb_ hon hoff
      refine ⟨_, rfl, fun K hK => ?_⟩
      have e1 : a.tmps[1]? = some (.pointer (some ⟨g, 0, none⟩)) := by rw [ha]; exact (putSel_off rfl).trans rfl
      replace ha := Aside0.mk ha
      have F := Aside0.mk Q_F
      have L := Aside0.mk Q_L
      have R0 := Aside0.mk (Q_R0 (hoff 4 (by kernel_rfl)))
      refine value_ (w1 := w') (v := .pointer (some ⟨g, 4, none⟩)) (by rfl) rfl ?_ ?_
      · go_simp
        (try simp only [i64_w])
        try rfl
      refine hK.out _ _ ⟨v1, v2, m9_, (by rw [ha.out]; exact putSel_upk 1 hb_ rfl rfl rfl), Q_F, Q_L, Q_R0, fun h0_ _ => absurd ((hoff 4 (by kernel_rfl)).symm.trans h0_) (by decide), fun h0_ => absurd ((hoff 8 (by kernel_rfl)).symm.trans h0_) (by decide), fun h0_ => absurd ((hoff 9 (by kernel_rfl)).symm.trans h0_) (by decide)⟩
    refine steps_cons ?_ ?_
    · rintro b a w' ⟨v1, v2, m9_, ha, Q_F, Q_L, Q_R0, Q_R1, Q_R2, Q_X9_⟩ hb_ hon hoff
      refine ⟨_, rfl, fun K hK => ?_⟩
      have e170 : a.tmps[170]? = some (.pointer (some ⟨g, 4, none⟩)) := by rw [ha]; exact putSel_on (e := (1, 170, .pointer (some ⟨g, 4, none⟩))) 1 rfl rfl (hon 1 (by kernel_rfl)) rfl
      replace ha := Aside0.mk ha
      have F := Aside0.mk Q_F
      have L := Aside0.mk Q_L
      have R0 := Aside0.mk (Q_R0 (hoff 4 (by kernel_rfl)))
      have m0 : w'.cell? ⟨g, 4, none⟩ = some (.int .i64 ix) := blk_cell (L.out.blk HX1.out (by decide)) 4
      refine value_ (w1 := w') (v := .int .i64 ix) (by rfl) rfl ?_ ?_
      · go_simp
        (try simp only [i64_w])
        try rfl
      refine hK.out _ _ ⟨v1, v2, m9_, (by rw [ha.out]; exact putSel_upk 2 hb_ rfl rfl rfl), Q_F, Q_L, Q_R0, fun h0_ _ => absurd ((hoff 4 (by kernel_rfl)).symm.trans h0_) (by decide), fun h0_ => absurd ((hoff 8 (by kernel_rfl)).symm.trans h0_) (by decide), fun h0_ => absurd ((hoff 9 (by kernel_rfl)).symm.trans h0_) (by decide)⟩
    refine steps_cons ?_ ?_
    · rintro b a w' ⟨v1, v2, m9_, ha, Q_F, Q_L, Q_R0, Q_R1, Q_R2, Q_X9_⟩ hb_ hon hoff
      refine ⟨_, rfl, fun K hK => ?_⟩
      have e171 : a.tmps[171]? = some (.int .i64 ix) := by rw [ha]; exact putSel_on (e := (2, 171, .int .i64 ix)) 2 rfl rfl (hon 2 (by kernel_rfl)) rfl
      replace ha := Aside0.mk ha
      have F := Aside0.mk Q_F
      have L := Aside0.mk Q_L
      have R0 := Aside0.mk (Q_R0 (hoff 4 (by kernel_rfl)))
      refine value_ (w1 := w') (v := .int .u64 (IntKind.u64.wrap ix)) (by rfl) rfl ?_ ?_
      · go_simp
        (try simp only [i64_w])
        try rfl
      refine hK.out _ _ ⟨v1, v2, m9_, (by rw [ha.out]; exact putSel_upk 3 hb_ rfl rfl rfl), Q_F, Q_L, Q_R0, fun h0_ _ => absurd ((hoff 4 (by kernel_rfl)).symm.trans h0_) (by decide), fun h0_ => absurd ((hoff 8 (by kernel_rfl)).symm.trans h0_) (by decide), fun h0_ => absurd ((hoff 9 (by kernel_rfl)).symm.trans h0_) (by decide)⟩
    refine steps_cons ?_ ?_
    · rintro b a w' ⟨v1, v2, m9_, ha, Q_F, Q_L, Q_R0, Q_R1, Q_R2, Q_X9_⟩ hb_ hon hoff
      refine ⟨_, rfl, fun K hK => ?_⟩
      have e169 : a.tmps[169]? = some (v) := by rw [ha]; exact putSel_on (e := (0, 169, v)) 0 rfl rfl (hon 0 (by kernel_rfl)) rfl
      have e172 : a.tmps[172]? = some (.int .u64 (IntKind.u64.wrap ix)) := by rw [ha]; exact putSel_on (e := (3, 172, .int .u64 (IntKind.u64.wrap ix))) 3 rfl rfl (hon 3 (by kernel_rfl)) rfl
      replace ha := Aside0.mk ha
      have F := Aside0.mk Q_F
      have L := Aside0.mk Q_L
      have R0 := Aside0.mk (Q_R0 hb_)
      refine goes_ (N := some 173) Try.func26 (by kernel_rfl) rfl #[v, .int .i64 8, .int .u64 (IntKind.u64.wrap ix)] (by rfl) rfl rfl (by first | (simp only [List.map_toArray, List.map_cons, List.map_nil, Act.eval, Array.getD_eq_getD_getElem?, Option.getD_some, e169, e172]; done) | (simp only [List.map_toArray, List.map_cons, List.map_nil, Act.eval, Array.getD_eq_getD_getElem?, Option.getD_some, e169, e172]; rfl)) ?_
      refine (lay_calls w w' B v l ix 8 R0.out F.out (Nat.le_trans HBW.out L.out.size) (by decide) (by have := HL.out; (try simp only [List.length_append, wnum_length]); omega)).mono ?_
      rintro e w1_ ⟨v1_, rfl, hr1, hq1, hk1⟩
      refine ⟨_, rfl, ?_⟩
      refine hK.out _ _ ⟨v1_, v2, m9_, (by rw [ha.out]; exact putSel_upk 4 hb_ rfl rfl rfl), hq1, L.out.trans hk1, fun h0_ => absurd ((up_self b 4).symm.trans h0_) (by decide), fun _ _ => hr1, fun h0_ => absurd ((hoff 8 (by kernel_rfl)).symm.trans h0_) (by decide), fun h0_ => absurd ((hoff 9 (by kernel_rfl)).symm.trans h0_) (by decide)⟩
    refine steps_cons ?_ ?_
    · rintro b a w' ⟨v1, v2, m9_, ha, Q_F, Q_L, Q_R0, Q_R1, Q_R2, Q_X9_⟩ hb_ hon hoff
      refine ⟨_, rfl, fun K hK => ?_⟩
      have e1 : a.tmps[1]? = some (.pointer (some ⟨g, 0, none⟩)) := by rw [ha]; exact (putSel_off rfl).trans rfl
      replace ha := Aside0.mk ha
      have F := Aside0.mk Q_F
      have L := Aside0.mk Q_L
      refine value_ (w1 := w') (v := .pointer (some ⟨g, 5, none⟩)) (by rfl) rfl ?_ ?_
      · go_simp
        (try simp only [i64_w])
        try rfl
      refine hK.out _ _ ⟨v1, v2, m9_, (by rw [ha.out]; exact putSel_upk 5 hb_ rfl rfl rfl), Q_F, Q_L, Q_R0, Q_R1, fun h0_ => absurd ((hoff 8 (by kernel_rfl)).symm.trans h0_) (by decide), fun h0_ => absurd ((hoff 9 (by kernel_rfl)).symm.trans h0_) (by decide)⟩
    refine steps_cons ?_ ?_
    · rintro b a w' ⟨v1, v2, m9_, ha, Q_F, Q_L, Q_R0, Q_R1, Q_R2, Q_X9_⟩ hb_ hon hoff
      refine ⟨_, rfl, fun K hK => ?_⟩
      have e174 : a.tmps[174]? = some (.pointer (some ⟨g, 5, none⟩)) := by rw [ha]; exact putSel_on (e := (5, 174, .pointer (some ⟨g, 5, none⟩))) 5 rfl rfl (hon 5 (by kernel_rfl)) rfl
      replace ha := Aside0.mk ha
      have F := Aside0.mk Q_F
      have L := Aside0.mk Q_L
      have m0 : w'.cell? ⟨g, 5, none⟩ = some (.int .i64 lt) := blk_cell (L.out.blk HX1.out (by decide)) 5
      refine value_ (w1 := w') (v := .int .i64 lt) (by rfl) rfl ?_ ?_
      · go_simp
        (try simp only [i64_w])
        try rfl
      refine hK.out _ _ ⟨v1, v2, m9_, (by rw [ha.out]; exact putSel_upk 6 hb_ rfl rfl rfl), Q_F, Q_L, Q_R0, Q_R1, fun h0_ => absurd ((hoff 8 (by kernel_rfl)).symm.trans h0_) (by decide), fun h0_ => absurd ((hoff 9 (by kernel_rfl)).symm.trans h0_) (by decide)⟩
    refine steps_cons ?_ ?_
    · rintro b a w' ⟨v1, v2, m9_, ha, Q_F, Q_L, Q_R0, Q_R1, Q_R2, Q_X9_⟩ hb_ hon hoff
      refine ⟨_, rfl, fun K hK => ?_⟩
      have e175 : a.tmps[175]? = some (.int .i64 lt) := by rw [ha]; exact putSel_on (e := (6, 175, .int .i64 lt)) 6 rfl rfl (hon 6 (by kernel_rfl)) rfl
      replace ha := Aside0.mk ha
      have F := Aside0.mk Q_F
      have L := Aside0.mk Q_L
      refine value_ (w1 := w') (v := .int .u64 (IntKind.u64.wrap lt)) (by rfl) rfl ?_ ?_
      · go_simp
        (try simp only [i64_w])
        try rfl
      refine hK.out _ _ ⟨v1, v2, m9_, (by rw [ha.out]; exact putSel_upk 7 hb_ rfl rfl rfl), Q_F, Q_L, Q_R0, Q_R1, fun h0_ => absurd ((hoff 8 (by kernel_rfl)).symm.trans h0_) (by decide), fun h0_ => absurd ((hoff 9 (by kernel_rfl)).symm.trans h0_) (by decide)⟩
    refine steps_cons ?_ ?_
    · rintro b a w' ⟨v1, v2, m9_, ha, Q_F, Q_L, Q_R0, Q_R1, Q_R2, Q_X9_⟩ hb_ hon hoff
      refine ⟨_, rfl, fun K hK => ?_⟩
      have e173 : a.tmps[173]? = some (v1) := by rw [ha]; exact putSel_on (e := (4, 173, v1)) 4 rfl rfl (hon 4 (by kernel_rfl)) rfl
      have e176 : a.tmps[176]? = some (.int .u64 (IntKind.u64.wrap lt)) := by rw [ha]; exact putSel_on (e := (7, 176, .int .u64 (IntKind.u64.wrap lt))) 7 rfl rfl (hon 7 (by kernel_rfl)) rfl
      replace ha := Aside0.mk ha
      have F := Aside0.mk Q_F
      have L := Aside0.mk Q_L
      have R1 := Aside0.mk (Q_R1 (hon 4 (by kernel_rfl)) hb_)
      refine goes_ (N := some 177) Try.func26 (by kernel_rfl) rfl #[v1, .int .i64 8, .int .u64 (IntKind.u64.wrap lt)] (by rfl) rfl rfl (by first | (simp only [List.map_toArray, List.map_cons, List.map_nil, Act.eval, Array.getD_eq_getD_getElem?, Option.getD_some, e173, e176]; done) | (simp only [List.map_toArray, List.map_cons, List.map_nil, Act.eval, Array.getD_eq_getD_getElem?, Option.getD_some, e173, e176]; rfl)) ?_
      refine (lay_calls w w' B v1 (l ++ wnum ix 8) lt 8 R1.out F.out (Nat.le_trans HBW.out L.out.size) (by decide) (by have := HL.out; (try simp only [List.length_append, wnum_length]); omega)).mono ?_
      rintro e w1_ ⟨v1_, rfl, hr1, hq1, hk1⟩
      refine ⟨_, rfl, ?_⟩
      refine hK.out _ _ ⟨v1, v1_, m9_, (by rw [ha.out]; exact putSel_upk 8 hb_ rfl rfl rfl), hq1, L.out.trans hk1, fun h0_ => absurd ((hon 4 (by kernel_rfl)).symm.trans h0_) (by decide), fun _ h1_ => absurd ((up_self b 8).symm.trans h1_) (by decide), fun _ => hr1, fun h0_ => absurd ((hoff 9 (by kernel_rfl)).symm.trans h0_) (by decide)⟩
    refine steps_cons ?_ ?_
    · rintro b a w' ⟨v1, v2, m9_, ha, Q_F, Q_L, Q_R0, Q_R1, Q_R2, Q_X9_⟩ hb_ hon hoff
      refine ⟨_, rfl, fun K hK => ?_⟩
      have e177 : a.tmps[177]? = some (v2) := by rw [ha]; exact putSel_on (e := (8, 177, v2)) 8 rfl rfl (hon 8 (by kernel_rfl)) rfl
      replace ha := Aside0.mk ha
      have F := Aside0.mk Q_F
      have L := Aside0.mk Q_L
      have R2 := Aside0.mk (Q_R2 (hon 8 (by kernel_rfl)))
      refine value_ (w1 := w') (v := v2) (by rfl) rfl ?_ ?_
      · go_simp
        (try simp only [i64_w])
        try rfl
      refine hK.out _ _ ⟨v1, v2, (v2), (by rw [ha.out]; exact putSel_upk 9 hb_ rfl rfl rfl), Q_F, Q_L, fun h0_ => absurd ((hon 4 (by kernel_rfl)).symm.trans h0_) (by decide), fun _ h1_ => absurd ((hon 8 (by kernel_rfl)).symm.trans h1_) (by decide), Q_R2, fun _ => rfl⟩
    exact steps_nil
  · rintro b a w' hall ⟨v1, v2, m9_, ha, Q_F, Q_L, Q_R0, Q_R1, Q_R2, Q_X9_⟩
    clear F L R0
    have hb0_ := hall 0 (by kernel_rfl)
    have hb1_ := hall 1 (by kernel_rfl)
    have hb2_ := hall 2 (by kernel_rfl)
    have hb3_ := hall 3 (by kernel_rfl)
    have hb4_ := hall 4 (by kernel_rfl)
    have hb5_ := hall 5 (by kernel_rfl)
    have hb6_ := hall 6 (by kernel_rfl)
    have hb7_ := hall 7 (by kernel_rfl)
    have hb8_ := hall 8 (by kernel_rfl)
    have hb9_ := hall 9 (by kernel_rfl)
    subst ha
    obtain rfl := Q_X9_ hb9_
    simp only [putSel, hb0_, hb1_, hb2_, hb3_, hb4_, hb5_, hb6_, hb7_, hb8_, hb9_, if_true, Act.put, List.setIfInBounds_toArray, List.set_cons_zero, List.set_cons_succ]
    have F := Aside0.mk Q_F
    clear Q_F
    have L := Aside0.mk Q_L
    clear Q_L
    clear Q_R0
    clear Q_R1
    have R2 := Aside0.mk (Q_R2 hb8_)
    clear Q_R2
    clear hall hb0_ hb1_ hb2_ hb3_ hb4_ hb5_ hb6_ hb7_ hb8_ hb9_
    obtain ⟨u2, hu⟩ : ∃ u, u = w' := ⟨_, rfl⟩
    subst hu
    obtain ⟨v2, hv⟩ : ∃ v, v = m9_ := ⟨_, rfl⟩
    subst hv
    have HX2 := Aside0.mk (L.out.blk HX1.out (by decide))
    have HW2 := F
    have HR2 := R2
    have HBW2 : Aside0 (B ≤ u2.heap.size) := ⟨Nat.le_trans HBW.out L.out.size⟩
    have HLK2 := L
    clear F L R2
    go_upto_region 28 with (fail)
    refine start_ (n := 12) (S := fun w' => True) (ds := []) #[false, false, false, false, false, false, false, false, false, false, false, false] (by kernel_rfl) rfl rfl trivial (fun hHeld => ?_)
    refine with_tabW enc28.tab28 enc28.bits28 (fun HT_ HW_ => ?_)
    have F : Aside0 (Below w.heap.size w u2.drew) := ⟨below_drew HW2.out⟩
    have L : Aside0 (LK u2 u2.drew B) := ⟨LK.of_below (below_drew (Below.refl _ _))⟩
    have R0 : Aside0 (RB w u2.drew B v2 ((l ++ wnum ix 8) ++ wnum lt 8)) := ⟨Kd.R_drew HR2.out⟩
    have S : Aside0 (∀ k, v2.ownBlock = some k → k < u2.drew.heap.size) := ⟨Kd.R_lt R0.out⟩
    have D := ()
    refine inv_at [0, 1, 2, 3, 4, 5, 6, 7, 8, 9, 10, 11] (fun a0_ b a w' => ∃ (gb : Nat) (v3 : Value) (v4 : Value) (m9_ : Value) (m11_ : Value), a = putSel a0_ b [(0, 178, v2), (1, 179, .pointer (some ⟨g, 6, none⟩)), (2, 180, .int .i64 cm), (3, 181, .int .u64 (IntKind.u64.wrap cm)), (4, 182, v3), (5, 183, .pointer (some ⟨g, 8, none⟩)), (6, 184, .slice A8 n8 c8), (7, 185, .int .i64 n8), (8, 186, .int .u8 ((n8 : Int) % 256)), (9, 187, m9_), (10, 188, v4), (11, 7, m11_)] ∧ (Below w.heap.size w w') ∧ (LK u2 w' B) ∧ (∀ k, v3.ownBlock = some k → k < w'.heap.size) ∧ (b 4 = false → v3 = v2) ∧ (b 4 = false → RB w w' B v2 ((l ++ wnum ix 8) ++ wnum lt 8)) ∧ (b 9 = true → b 10 = false → w'.heap[gb]? = some (.cells #[.int .u8 ((n8 : Int) % 256)] 5 (0, 0))) ∧ (b 9 = true → b 10 = false → v3.ownBlock ≠ some gb) ∧ (b 4 = true → b 10 = false → RB w w' B v3 (((l ++ wnum ix 8) ++ wnum lt 8) ++ wnum cm 8)) ∧ (b 10 = true → RB w w' B v4 ((((l ++ wnum ix 8) ++ wnum lt 8) ++ wnum cm 8) ++ [(n8 : Int) % 256])) ∧ (b 9 = true → (m9_ : Value) = .slice (some ⟨gb, 0, none⟩) 1 1) ∧ (b 11 = true → (m11_ : Value) = v4)) HT_.out HW_.out (by kernel_rfl) (by kernel_rfl) ?_ ?_ ?_
    · exact ⟨0, v2, .bool false, .bool false, .bool false, by simp only [putSel, Bool.false_eq_true, if_false], F.out, L.out, S.out, fun _ => rfl, fun _ => R0.out, fun h_ => absurd h_ (by decide), fun h_ => absurd h_ (by decide), fun h_ => absurd h_ (by decide), fun h_ => absurd h_ (by decide), fun h_ => absurd h_ (by decide), fun h_ => absurd h_ (by decide)⟩
    · skip
      clear D F L R0 S
      refine steps_cons ?_ ?_
      · rintro b a w' ⟨gb, v3, v4, m9_, m11_, ha, Q_F, Q_L, Q_S, Q_D, Q_R0, Q_G, Q_N, Q_R1, Q_R2, Q_X9_, Q_X11_⟩ hb_ hon hoff
        refine ⟨_, rfl, fun K hK => ?_⟩
        have e7 : a.tmps[7]? = some (v2) := by rw [ha]; exact (putSel_not (hoff 11 (by kernel_rfl)) rfl).trans rfl
        replace ha := Aside0.mk ha
        have F := Aside0.mk Q_F
        have L := Aside0.mk Q_L
        have S := Aside0.mk Q_S
        have D := Aside0.mk (Q_D (hoff 4 (by kernel_rfl)))
        have R0 := Aside0.mk (Q_R0 (hoff 4 (by kernel_rfl)))
        refine value_ (w1 := w') (v := v2) (by rfl) rfl ?_ ?_
        · go_simp
          (try simp only [i64_w])
          try rfl
        refine hK.out _ _ ⟨gb, v3, v4, m9_, m11_, (by rw [ha.out]; exact putSel_upk 0 hb_ rfl rfl rfl), Q_F, Q_L, Q_S, Q_D, Q_R0, Q_G, Q_N, fun h0_ _ => absurd ((hoff 4 (by kernel_rfl)).symm.trans h0_) (by decide), fun h0_ => absurd ((hoff 10 (by kernel_rfl)).symm.trans h0_) (by decide), Q_X9_, fun h0_ => absurd ((hoff 11 (by kernel_rfl)).symm.trans h0_) (by decide)⟩
      refine steps_cons ?_ ?_
      · rintro b a w' ⟨gb, v3, v4, m9_, m11_, ha, Q_F, Q_L, Q_S, Q_D, Q_R0, Q_G, Q_N, Q_R1, Q_R2, Q_X9_, Q_X11_⟩ hb_ hon hoff
        refine ⟨_, rfl, fun K hK => ?_⟩
        have e1 : a.tmps[1]? = some (.pointer (some ⟨g, 0, none⟩)) := by rw [ha]; exact (putSel_off rfl).trans rfl
        replace ha := Aside0.mk ha
        have F := Aside0.mk Q_F
        have L := Aside0.mk Q_L
        have S := Aside0.mk Q_S
        have D := Aside0.mk (Q_D (hoff 4 (by kernel_rfl)))
        have R0 := Aside0.mk (Q_R0 (hoff 4 (by kernel_rfl)))
        refine value_ (w1 := w') (v := .pointer (some ⟨g, 6, none⟩)) (by rfl) rfl ?_ ?_
        · go_simp
          (try simp only [i64_w])
          try rfl
        refine hK.out _ _ ⟨gb, v3, v4, m9_, m11_, (by rw [ha.out]; exact putSel_upk 1 hb_ rfl rfl rfl), Q_F, Q_L, Q_S, Q_D, Q_R0, Q_G, Q_N, fun h0_ _ => absurd ((hoff 4 (by kernel_rfl)).symm.trans h0_) (by decide), fun h0_ => absurd ((hoff 10 (by kernel_rfl)).symm.trans h0_) (by decide), Q_X9_, fun h0_ => absurd ((hoff 11 (by kernel_rfl)).symm.trans h0_) (by decide)⟩
      refine steps_cons ?_ ?_
      · rintro b a w' ⟨gb, v3, v4, m9_, m11_, ha, Q_F, Q_L, Q_S, Q_D, Q_R0, Q_G, Q_N, Q_R1, Q_R2, Q_X9_, Q_X11_⟩ hb_ hon hoff
        refine ⟨_, rfl, fun K hK => ?_⟩
        have e179 : a.tmps[179]? = some (.pointer (some ⟨g, 6, none⟩)) := by rw [ha]; exact putSel_on (e := (1, 179, .pointer (some ⟨g, 6, none⟩))) 1 rfl rfl (hon 1 (by kernel_rfl)) rfl
        replace ha := Aside0.mk ha
        have F := Aside0.mk Q_F
        have L := Aside0.mk Q_L
        have S := Aside0.mk Q_S
        have D := Aside0.mk (Q_D (hoff 4 (by kernel_rfl)))
        have R0 := Aside0.mk (Q_R0 (hoff 4 (by kernel_rfl)))
        have m0 : w'.cell? ⟨g, 6, none⟩ = some (.int .i64 cm) := blk_cell (L.out.blk HX2.out (by decide)) 6
        refine value_ (w1 := w') (v := .int .i64 cm) (by rfl) rfl ?_ ?_
        · go_simp
          (try simp only [i64_w])
          try rfl
        refine hK.out _ _ ⟨gb, v3, v4, m9_, m11_, (by rw [ha.out]; exact putSel_upk 2 hb_ rfl rfl rfl), Q_F, Q_L, Q_S, Q_D, Q_R0, Q_G, Q_N, fun h0_ _ => absurd ((hoff 4 (by kernel_rfl)).symm.trans h0_) (by decide), fun h0_ => absurd ((hoff 10 (by kernel_rfl)).symm.trans h0_) (by decide), Q_X9_, fun h0_ => absurd ((hoff 11 (by kernel_rfl)).symm.trans h0_) (by decide)⟩
      refine steps_cons ?_ ?_
      · rintro b a w' ⟨gb, v3, v4, m9_, m11_, ha, Q_F, Q_L, Q_S, Q_D, Q_R0, Q_G, Q_N, Q_R1, Q_R2, Q_X9_, Q_X11_⟩ hb_ hon hoff
        refine ⟨_, rfl, fun K hK => ?_⟩
        have e180 : a.tmps[180]? = some (.int .i64 cm) := by rw [ha]; exact putSel_on (e := (2, 180, .int .i64 cm)) 2 rfl rfl (hon 2 (by kernel_rfl)) rfl
        replace ha := Aside0.mk ha
        have F := Aside0.mk Q_F
        have L := Aside0.mk Q_L
        have S := Aside0.mk Q_S
        have D := Aside0.mk (Q_D (hoff 4 (by kernel_rfl)))
        have R0 := Aside0.mk (Q_R0 (hoff 4 (by kernel_rfl)))
        refine value_ (w1 := w') (v := .int .u64 (IntKind.u64.wrap cm)) (by rfl) rfl ?_ ?_
        · go_simp
          (try simp only [i64_w])
          try rfl
        refine hK.out _ _ ⟨gb, v3, v4, m9_, m11_, (by rw [ha.out]; exact putSel_upk 3 hb_ rfl rfl rfl), Q_F, Q_L, Q_S, Q_D, Q_R0, Q_G, Q_N, fun h0_ _ => absurd ((hoff 4 (by kernel_rfl)).symm.trans h0_) (by decide), fun h0_ => absurd ((hoff 10 (by kernel_rfl)).symm.trans h0_) (by decide), Q_X9_, fun h0_ => absurd ((hoff 11 (by kernel_rfl)).symm.trans h0_) (by decide)⟩
      refine steps_cons ?_ ?_
      · rintro b a w' ⟨gb, v3, v4, m9_, m11_, ha, Q_F, Q_L, Q_S, Q_D, Q_R0, Q_G, Q_N, Q_R1, Q_R2, Q_X9_, Q_X11_⟩ hb_ hon hoff
        refine ⟨_, rfl, fun K hK => ?_⟩
        have e178 : a.tmps[178]? = some (v2) := by rw [ha]; exact putSel_on (e := (0, 178, v2)) 0 rfl rfl (hon 0 (by kernel_rfl)) rfl
        have e181 : a.tmps[181]? = some (.int .u64 (IntKind.u64.wrap cm)) := by rw [ha]; exact putSel_on (e := (3, 181, .int .u64 (IntKind.u64.wrap cm))) 3 rfl rfl (hon 3 (by kernel_rfl)) rfl
        replace ha := Aside0.mk ha
        have F := Aside0.mk Q_F
        have L := Aside0.mk Q_L
        have S := Aside0.mk Q_S
        have D := Aside0.mk (Q_D hb_)
        have R0 := Aside0.mk (Q_R0 hb_)
        refine goes_ (N := some 182) Try.func26 (by kernel_rfl) rfl #[v2, .int .i64 8, .int .u64 (IntKind.u64.wrap cm)] (by rfl) rfl rfl (by first | (simp only [List.map_toArray, List.map_cons, List.map_nil, Act.eval, Array.getD_eq_getD_getElem?, Option.getD_some, e178, e181]; done) | (simp only [List.map_toArray, List.map_cons, List.map_nil, Act.eval, Array.getD_eq_getD_getElem?, Option.getD_some, e178, e181]; rfl)) ?_
        refine (layx_calls w w' B v2 ((l ++ wnum ix 8) ++ wnum lt 8) cm 8 R0.out F.out (Nat.le_trans HBW2.out L.out.size) (by decide) (by have := HL.out; simp only [List.length_append, wnum_length]; omega)).mono ?_
        rintro e w1_ ⟨v1_, rfl, hr1, hq1, hk1, hf1, ho1⟩
        refine ⟨_, rfl, ?_⟩
        refine hK.out _ _ ⟨gb, v1_, v4, m9_, m11_, (by rw [ha.out]; exact putSel_upk 4 hb_ rfl rfl rfl), hq1, L.out.trans hk1, Kd.R_lt hr1, fun h0_ => absurd ((up_self b 4).symm.trans h0_) (by decide), fun h0_ => absurd ((up_self b 4).symm.trans h0_) (by decide), fun h0_ h1_ => (hf1 gb (blk_lt (Q_G h0_ h1_)) (fun he => Q_N h0_ h1_ ((congrArg Value.ownBlock D.out).trans he.symm))).trans (Q_G h0_ h1_), fun h0_ h1_ => (fun he => (ho1 gb he).elim (fun h => (Q_N h0_ h1_) ((congrArg Value.ownBlock D.out).trans h.symm)) (fun h => absurd (blk_lt (Q_G h0_ h1_)) (Nat.not_lt.2 h))), fun _ _ => hr1, fun h0_ => absurd ((hoff 10 (by kernel_rfl)).symm.trans h0_) (by decide), Q_X9_, fun h0_ => absurd ((hoff 11 (by kernel_rfl)).symm.trans h0_) (by decide)⟩
      refine steps_cons ?_ ?_
      · rintro b a w' ⟨gb, v3, v4, m9_, m11_, ha, Q_F, Q_L, Q_S, Q_D, Q_R0, Q_G, Q_N, Q_R1, Q_R2, Q_X9_, Q_X11_⟩ hb_ hon hoff
        refine ⟨_, rfl, fun K hK => ?_⟩
        have e1 : a.tmps[1]? = some (.pointer (some ⟨g, 0, none⟩)) := by rw [ha]; exact (putSel_off rfl).trans rfl
        replace ha := Aside0.mk ha
        have F := Aside0.mk Q_F
        have L := Aside0.mk Q_L
        have S := Aside0.mk Q_S
        refine value_ (w1 := w') (v := .pointer (some ⟨g, 8, none⟩)) (by rfl) rfl ?_ ?_
        · go_simp
          (try simp only [i64_w])
          try rfl
        refine hK.out _ _ ⟨gb, v3, v4, m9_, m11_, (by rw [ha.out]; exact putSel_upk 5 hb_ rfl rfl rfl), Q_F, Q_L, Q_S, Q_D, Q_R0, fun h0_ _ => absurd ((hoff 9 (by kernel_rfl)).symm.trans h0_) (by decide), fun h0_ _ => absurd ((hoff 9 (by kernel_rfl)).symm.trans h0_) (by decide), Q_R1, fun h0_ => absurd ((hoff 10 (by kernel_rfl)).symm.trans h0_) (by decide), fun h0_ => absurd ((hoff 9 (by kernel_rfl)).symm.trans h0_) (by decide), fun h0_ => absurd ((hoff 11 (by kernel_rfl)).symm.trans h0_) (by decide)⟩
      refine steps_cons ?_ ?_
      · rintro b a w' ⟨gb, v3, v4, m9_, m11_, ha, Q_F, Q_L, Q_S, Q_D, Q_R0, Q_G, Q_N, Q_R1, Q_R2, Q_X9_, Q_X11_⟩ hb_ hon hoff
        refine ⟨_, rfl, fun K hK => ?_⟩
        have e183 : a.tmps[183]? = some (.pointer (some ⟨g, 8, none⟩)) := by rw [ha]; exact putSel_on (e := (5, 183, .pointer (some ⟨g, 8, none⟩))) 5 rfl rfl (hon 5 (by kernel_rfl)) rfl
        replace ha := Aside0.mk ha
        have F := Aside0.mk Q_F
        have L := Aside0.mk Q_L
        have S := Aside0.mk Q_S
        have m0 : w'.cell? ⟨g, 8, none⟩ = some (.slice A8 n8 c8) := blk_cell (L.out.blk HX2.out (by decide)) 8
        refine value_ (w1 := w') (v := .slice A8 n8 c8) (by rfl) rfl ?_ ?_
        · go_simp
          (try simp only [i64_w])
          try rfl
        refine hK.out _ _ ⟨gb, v3, v4, m9_, m11_, (by rw [ha.out]; exact putSel_upk 6 hb_ rfl rfl rfl), Q_F, Q_L, Q_S, Q_D, Q_R0, fun h0_ _ => absurd ((hoff 9 (by kernel_rfl)).symm.trans h0_) (by decide), fun h0_ _ => absurd ((hoff 9 (by kernel_rfl)).symm.trans h0_) (by decide), Q_R1, fun h0_ => absurd ((hoff 10 (by kernel_rfl)).symm.trans h0_) (by decide), fun h0_ => absurd ((hoff 9 (by kernel_rfl)).symm.trans h0_) (by decide), fun h0_ => absurd ((hoff 11 (by kernel_rfl)).symm.trans h0_) (by decide)⟩
      refine steps_cons ?_ ?_
      · rintro b a w' ⟨gb, v3, v4, m9_, m11_, ha, Q_F, Q_L, Q_S, Q_D, Q_R0, Q_G, Q_N, Q_R1, Q_R2, Q_X9_, Q_X11_⟩ hb_ hon hoff
        refine ⟨_, rfl, fun K hK => ?_⟩
        have e184 : a.tmps[184]? = some (.slice A8 n8 c8) := by rw [ha]; exact putSel_on (e := (6, 184, .slice A8 n8 c8)) 6 rfl rfl (hon 6 (by kernel_rfl)) rfl
        replace ha := Aside0.mk ha
        have F := Aside0.mk Q_F
        have L := Aside0.mk Q_L
        have S := Aside0.mk Q_S
        refine value_ (w1 := w') (v := .int .i64 n8) (by rfl) rfl ?_ ?_
        · go_simp
          (try simp only [i64_w])
          try rfl
        refine hK.out _ _ ⟨gb, v3, v4, m9_, m11_, (by rw [ha.out]; exact putSel_upk 7 hb_ rfl rfl rfl), Q_F, Q_L, Q_S, Q_D, Q_R0, fun h0_ _ => absurd ((hoff 9 (by kernel_rfl)).symm.trans h0_) (by decide), fun h0_ _ => absurd ((hoff 9 (by kernel_rfl)).symm.trans h0_) (by decide), Q_R1, fun h0_ => absurd ((hoff 10 (by kernel_rfl)).symm.trans h0_) (by decide), fun h0_ => absurd ((hoff 9 (by kernel_rfl)).symm.trans h0_) (by decide), fun h0_ => absurd ((hoff 11 (by kernel_rfl)).symm.trans h0_) (by decide)⟩
      refine steps_cons ?_ ?_
      · rintro b a w' ⟨gb, v3, v4, m9_, m11_, ha, Q_F, Q_L, Q_S, Q_D, Q_R0, Q_G, Q_N, Q_R1, Q_R2, Q_X9_, Q_X11_⟩ hb_ hon hoff
        refine ⟨_, rfl, fun K hK => ?_⟩
        have e185 : a.tmps[185]? = some (.int .i64 n8) := by rw [ha]; exact putSel_on (e := (7, 185, .int .i64 n8)) 7 rfl rfl (hon 7 (by kernel_rfl)) rfl
        replace ha := Aside0.mk ha
        have F := Aside0.mk Q_F
        have L := Aside0.mk Q_L
        have S := Aside0.mk Q_S
        refine value_ (w1 := w') (v := .int .u8 ((n8 : Int) % 256)) (by rfl) rfl ?_ ?_
        · go_simp
          (try simp only [i64_w])
          try rfl
        refine hK.out _ _ ⟨gb, v3, v4, m9_, m11_, (by rw [ha.out]; exact putSel_upk 8 hb_ rfl rfl rfl), Q_F, Q_L, Q_S, Q_D, Q_R0, fun h0_ _ => absurd ((hoff 9 (by kernel_rfl)).symm.trans h0_) (by decide), fun h0_ _ => absurd ((hoff 9 (by kernel_rfl)).symm.trans h0_) (by decide), Q_R1, fun h0_ => absurd ((hoff 10 (by kernel_rfl)).symm.trans h0_) (by decide), fun h0_ => absurd ((hoff 9 (by kernel_rfl)).symm.trans h0_) (by decide), fun h0_ => absurd ((hoff 11 (by kernel_rfl)).symm.trans h0_) (by decide)⟩
      refine steps_cons ?_ ?_
      · rintro b a w' ⟨gb, v3, v4, m9_, m11_, ha, Q_F, Q_L, Q_S, Q_D, Q_R0, Q_G, Q_N, Q_R1, Q_R2, Q_X9_, Q_X11_⟩ hb_ hon hoff
        refine ⟨_, rfl, fun K hK => ?_⟩
        have e186 : a.tmps[186]? = some (.int .u8 ((n8 : Int) % 256)) := by rw [ha]; exact putSel_on (e := (8, 186, .int .u8 ((n8 : Int) % 256))) 8 rfl rfl (hon 8 (by kernel_rfl)) rfl
        replace ha := Aside0.mk ha
        have F := Aside0.mk Q_F
        have L := Aside0.mk Q_L
        have S := Aside0.mk Q_S
        refine value_ (w1 := w'.alloc (.cells #[.int .u8 ((n8 : Int) % 256)] 5)) (v := .slice (some ⟨w'.heap.size, 0, none⟩) 1 1) (by rfl) rfl (by go_simp) ?_
        refine hK.out _ _ ⟨w'.heap.size, v3, v4, (.slice (some ⟨w'.heap.size, 0, none⟩) 1 1), m11_, (by rw [ha.out]; exact putSel_upk 9 hb_ rfl rfl rfl), below_alloc F.out _, L.out.trans (LK.of_below (below_alloc (Below.refl _ _) _)), (fun k hk => Nat.lt_of_lt_of_le (S.out k hk) (below_alloc (Below.refl _ _) _).size), Q_D, fun h0_ => Kd.R_alloc (Q_R0 h0_) _, fun _ _ => blk_new _ _, fun _ _ => (fun he => Nat.lt_irrefl _ (S.out _ he)), fun h0_ h1_ => Kd.R_alloc (Q_R1 h0_ h1_) _, fun h0_ => absurd ((hoff 10 (by kernel_rfl)).symm.trans h0_) (by decide), fun _ => rfl, fun h0_ => absurd ((hoff 11 (by kernel_rfl)).symm.trans h0_) (by decide)⟩
      refine steps_cons ?_ ?_
      · rintro b a w' ⟨gb, v3, v4, m9_, m11_, ha, Q_F, Q_L, Q_S, Q_D, Q_R0, Q_G, Q_N, Q_R1, Q_R2, Q_X9_, Q_X11_⟩ hb_ hon hoff
        refine ⟨_, rfl, fun K hK => ?_⟩
        have e182 : a.tmps[182]? = some (v3) := by rw [ha]; exact putSel_on (e := (4, 182, v3)) 4 rfl rfl (hon 4 (by kernel_rfl)) rfl
        have e187 : a.tmps[187]? = some (m9_) := by rw [ha]; exact putSel_on (e := (9, 187, m9_)) 9 rfl rfl (hon 9 (by kernel_rfl)) rfl
        rw [Q_X9_ (hon 9 (by kernel_rfl))] at e187
        replace ha := Aside0.mk ha
        have F := Aside0.mk Q_F
        have L := Aside0.mk Q_L
        have S := Aside0.mk Q_S
        have G := Aside0.mk (Q_G (hon 9 (by kernel_rfl)) hb_)
        have N := Aside0.mk (Q_N (hon 9 (by kernel_rfl)) hb_)
        have R1 := Aside0.mk (Q_R1 (hon 4 (by kernel_rfl)) hb_)
        refine append_RB_step (N := some 188) (by rfl) rfl _ _ 30 rfl rfl w w' B v3 (((l ++ wnum ix 8) ++ wnum lt 8) ++ wnum cm 8) ((n8 : Int) % 256) gb (eval_of e182) (eval_of e187) R1.out F.out (Nat.le_trans HBW2.out L.out.size) HBB.out G.out (by have := HL.out; simp only [List.length_append, wnum_length]; omega) ?_
        intro v1_ w1_ hr1 hq1 hk1
        refine hK.out _ _ ⟨gb, v3, v1_, m9_, m11_, (by rw [ha.out]; exact putSel_upk 10 hb_ rfl rfl rfl), hq1, L.out.trans hk1, (fun k hk => Nat.lt_of_lt_of_le (S.out k hk) hk1.size), fun h0_ => absurd ((hon 4 (by kernel_rfl)).symm.trans h0_) (by decide), fun h0_ => absurd ((hon 4 (by kernel_rfl)).symm.trans h0_) (by decide), fun _ h1_ => absurd ((up_self b 10).symm.trans h1_) (by decide), fun _ h1_ => absurd ((up_self b 10).symm.trans h1_) (by decide), fun _ h1_ => absurd ((up_self b 10).symm.trans h1_) (by decide), fun _ => hr1, Q_X9_, fun h0_ => absurd ((hoff 11 (by kernel_rfl)).symm.trans h0_) (by decide)⟩
      refine steps_cons ?_ ?_
      · rintro b a w' ⟨gb, v3, v4, m9_, m11_, ha, Q_F, Q_L, Q_S, Q_D, Q_R0, Q_G, Q_N, Q_R1, Q_R2, Q_X9_, Q_X11_⟩ hb_ hon hoff
        refine ⟨_, rfl, fun K hK => ?_⟩
        have e188 : a.tmps[188]? = some (v4) := by rw [ha]; exact putSel_on (e := (10, 188, v4)) 10 rfl rfl (hon 10 (by kernel_rfl)) rfl
        replace ha := Aside0.mk ha
        have F := Aside0.mk Q_F
        have L := Aside0.mk Q_L
        have S := Aside0.mk Q_S
        have R2 := Aside0.mk (Q_R2 (hon 10 (by kernel_rfl)))
        refine value_ (w1 := w') (v := v4) (by rfl) rfl ?_ ?_
        · go_simp
          (try simp only [i64_w])
          try rfl
        refine hK.out _ _ ⟨gb, v3, v4, m9_, (v4), (by rw [ha.out]; exact putSel_upk 11 hb_ rfl rfl rfl), Q_F, Q_L, Q_S, fun h0_ => absurd ((hon 4 (by kernel_rfl)).symm.trans h0_) (by decide), fun h0_ => absurd ((hon 4 (by kernel_rfl)).symm.trans h0_) (by decide), fun _ h1_ => absurd ((hon 10 (by kernel_rfl)).symm.trans h1_) (by decide), fun _ h1_ => absurd ((hon 10 (by kernel_rfl)).symm.trans h1_) (by decide), fun _ h1_ => absurd ((hon 10 (by kernel_rfl)).symm.trans h1_) (by decide), Q_R2, Q_X9_, fun _ => rfl⟩
      exact steps_nil
    · rintro b a w' hall ⟨gb, v3, v4, m9_, m11_, ha, Q_F, Q_L, Q_S, Q_D, Q_R0, Q_G, Q_N, Q_R1, Q_R2, Q_X9_, Q_X11_⟩
      clear D F L R0 S
      have hb0_ := hall 0 (by kernel_rfl)
      have hb1_ := hall 1 (by kernel_rfl)
      have hb2_ := hall 2 (by kernel_rfl)
      have hb3_ := hall 3 (by kernel_rfl)
      have hb4_ := hall 4 (by kernel_rfl)
      have hb5_ := hall 5 (by kernel_rfl)
      have hb6_ := hall 6 (by kernel_rfl)
      have hb7_ := hall 7 (by kernel_rfl)
      have hb8_ := hall 8 (by kernel_rfl)
      have hb9_ := hall 9 (by kernel_rfl)
      have hb10_ := hall 10 (by kernel_rfl)
      have hb11_ := hall 11 (by kernel_rfl)
      subst ha
      obtain rfl := Q_X9_ hb9_
      obtain rfl := Q_X11_ hb11_
      simp only [putSel, hb0_, hb1_, hb2_, hb3_, hb4_, hb5_, hb6_, hb7_, hb8_, hb9_, hb10_, hb11_, if_true, Act.put, List.setIfInBounds_toArray, List.set_cons_zero, List.set_cons_succ]
      have F := Aside0.mk Q_F
      clear Q_F
      have L := Aside0.mk Q_L
      clear Q_L
      have S := Aside0.mk Q_S
      clear Q_S
      clear Q_D
      clear Q_R0
      clear Q_G
      clear Q_N
      clear Q_R1
      have R2 := Aside0.mk (Q_R2 hb10_)
      clear Q_R2
      clear hall hb0_ hb1_ hb2_ hb3_ hb4_ hb5_ hb6_ hb7_ hb8_ hb9_ hb10_ hb11_
      obtain ⟨u3, hu⟩ : ∃ u, u = w' := ⟨_, rfl⟩
      subst hu
      obtain ⟨v4, hv⟩ : ∃ v, v = m11_ := ⟨_, rfl⟩
      subst hv
      have HX3 := Aside0.mk (L.out.blk HX2.out (by decide))
      have HW3 := F
      have HR3 := R2
      have HBW3 : Aside0 (B ≤ u3.heap.size) := ⟨Nat.le_trans HBW2.out L.out.size⟩
      have HL3 : Aside0 (((((l ++ wnum ix 8) ++ wnum lt 8) ++ wnum cm 8) ++ [(n8 : Int) % 256]).length ≤ 200) := ⟨by have := HL.out; simp only [List.length_append, wnum_length, List.length_singleton]; omega⟩
      obtain ⟨l4, hl4⟩ : ∃ l4, l4 = ((((l ++ wnum ix 8) ++ wnum lt 8) ++ wnum cm 8) ++ [(n8 : Int) % 256]) := ⟨_, rfl⟩
      rw [← hl4] at HR3 HL3
      have HL4 := Aside0.mk hl4
      clear F L R2 S hl4 HL HX1 HX2 HW HW2 HBW HBW2
      go_wp2_with fail
      go_loopg [7, 9] n8 (fun gk v7 v9 wr => ∃ (i : Nat), v9 = .int .i64 i ∧ Aside0 (i ≤ n8) ∧ Aside0 (n8 - i ≤ gk) ∧ Aside0 (wr.heap[g]? = some (.cells #[.int .i64 3, .int .i64 fr, .int .i64 tt, .int .i64 tm, .int .i64 ix, .int .i64 lt, .int .i64 cm, .bool ys, .slice A8 n8 c8, .int .i64 si, .int .i64 st, .slice A11 n11 c11, .string sd] 27 (0, 0))) ∧ Aside0 (Below w.heap.size w wr) ∧ Aside0 (B ≤ wr.heap.size) ∧ Aside0 (RB w wr B v7 (l4 ++ (es.take i).flatMap wentry)) ∧ Aside0 ((l4 ++ (es.take i).flatMap wentry).length ≤ 200 + i * 5000))
      case atStart => exact ⟨0, rfl, ⟨by omega⟩, ⟨by omega⟩, HX3, HW3, HBW3, ⟨by simpa using HR3.out⟩, ⟨by simpa using HL3.out⟩⟩
      case round =>
        clear HX3 HW3 HR3 HBW3 HL3
        obtain ⟨i, rfl, HI, HGK, HX, HW, HBW, HR, HL⟩ := hrel
        have q8 : wr.cell? ⟨g, 8, none⟩ = some (.slice A8 n8 c8) := blk_cell HX.out 8
        have hi := HI.out
        have h8 : n8 ≤ 8 := by have := H8.out; have := HN.out; omega
        by_cases hlt : i < n8
        · have l1 : decide (i < n8) = true := decide_eq_true hlt
          have l2 : (i : Int) < (n8 : Int) := by omega
          obtain ⟨ad, A4, c4, hA1, q0, q1, q2, q3, q4, q5, q6⟩ := at_T46 HE.out (i : Int) (by omega) (by rw [← HN.out]; omega)
          subst hA1
          simp only [Int.toNat_natCast] at q0 q1 q2 q3 q4
          have hmem : rd_T46 es (i : Int) ∈ es := by
            have h := HN.out; simp only [rd_T46, Int.toNat_natCast, List.getD_eq_getElem?_getD, List.getElem?_eq_getElem (show i < es.length by omega), Option.getD_some]; exact List.getElem_mem _
          have HODD := Aside0.mk (HO.out _ hmem)
          have HFT := Aside0.mk (flat_take es i (by rw [← HN.out]; exact hlt))
          clear hmem
          obtain ⟨E, hE⟩ : ∃ E, E = rd_T46 es (i : Int) := ⟨_, rfl⟩
          rw [← hE] at q0 q1 q2 q3 q4 q5 q6 HODD HFT
          clear hE
          obtain ⟨n4, hn4⟩ : ∃ n4, n4 = E.f4.length := ⟨_, rfl⟩
          rw [← hn4] at q4
          have HN4 := Aside0.mk hn4
          have HC4 := Aside0.mk q6
          have HD4 := Aside0.mk q5
          have HLT := Aside0.mk hlt
          replace q0 := (HW.out.cell (World.block_lt_of_cell? w _ q0)).trans q0
          replace q1 := (HW.out.cell (World.block_lt_of_cell? w _ q1)).trans q1
          replace q2 := (HW.out.cell (World.block_lt_of_cell? w _ q2)).trans q2
          replace q3 := (HW.out.cell (World.block_lt_of_cell? w _ q3)).trans q3
          replace q4 := (HW.out.cell (World.block_lt_of_cell? w _ q4)).trans q4
          clear hn4 q5 q6 hlt
          go_upto_region 33 with (fail)
          obtain ⟨ge, hge⟩ : ∃ ge, ge = wr.heap.size := ⟨_, rfl⟩
          rw [← hge]
          obtain ⟨uE, huE⟩ : ∃ u, u = (wr.alloc (.cells #[.int .i64 E.f0, .int .i64 E.f1, .int .i64 E.f2, .string E.f3, .slice A4 n4 c4] 46)) := ⟨_, rfl⟩
          rw [← huE]
          obtain ⟨lr, hlr⟩ : ∃ l, l = l4 ++ (es.take i).flatMap wentry := ⟨_, rfl⟩
          rw [← hlr] at HR HL
          have HLR := Aside0.mk hlr
          have HXE : Aside0 (uE.heap[ge]? = some (.cells #[.int .i64 E.f0, .int .i64 E.f1, .int .i64 E.f2, .string E.f3, .slice A4 n4 c4] 46 (0, 0))) := ⟨by rw [huE, hge]; exact blk_new _ _⟩
          have HXG : Aside0 (uE.heap[g]? = some (.cells #[.int .i64 3, .int .i64 fr, .int .i64 tt, .int .i64 tm, .int .i64 ix, .int .i64 lt, .int .i64 cm, .bool ys, .slice (some ad) n8 c8, .int .i64 si, .int .i64 st, .slice A11 n11 c11, .string sd] 27 (0, 0))) := ⟨by rw [huE]; exact blk_alloc HX.out _⟩
          have HWE : Aside0 (Below w.heap.size w uE) := ⟨by rw [huE]; exact below_alloc HW.out _⟩
          have HRE : Aside0 (RB w uE B u7 lr) := ⟨by rw [huE]; exact Kd.R_alloc HR.out _⟩
          have HBWE : Aside0 (B ≤ uE.heap.size) := ⟨by rw [huE]; exact Nat.le_trans HBW.out (below_alloc (Below.refl _ _) _).size⟩
          have HL0 := HL
          have hL : lr.length ≤ 50000 := by have := HL0.out; omega
          have HL := Aside0.mk hL
          have hod := HODD.out
          simp only [oddE, Bool.or_eq_false_iff, decide_eq_false_iff_not, Nat.not_lt] at hod
          have HD := Aside0.mk hod.2.1
          have HM := Aside0.mk hod.2.2.1
          clear hge huE hlr hL hod HX HW HR HBW q0 q1 q2 q3 q4 q8
          refine start_ (n := 10) (S := fun w' => True) (ds := []) #[false, false, false, false, false, false, false, false, false, false] (by kernel_rfl) rfl rfl trivial (fun hHeld => ?_)
          refine with_tabW enc33.tab33 enc33.bits33 (fun HT_ HW_ => ?_)
          have F : Aside0 (Below w.heap.size w uE.drew) := ⟨below_drew HWE.out⟩
          have L : Aside0 (LK uE uE.drew B) := ⟨LK.of_below (below_drew (Below.refl _ _))⟩
          have R0 : Aside0 (RB w uE.drew B u7 lr) := ⟨Kd.R_drew HRE.out⟩
          refine inv_at [0, 1, 2, 3, 4, 5, 6, 7, 8, 9] (fun a0_ b a w' => ∃ (v8 : Value) (v9 : Value) (m9_ : Value), a = putSel a0_ b [(0, 201, u7), (1, 202, .pointer (some ⟨ge, 0, none⟩)), (2, 203, .int .i64 E.f0), (3, 204, .int .u64 (IntKind.u64.wrap E.f0)), (4, 205, v8), (5, 206, .pointer (some ⟨ge, 1, none⟩)), (6, 207, .int .i64 E.f1), (7, 208, .int .u64 (IntKind.u64.wrap E.f1)), (8, 209, v9), (9, 7, m9_)] ∧ (Below w.heap.size w w') ∧ (LK uE w' B) ∧ (b 4 = false → RB w w' B u7 lr) ∧ (b 4 = true → b 8 = false → RB w w' B v8 (lr ++ wnum E.f0 8)) ∧ (b 8 = true → RB w w' B v9 ((lr ++ wnum E.f0 8) ++ wnum E.f1 8)) ∧ (b 9 = true → (m9_ : Value) = v9)) HT_.out HW_.out (by kernel_rfl) (by kernel_rfl) ?_ ?_ ?_
          · exact ⟨.bool false, .bool false, .bool false, by simp only [putSel, Bool.false_eq_true, if_false], F.out, L.out, fun _ => R0.out, fun h_ => absurd h_ (by decide), fun h_ => absurd h_ (by decide), fun h_ => absurd h_ (by decide)⟩
          · skip
            clear F L R0
            refine steps_cons ?_ ?_
            · rintro b a w' ⟨v8, v9, m9_, ha, Q_F, Q_L, Q_R0, Q_R1, Q_R2, Q_X9_⟩ hb_ hon hoff
              refine ⟨_, rfl, fun K hK => ?_⟩
              have e7 : a.tmps[7]? = some (u7) := by rw [ha]; exact (putSel_not (hoff 9 (by kernel_rfl)) rfl).trans rfl
              replace ha := Aside0.mk ha
              have F := Aside0.mk Q_F
              have L := Aside0.mk Q_L
              have R0 := Aside0.mk (Q_R0 (hoff 4 (by kernel_rfl)))
              refine value_ (w1 := w') (v := u7) (by rfl) rfl ?_ ?_
              · go_simp
                (try simp only [i64_w])
                try rfl
              refine hK.out _ _ ⟨v8, v9, m9_, (by rw [ha.out]; exact putSel_upk 0 hb_ rfl rfl rfl), Q_F, Q_L, Q_R0, fun h0_ _ => absurd ((hoff 4 (by kernel_rfl)).symm.trans h0_) (by decide), fun h0_ => absurd ((hoff 8 (by kernel_rfl)).symm.trans h0_) (by decide), fun h0_ => absurd ((hoff 9 (by kernel_rfl)).symm.trans h0_) (by decide)⟩
            refine steps_cons ?_ ?_
            · rintro b a w' ⟨v8, v9, m9_, ha, Q_F, Q_L, Q_R0, Q_R1, Q_R2, Q_X9_⟩ hb_ hon hoff
              refine ⟨_, rfl, fun K hK => ?_⟩
              have e10 : a.tmps[10]? = some (.pointer (some ⟨ge, 0, none⟩)) := by rw [ha]; exact (putSel_off rfl).trans rfl
              replace ha := Aside0.mk ha
              have F := Aside0.mk Q_F
              have L := Aside0.mk Q_L
              have R0 := Aside0.mk (Q_R0 (hoff 4 (by kernel_rfl)))
              refine value_ (w1 := w') (v := .pointer (some ⟨ge, 0, none⟩)) (by rfl) rfl ?_ ?_
              · go_simp
                (try simp only [i64_w])
                try rfl
              refine hK.out _ _ ⟨v8, v9, m9_, (by rw [ha.out]; exact putSel_upk 1 hb_ rfl rfl rfl), Q_F, Q_L, Q_R0, fun h0_ _ => absurd ((hoff 4 (by kernel_rfl)).symm.trans h0_) (by decide), fun h0_ => absurd ((hoff 8 (by kernel_rfl)).symm.trans h0_) (by decide), fun h0_ => absurd ((hoff 9 (by kernel_rfl)).symm.trans h0_) (by decide)⟩
            refine steps_cons ?_ ?_
            · rintro b a w' ⟨v8, v9, m9_, ha, Q_F, Q_L, Q_R0, Q_R1, Q_R2, Q_X9_⟩ hb_ hon hoff
              refine ⟨_, rfl, fun K hK => ?_⟩
              have e202 : a.tmps[202]? = some (.pointer (some ⟨ge, 0, none⟩)) := by rw [ha]; exact putSel_on (e := (1, 202, .pointer (some ⟨ge, 0, none⟩))) 1 rfl rfl (hon 1 (by kernel_rfl)) rfl
              replace ha := Aside0.mk ha
              have F := Aside0.mk Q_F
              have L := Aside0.mk Q_L
              have R0 := Aside0.mk (Q_R0 (hoff 4 (by kernel_rfl)))
              have m0 : w'.cell? ⟨ge, 0, none⟩ = some (.int .i64 E.f0) := blk_cell (L.out.blk HXE.out (by decide)) 0
              refine value_ (w1 := w') (v := .int .i64 E.f0) (by rfl) rfl ?_ ?_
              · go_simp
                (try simp only [i64_w])
                try rfl
              refine hK.out _ _ ⟨v8, v9, m9_, (by rw [ha.out]; exact putSel_upk 2 hb_ rfl rfl rfl), Q_F, Q_L, Q_R0, fun h0_ _ => absurd ((hoff 4 (by kernel_rfl)).symm.trans h0_) (by decide), fun h0_ => absurd ((hoff 8 (by kernel_rfl)).symm.trans h0_) (by decide), fun h0_ => absurd ((hoff 9 (by kernel_rfl)).symm.trans h0_) (by decide)⟩
            refine steps_cons ?_ ?_
            · rintro b a w' ⟨v8, v9, m9_, ha, Q_F, Q_L, Q_R0, Q_R1, Q_R2, Q_X9_⟩ hb_ hon hoff
              refine ⟨_, rfl, fun K hK => ?_⟩
              have e203 : a.tmps[203]? = some (.int .i64 E.f0) := by rw [ha]; exact putSel_on (e := (2, 203, .int .i64 E.f0)) 2 rfl rfl (hon 2 (by kernel_rfl)) rfl
              replace ha := Aside0.mk ha
              have F := Aside0.mk Q_F
              have L := Aside0.mk Q_L
              have R0 := Aside0.mk (Q_R0 (hoff 4 (by kernel_rfl)))
              refine value_ (w1 := w') (v := .int .u64 (IntKind.u64.wrap E.f0)) (by rfl) rfl ?_ ?_
              · go_simp
                (try simp only [i64_w])
                try rfl
              refine hK.out _ _ ⟨v8, v9, m9_, (by rw [ha.out]; exact putSel_upk 3 hb_ rfl rfl rfl), Q_F, Q_L, Q_R0, fun h0_ _ => absurd ((hoff 4 (by kernel_rfl)).symm.trans h0_) (by decide), fun h0_ => absurd ((hoff 8 (by kernel_rfl)).symm.trans h0_) (by decide), fun h0_ => absurd ((hoff 9 (by kernel_rfl)).symm.trans h0_) (by decide)⟩
            refine steps_cons ?_ ?_
            · rintro b a w' ⟨v8, v9, m9_, ha, Q_F, Q_L, Q_R0, Q_R1, Q_R2, Q_X9_⟩ hb_ hon hoff
              refine ⟨_, rfl, fun K hK => ?_⟩
              have e201 : a.tmps[201]? = some (u7) := by rw [ha]; exact putSel_on (e := (0, 201, u7)) 0 rfl rfl (hon 0 (by kernel_rfl)) rfl
              have e204 : a.tmps[204]? = some (.int .u64 (IntKind.u64.wrap E.f0)) := by rw [ha]; exact putSel_on (e := (3, 204, .int .u64 (IntKind.u64.wrap E.f0))) 3 rfl rfl (hon 3 (by kernel_rfl)) rfl
              replace ha := Aside0.mk ha
              have F := Aside0.mk Q_F
              have L := Aside0.mk Q_L
              have R0 := Aside0.mk (Q_R0 hb_)
              refine goes_ (N := some 205) Try.func26 (by kernel_rfl) rfl #[u7, .int .i64 8, .int .u64 (IntKind.u64.wrap E.f0)] (by rfl) rfl rfl (by first | (simp only [List.map_toArray, List.map_cons, List.map_nil, Act.eval, Array.getD_eq_getD_getElem?, Option.getD_some, e201, e204]; done) | (simp only [List.map_toArray, List.map_cons, List.map_nil, Act.eval, Array.getD_eq_getD_getElem?, Option.getD_some, e201, e204]; rfl)) ?_
              refine (lay_calls w w' B u7 lr E.f0 8 R0.out F.out (Nat.le_trans HBWE.out L.out.size) (by decide) (by have := HL.out; (try simp only [List.length_append, wnum_length]); omega)).mono ?_
              rintro e w1_ ⟨v1_, rfl, hr1, hq1, hk1⟩
              refine ⟨_, rfl, ?_⟩
              refine hK.out _ _ ⟨v1_, v9, m9_, (by rw [ha.out]; exact putSel_upk 4 hb_ rfl rfl rfl), hq1, L.out.trans hk1, fun h0_ => absurd ((up_self b 4).symm.trans h0_) (by decide), fun _ _ => hr1, fun h0_ => absurd ((hoff 8 (by kernel_rfl)).symm.trans h0_) (by decide), fun h0_ => absurd ((hoff 9 (by kernel_rfl)).symm.trans h0_) (by decide)⟩
            refine steps_cons ?_ ?_
            · rintro b a w' ⟨v8, v9, m9_, ha, Q_F, Q_L, Q_R0, Q_R1, Q_R2, Q_X9_⟩ hb_ hon hoff
              refine ⟨_, rfl, fun K hK => ?_⟩
              have e10 : a.tmps[10]? = some (.pointer (some ⟨ge, 0, none⟩)) := by rw [ha]; exact (putSel_off rfl).trans rfl
              replace ha := Aside0.mk ha
              have F := Aside0.mk Q_F
              have L := Aside0.mk Q_L
              refine value_ (w1 := w') (v := .pointer (some ⟨ge, 1, none⟩)) (by rfl) rfl ?_ ?_
              · go_simp
                (try simp only [i64_w])
                try rfl
              refine hK.out _ _ ⟨v8, v9, m9_, (by rw [ha.out]; exact putSel_upk 5 hb_ rfl rfl rfl), Q_F, Q_L, Q_R0, Q_R1, fun h0_ => absurd ((hoff 8 (by kernel_rfl)).symm.trans h0_) (by decide), fun h0_ => absurd ((hoff 9 (by kernel_rfl)).symm.trans h0_) (by decide)⟩
            refine steps_cons ?_ ?_
            · rintro b a w' ⟨v8, v9, m9_, ha, Q_F, Q_L, Q_R0, Q_R1, Q_R2, Q_X9_⟩ hb_ hon hoff
              refine ⟨_, rfl, fun K hK => ?_⟩
              have e206 : a.tmps[206]? = some (.pointer (some ⟨ge, 1, none⟩)) := by rw [ha]; exact putSel_on (e := (5, 206, .pointer (some ⟨ge, 1, none⟩))) 5 rfl rfl (hon 5 (by kernel_rfl)) rfl
              replace ha := Aside0.mk ha
              have F := Aside0.mk Q_F
              have L := Aside0.mk Q_L
              have m0 : w'.cell? ⟨ge, 1, none⟩ = some (.int .i64 E.f1) := blk_cell (L.out.blk HXE.out (by decide)) 1
              refine value_ (w1 := w') (v := .int .i64 E.f1) (by rfl) rfl ?_ ?_
              · go_simp
                (try simp only [i64_w])
                try rfl
              refine hK.out _ _ ⟨v8, v9, m9_, (by rw [ha.out]; exact putSel_upk 6 hb_ rfl rfl rfl), Q_F, Q_L, Q_R0, Q_R1, fun h0_ => absurd ((hoff 8 (by kernel_rfl)).symm.trans h0_) (by decide), fun h0_ => absurd ((hoff 9 (by kernel_rfl)).symm.trans h0_) (by decide)⟩
            refine steps_cons ?_ ?_
            · rintro b a w' ⟨v8, v9, m9_, ha, Q_F, Q_L, Q_R0, Q_R1, Q_R2, Q_X9_⟩ hb_ hon hoff
              refine ⟨_, rfl, fun K hK => ?_⟩
              have e207 : a.tmps[207]? = some (.int .i64 E.f1) := by rw [ha]; exact putSel_on (e := (6, 207, .int .i64 E.f1)) 6 rfl rfl (hon 6 (by kernel_rfl)) rfl
              replace ha := Aside0.mk ha
              have F := Aside0.mk Q_F
              have L := Aside0.mk Q_L
              refine value_ (w1 := w') (v := .int .u64 (IntKind.u64.wrap E.f1)) (by rfl) rfl ?_ ?_
              · go_simp
                (try simp only [i64_w])
                try rfl
              refine hK.out _ _ ⟨v8, v9, m9_, (by rw [ha.out]; exact putSel_upk 7 hb_ rfl rfl rfl), Q_F, Q_L, Q_R0, Q_R1, fun h0_ => absurd ((hoff 8 (by kernel_rfl)).symm.trans h0_) (by decide), fun h0_ => absurd ((hoff 9 (by kernel_rfl)).symm.trans h0_) (by decide)⟩
            refine steps_cons ?_ ?_
            · rintro b a w' ⟨v8, v9, m9_, ha, Q_F, Q_L, Q_R0, Q_R1, Q_R2, Q_X9_⟩ hb_ hon hoff
              refine ⟨_, rfl, fun K hK => ?_⟩
              have e205 : a.tmps[205]? = some (v8) := by rw [ha]; exact putSel_on (e := (4, 205, v8)) 4 rfl rfl (hon 4 (by kernel_rfl)) rfl
              have e208 : a.tmps[208]? = some (.int .u64 (IntKind.u64.wrap E.f1)) := by rw [ha]; exact putSel_on (e := (7, 208, .int .u64 (IntKind.u64.wrap E.f1))) 7 rfl rfl (hon 7 (by kernel_rfl)) rfl
              replace ha := Aside0.mk ha
              have F := Aside0.mk Q_F
              have L := Aside0.mk Q_L
              have R1 := Aside0.mk (Q_R1 (hon 4 (by kernel_rfl)) hb_)
              refine goes_ (N := some 209) Try.func26 (by kernel_rfl) rfl #[v8, .int .i64 8, .int .u64 (IntKind.u64.wrap E.f1)] (by rfl) rfl rfl (by first | (simp only [List.map_toArray, List.map_cons, List.map_nil, Act.eval, Array.getD_eq_getD_getElem?, Option.getD_some, e205, e208]; done) | (simp only [List.map_toArray, List.map_cons, List.map_nil, Act.eval, Array.getD_eq_getD_getElem?, Option.getD_some, e205, e208]; rfl)) ?_
              refine (lay_calls w w' B v8 (lr ++ wnum E.f0 8) E.f1 8 R1.out F.out (Nat.le_trans HBWE.out L.out.size) (by decide) (by have := HL.out; (try simp only [List.length_append, wnum_length]); omega)).mono ?_
              rintro e w1_ ⟨v1_, rfl, hr1, hq1, hk1⟩
              refine ⟨_, rfl, ?_⟩
              refine hK.out _ _ ⟨v8, v1_, m9_, (by rw [ha.out]; exact putSel_upk 8 hb_ rfl rfl rfl), hq1, L.out.trans hk1, fun h0_ => absurd ((hon 4 (by kernel_rfl)).symm.trans h0_) (by decide), fun _ h1_ => absurd ((up_self b 8).symm.trans h1_) (by decide), fun _ => hr1, fun h0_ => absurd ((hoff 9 (by kernel_rfl)).symm.trans h0_) (by decide)⟩
            refine steps_cons ?_ ?_
            · rintro b a w' ⟨v8, v9, m9_, ha, Q_F, Q_L, Q_R0, Q_R1, Q_R2, Q_X9_⟩ hb_ hon hoff
              refine ⟨_, rfl, fun K hK => ?_⟩
              have e209 : a.tmps[209]? = some (v9) := by rw [ha]; exact putSel_on (e := (8, 209, v9)) 8 rfl rfl (hon 8 (by kernel_rfl)) rfl
              replace ha := Aside0.mk ha
              have F := Aside0.mk Q_F
              have L := Aside0.mk Q_L
              have R2 := Aside0.mk (Q_R2 (hon 8 (by kernel_rfl)))
              refine value_ (w1 := w') (v := v9) (by rfl) rfl ?_ ?_
              · go_simp
                (try simp only [i64_w])
                try rfl
              refine hK.out _ _ ⟨v8, v9, (v9), (by rw [ha.out]; exact putSel_upk 9 hb_ rfl rfl rfl), Q_F, Q_L, fun h0_ => absurd ((hon 4 (by kernel_rfl)).symm.trans h0_) (by decide), fun _ h1_ => absurd ((hon 8 (by kernel_rfl)).symm.trans h1_) (by decide), Q_R2, fun _ => rfl⟩
            exact steps_nil
          · rintro b a w' hall ⟨v8, v9, m9_, ha, Q_F, Q_L, Q_R0, Q_R1, Q_R2, Q_X9_⟩
            clear F L R0
            have hb0_ := hall 0 (by kernel_rfl)
            have hb1_ := hall 1 (by kernel_rfl)
            have hb2_ := hall 2 (by kernel_rfl)
            have hb3_ := hall 3 (by kernel_rfl)
            have hb4_ := hall 4 (by kernel_rfl)
            have hb5_ := hall 5 (by kernel_rfl)
            have hb6_ := hall 6 (by kernel_rfl)
            have hb7_ := hall 7 (by kernel_rfl)
            have hb8_ := hall 8 (by kernel_rfl)
            have hb9_ := hall 9 (by kernel_rfl)
            subst ha
            obtain rfl := Q_X9_ hb9_
            simp only [putSel, hb0_, hb1_, hb2_, hb3_, hb4_, hb5_, hb6_, hb7_, hb8_, hb9_, if_true, Act.put, List.setIfInBounds_toArray, List.set_cons_zero, List.set_cons_succ]
            have F := Aside0.mk Q_F
            clear Q_F
            have L := Aside0.mk Q_L
            clear Q_L
            clear Q_R0
            clear Q_R1
            have R2 := Aside0.mk (Q_R2 hb8_)
            clear Q_R2
            clear hall hb0_ hb1_ hb2_ hb3_ hb4_ hb5_ hb6_ hb7_ hb8_ hb9_
            obtain ⟨uF, hu⟩ : ∃ u, u = w' := ⟨_, rfl⟩
            subst hu
            obtain ⟨v9, hv⟩ : ∃ v, v = m9_ := ⟨_, rfl⟩
            subst hv
            have HXF := Aside0.mk (L.out.blk HXE.out (by decide))
            have HXH := Aside0.mk (L.out.blk HXG.out (by decide))
            have HWF := F
            have HRF := R2
            have HBWF : Aside0 (B ≤ uF.heap.size) := ⟨Nat.le_trans HBWE.out L.out.size⟩
            have HBWH := HBWF
            clear F L R2 HXE HXG HWE HRE HBWE
            go_upto_region 34 with (fail)
            refine start_ (n := 12) (S := fun w' => True) (ds := []) #[false, false, false, false, false, false, false, false, false, false, false, false] (by kernel_rfl) rfl rfl trivial (fun hHeld => ?_)
            refine with_tabW enc34.tab34 enc34.bits34 (fun HT_ HW_ => ?_)
            have F : Aside0 (Below w.heap.size w uF.drew) := ⟨below_drew HWF.out⟩
            have L : Aside0 (LK uF uF.drew B) := ⟨LK.of_below (below_drew (Below.refl _ _))⟩
            have R0 : Aside0 (RB w uF.drew B v9 ((lr ++ wnum E.f0 8) ++ wnum E.f1 8)) := ⟨Kd.R_drew HRF.out⟩
            refine inv_at [0, 1, 2, 3, 4, 5, 6, 7, 8, 9, 10, 11] (fun a0_ b a w' => ∃ (v10 : Value) (v11 : Value) (v12 : Value) (m11_ : Value), a = putSel a0_ b [(0, 210, v9), (1, 211, .pointer (some ⟨ge, 2, none⟩)), (2, 212, .int .i64 E.f2), (3, 213, .int .u64 (IntKind.u64.wrap E.f2)), (4, 214, v10), (5, 215, .pointer (some ⟨ge, 3, none⟩)), (6, 216, .string E.f3), (7, 217, v11), (8, 218, .pointer (some ⟨ge, 4, none⟩)), (9, 219, .slice A4 n4 c4), (10, 220, v12), (11, 7, m11_)] ∧ (Below w.heap.size w w') ∧ (LK uF w' B) ∧ (b 4 = false → RB w w' B v9 ((lr ++ wnum E.f0 8) ++ wnum E.f1 8)) ∧ (b 4 = true → b 7 = false → RB w w' B v10 (((lr ++ wnum E.f0 8) ++ wnum E.f1 8) ++ wnum E.f2 8)) ∧ (b 7 = true → b 10 = false → RB w w' B v11 ((((lr ++ wnum E.f0 8) ++ wnum E.f1 8) ++ wnum E.f2 8) ++ wtext E.f3)) ∧ (b 10 = true → RB w w' B v12 (((((lr ++ wnum E.f0 8) ++ wnum E.f1 8) ++ wnum E.f2 8) ++ wtext E.f3) ++ wmem E.f4)) ∧ (b 11 = true → (m11_ : Value) = v12)) HT_.out HW_.out (by kernel_rfl) (by kernel_rfl) ?_ ?_ ?_
            · exact ⟨.bool false, .bool false, .bool false, .bool false, by simp only [putSel, Bool.false_eq_true, if_false], F.out, L.out, fun _ => R0.out, fun h_ => absurd h_ (by decide), fun h_ => absurd h_ (by decide), fun h_ => absurd h_ (by decide), fun h_ => absurd h_ (by decide)⟩
            · skip
              clear F L R0
              refine steps_cons ?_ ?_
              · rintro b a w' ⟨v10, v11, v12, m11_, ha, Q_F, Q_L, Q_R0, Q_R1, Q_R2, Q_R3, Q_X11_⟩ hb_ hon hoff
                refine ⟨_, rfl, fun K hK => ?_⟩
                have e7 : a.tmps[7]? = some (v9) := by rw [ha]; exact (putSel_not (hoff 11 (by kernel_rfl)) rfl).trans rfl
                replace ha := Aside0.mk ha
                have F := Aside0.mk Q_F
                have L := Aside0.mk Q_L
                have R0 := Aside0.mk (Q_R0 (hoff 4 (by kernel_rfl)))
                refine value_ (w1 := w') (v := v9) (by rfl) rfl ?_ ?_
                · go_simp
                  (try simp only [i64_w])
                  try rfl
                refine hK.out _ _ ⟨v10, v11, v12, m11_, (by rw [ha.out]; exact putSel_upk 0 hb_ rfl rfl rfl), Q_F, Q_L, Q_R0, fun h0_ _ => absurd ((hoff 4 (by kernel_rfl)).symm.trans h0_) (by decide), fun h0_ _ => absurd ((hoff 7 (by kernel_rfl)).symm.trans h0_) (by decide), fun h0_ => absurd ((hoff 10 (by kernel_rfl)).symm.trans h0_) (by decide), fun h0_ => absurd ((hoff 11 (by kernel_rfl)).symm.trans h0_) (by decide)⟩
              refine steps_cons ?_ ?_
              · rintro b a w' ⟨v10, v11, v12, m11_, ha, Q_F, Q_L, Q_R0, Q_R1, Q_R2, Q_R3, Q_X11_⟩ hb_ hon hoff
                refine ⟨_, rfl, fun K hK => ?_⟩
                have e10 : a.tmps[10]? = some (.pointer (some ⟨ge, 0, none⟩)) := by rw [ha]; exact (putSel_off rfl).trans rfl
                replace ha := Aside0.mk ha
                have F := Aside0.mk Q_F
                have L := Aside0.mk Q_L
                have R0 := Aside0.mk (Q_R0 (hoff 4 (by kernel_rfl)))
                refine value_ (w1 := w') (v := .pointer (some ⟨ge, 2, none⟩)) (by rfl) rfl ?_ ?_
                · go_simp
                  (try simp only [i64_w])
                  try rfl
                refine hK.out _ _ ⟨v10, v11, v12, m11_, (by rw [ha.out]; exact putSel_upk 1 hb_ rfl rfl rfl), Q_F, Q_L, Q_R0, fun h0_ _ => absurd ((hoff 4 (by kernel_rfl)).symm.trans h0_) (by decide), fun h0_ _ => absurd ((hoff 7 (by kernel_rfl)).symm.trans h0_) (by decide), fun h0_ => absurd ((hoff 10 (by kernel_rfl)).symm.trans h0_) (by decide), fun h0_ => absurd ((hoff 11 (by kernel_rfl)).symm.trans h0_) (by decide)⟩
              refine steps_cons ?_ ?_
              · rintro b a w' ⟨v10, v11, v12, m11_, ha, Q_F, Q_L, Q_R0, Q_R1, Q_R2, Q_R3, Q_X11_⟩ hb_ hon hoff
                refine ⟨_, rfl, fun K hK => ?_⟩
                have e211 : a.tmps[211]? = some (.pointer (some ⟨ge, 2, none⟩)) := by rw [ha]; exact putSel_on (e := (1, 211, .pointer (some ⟨ge, 2, none⟩))) 1 rfl rfl (hon 1 (by kernel_rfl)) rfl
                replace ha := Aside0.mk ha
                have F := Aside0.mk Q_F
                have L := Aside0.mk Q_L
                have R0 := Aside0.mk (Q_R0 (hoff 4 (by kernel_rfl)))
                have m0 : w'.cell? ⟨ge, 2, none⟩ = some (.int .i64 E.f2) := blk_cell (L.out.blk HXF.out (by decide)) 2
                refine value_ (w1 := w') (v := .int .i64 E.f2) (by rfl) rfl ?_ ?_
                · go_simp
                  (try simp only [i64_w])
                  try rfl
                refine hK.out _ _ ⟨v10, v11, v12, m11_, (by rw [ha.out]; exact putSel_upk 2 hb_ rfl rfl rfl), Q_F, Q_L, Q_R0, fun h0_ _ => absurd ((hoff 4 (by kernel_rfl)).symm.trans h0_) (by decide), fun h0_ _ => absurd ((hoff 7 (by kernel_rfl)).symm.trans h0_) (by decide), fun h0_ => absurd ((hoff 10 (by kernel_rfl)).symm.trans h0_) (by decide), fun h0_ => absurd ((hoff 11 (by kernel_rfl)).symm.trans h0_) (by decide)⟩
              refine steps_cons ?_ ?_
              · rintro b a w' ⟨v10, v11, v12, m11_, ha, Q_F, Q_L, Q_R0, Q_R1, Q_R2, Q_R3, Q_X11_⟩ hb_ hon hoff
                refine ⟨_, rfl, fun K hK => ?_⟩
                have e212 : a.tmps[212]? = some (.int .i64 E.f2) := by rw [ha]; exact putSel_on (e := (2, 212, .int .i64 E.f2)) 2 rfl rfl (hon 2 (by kernel_rfl)) rfl
                replace ha := Aside0.mk ha
                have F := Aside0.mk Q_F
                have L := Aside0.mk Q_L
                have R0 := Aside0.mk (Q_R0 (hoff 4 (by kernel_rfl)))
                refine value_ (w1 := w') (v := .int .u64 (IntKind.u64.wrap E.f2)) (by rfl) rfl ?_ ?_
                · go_simp
                  (try simp only [i64_w])
                  try rfl
                refine hK.out _ _ ⟨v10, v11, v12, m11_, (by rw [ha.out]; exact putSel_upk 3 hb_ rfl rfl rfl), Q_F, Q_L, Q_R0, fun h0_ _ => absurd ((hoff 4 (by kernel_rfl)).symm.trans h0_) (by decide), fun h0_ _ => absurd ((hoff 7 (by kernel_rfl)).symm.trans h0_) (by decide), fun h0_ => absurd ((hoff 10 (by kernel_rfl)).symm.trans h0_) (by decide), fun h0_ => absurd ((hoff 11 (by kernel_rfl)).symm.trans h0_) (by decide)⟩
              refine steps_cons ?_ ?_
              · rintro b a w' ⟨v10, v11, v12, m11_, ha, Q_F, Q_L, Q_R0, Q_R1, Q_R2, Q_R3, Q_X11_⟩ hb_ hon hoff
                refine ⟨_, rfl, fun K hK => ?_⟩
                have e210 : a.tmps[210]? = some (v9) := by rw [ha]; exact putSel_on (e := (0, 210, v9)) 0 rfl rfl (hon 0 (by kernel_rfl)) rfl
                have e213 : a.tmps[213]? = some (.int .u64 (IntKind.u64.wrap E.f2)) := by rw [ha]; exact putSel_on (e := (3, 213, .int .u64 (IntKind.u64.wrap E.f2))) 3 rfl rfl (hon 3 (by kernel_rfl)) rfl
                replace ha := Aside0.mk ha
                have F := Aside0.mk Q_F
                have L := Aside0.mk Q_L
                have R0 := Aside0.mk (Q_R0 hb_)
                refine goes_ (N := some 214) Try.func26 (by kernel_rfl) rfl #[v9, .int .i64 8, .int .u64 (IntKind.u64.wrap E.f2)] (by rfl) rfl rfl (by first | (simp only [List.map_toArray, List.map_cons, List.map_nil, Act.eval, Array.getD_eq_getD_getElem?, Option.getD_some, e210, e213]; done) | (simp only [List.map_toArray, List.map_cons, List.map_nil, Act.eval, Array.getD_eq_getD_getElem?, Option.getD_some, e210, e213]; rfl)) ?_
                refine (lay_calls w w' B v9 ((lr ++ wnum E.f0 8) ++ wnum E.f1 8) E.f2 8 R0.out F.out (Nat.le_trans HBWF.out L.out.size) (by decide) (by have := HL.out; have := HD.out; have := HM.out; (try simp only [List.length_append, wnum_length]); omega)).mono ?_
                rintro e w1_ ⟨v1_, rfl, hr1, hq1, hk1⟩
                refine ⟨_, rfl, ?_⟩
                refine hK.out _ _ ⟨v1_, v11, v12, m11_, (by rw [ha.out]; exact putSel_upk 4 hb_ rfl rfl rfl), hq1, L.out.trans hk1, fun h0_ => absurd ((up_self b 4).symm.trans h0_) (by decide), fun _ _ => hr1, fun h0_ _ => absurd ((hoff 7 (by kernel_rfl)).symm.trans h0_) (by decide), fun h0_ => absurd ((hoff 10 (by kernel_rfl)).symm.trans h0_) (by decide), fun h0_ => absurd ((hoff 11 (by kernel_rfl)).symm.trans h0_) (by decide)⟩
              refine steps_cons ?_ ?_
              · rintro b a w' ⟨v10, v11, v12, m11_, ha, Q_F, Q_L, Q_R0, Q_R1, Q_R2, Q_R3, Q_X11_⟩ hb_ hon hoff
                refine ⟨_, rfl, fun K hK => ?_⟩
                have e10 : a.tmps[10]? = some (.pointer (some ⟨ge, 0, none⟩)) := by rw [ha]; exact (putSel_off rfl).trans rfl
                replace ha := Aside0.mk ha
                have F := Aside0.mk Q_F
                have L := Aside0.mk Q_L
                refine value_ (w1 := w') (v := .pointer (some ⟨ge, 3, none⟩)) (by rfl) rfl ?_ ?_
                · go_simp
                  (try simp only [i64_w])
                  try rfl
                refine hK.out _ _ ⟨v10, v11, v12, m11_, (by rw [ha.out]; exact putSel_upk 5 hb_ rfl rfl rfl), Q_F, Q_L, Q_R0, Q_R1, fun h0_ _ => absurd ((hoff 7 (by kernel_rfl)).symm.trans h0_) (by decide), fun h0_ => absurd ((hoff 10 (by kernel_rfl)).symm.trans h0_) (by decide), fun h0_ => absurd ((hoff 11 (by kernel_rfl)).symm.trans h0_) (by decide)⟩
              refine steps_cons ?_ ?_
              · rintro b a w' ⟨v10, v11, v12, m11_, ha, Q_F, Q_L, Q_R0, Q_R1, Q_R2, Q_R3, Q_X11_⟩ hb_ hon hoff
                refine ⟨_, rfl, fun K hK => ?_⟩
                have e215 : a.tmps[215]? = some (.pointer (some ⟨ge, 3, none⟩)) := by rw [ha]; exact putSel_on (e := (5, 215, .pointer (some ⟨ge, 3, none⟩))) 5 rfl rfl (hon 5 (by kernel_rfl)) rfl
                replace ha := Aside0.mk ha
                have F := Aside0.mk Q_F
                have L := Aside0.mk Q_L
                have m0 : w'.cell? ⟨ge, 3, none⟩ = some (.string E.f3) := blk_cell (L.out.blk HXF.out (by decide)) 3
                refine value_ (w1 := w') (v := .string E.f3) (by rfl) rfl ?_ ?_
                · go_simp
                  (try simp only [i64_w])
                  try rfl
                refine hK.out _ _ ⟨v10, v11, v12, m11_, (by rw [ha.out]; exact putSel_upk 6 hb_ rfl rfl rfl), Q_F, Q_L, Q_R0, Q_R1, fun h0_ _ => absurd ((hoff 7 (by kernel_rfl)).symm.trans h0_) (by decide), fun h0_ => absurd ((hoff 10 (by kernel_rfl)).symm.trans h0_) (by decide), fun h0_ => absurd ((hoff 11 (by kernel_rfl)).symm.trans h0_) (by decide)⟩
              refine steps_cons ?_ ?_
              · rintro b a w' ⟨v10, v11, v12, m11_, ha, Q_F, Q_L, Q_R0, Q_R1, Q_R2, Q_R3, Q_X11_⟩ hb_ hon hoff
                refine ⟨_, rfl, fun K hK => ?_⟩
                have e214 : a.tmps[214]? = some (v10) := by rw [ha]; exact putSel_on (e := (4, 214, v10)) 4 rfl rfl (hon 4 (by kernel_rfl)) rfl
                have e216 : a.tmps[216]? = some (.string E.f3) := by rw [ha]; exact putSel_on (e := (6, 216, .string E.f3)) 6 rfl rfl (hon 6 (by kernel_rfl)) rfl
                replace ha := Aside0.mk ha
                have F := Aside0.mk Q_F
                have L := Aside0.mk Q_L
                have R1 := Aside0.mk (Q_R1 (hon 4 (by kernel_rfl)) hb_)
                refine goes_ (N := some 217) Try.func28 (by kernel_rfl) rfl #[v10, .string E.f3] (by rfl) rfl rfl (by first | (simp only [List.map_toArray, List.map_cons, List.map_nil, Act.eval, Array.getD_eq_getD_getElem?, Option.getD_some, e214, e216]; done) | (simp only [List.map_toArray, List.map_cons, List.map_nil, Act.eval, Array.getD_eq_getD_getElem?, Option.getD_some, e214, e216]; rfl)) ?_
                refine (reftext_calls w w' B v10 (((lr ++ wnum E.f0 8) ++ wnum E.f1 8) ++ wnum E.f2 8) E.f3 R1.out F.out (Nat.le_trans HBWF.out L.out.size) HBB.out (by have := HD.out; omega) (by have := HL.out; have := HD.out; have := HM.out; (try simp only [List.length_append, wnum_length]); omega)).mono ?_
                rintro e w1_ ⟨v1_, rfl, hr1, hq1, hk1⟩
                refine ⟨_, rfl, ?_⟩
                refine hK.out _ _ ⟨v10, v1_, v12, m11_, (by rw [ha.out]; exact putSel_upk 7 hb_ rfl rfl rfl), hq1, L.out.trans hk1, fun h0_ => absurd ((hon 4 (by kernel_rfl)).symm.trans h0_) (by decide), fun _ h1_ => absurd ((up_self b 7).symm.trans h1_) (by decide), fun _ _ => hr1, fun h0_ => absurd ((hoff 10 (by kernel_rfl)).symm.trans h0_) (by decide), fun h0_ => absurd ((hoff 11 (by kernel_rfl)).symm.trans h0_) (by decide)⟩
              refine steps_cons ?_ ?_
              · rintro b a w' ⟨v10, v11, v12, m11_, ha, Q_F, Q_L, Q_R0, Q_R1, Q_R2, Q_R3, Q_X11_⟩ hb_ hon hoff
                refine ⟨_, rfl, fun K hK => ?_⟩
                have e10 : a.tmps[10]? = some (.pointer (some ⟨ge, 0, none⟩)) := by rw [ha]; exact (putSel_off rfl).trans rfl
                replace ha := Aside0.mk ha
                have F := Aside0.mk Q_F
                have L := Aside0.mk Q_L
                refine value_ (w1 := w') (v := .pointer (some ⟨ge, 4, none⟩)) (by rfl) rfl ?_ ?_
                · go_simp
                  (try simp only [i64_w])
                  try rfl
                refine hK.out _ _ ⟨v10, v11, v12, m11_, (by rw [ha.out]; exact putSel_upk 8 hb_ rfl rfl rfl), Q_F, Q_L, Q_R0, Q_R1, Q_R2, fun h0_ => absurd ((hoff 10 (by kernel_rfl)).symm.trans h0_) (by decide), fun h0_ => absurd ((hoff 11 (by kernel_rfl)).symm.trans h0_) (by decide)⟩
              refine steps_cons ?_ ?_
              · rintro b a w' ⟨v10, v11, v12, m11_, ha, Q_F, Q_L, Q_R0, Q_R1, Q_R2, Q_R3, Q_X11_⟩ hb_ hon hoff
                refine ⟨_, rfl, fun K hK => ?_⟩
                have e218 : a.tmps[218]? = some (.pointer (some ⟨ge, 4, none⟩)) := by rw [ha]; exact putSel_on (e := (8, 218, .pointer (some ⟨ge, 4, none⟩))) 8 rfl rfl (hon 8 (by kernel_rfl)) rfl
                replace ha := Aside0.mk ha
                have F := Aside0.mk Q_F
                have L := Aside0.mk Q_L
                have m0 : w'.cell? ⟨ge, 4, none⟩ = some (.slice A4 n4 c4) := blk_cell (L.out.blk HXF.out (by decide)) 4
                refine value_ (w1 := w') (v := .slice A4 n4 c4) (by rfl) rfl ?_ ?_
                · go_simp
                  (try simp only [i64_w])
                  try rfl
                refine hK.out _ _ ⟨v10, v11, v12, m11_, (by rw [ha.out]; exact putSel_upk 9 hb_ rfl rfl rfl), Q_F, Q_L, Q_R0, Q_R1, Q_R2, fun h0_ => absurd ((hoff 10 (by kernel_rfl)).symm.trans h0_) (by decide), fun h0_ => absurd ((hoff 11 (by kernel_rfl)).symm.trans h0_) (by decide)⟩
              refine steps_cons ?_ ?_
              · rintro b a w' ⟨v10, v11, v12, m11_, ha, Q_F, Q_L, Q_R0, Q_R1, Q_R2, Q_R3, Q_X11_⟩ hb_ hon hoff
                refine ⟨_, rfl, fun K hK => ?_⟩
                have e217 : a.tmps[217]? = some (v11) := by rw [ha]; exact putSel_on (e := (7, 217, v11)) 7 rfl rfl (hon 7 (by kernel_rfl)) rfl
                have e219 : a.tmps[219]? = some (.slice A4 n4 c4) := by rw [ha]; exact putSel_on (e := (9, 219, .slice A4 n4 c4)) 9 rfl rfl (hon 9 (by kernel_rfl)) rfl
                replace ha := Aside0.mk ha
                have F := Aside0.mk Q_F
                have L := Aside0.mk Q_L
                have R2 := Aside0.mk (Q_R2 (hon 7 (by kernel_rfl)) hb_)
                refine goes_ (N := some 220) Try.func27 (by kernel_rfl) rfl #[v11, .slice A4 n4 c4] (by rfl) rfl rfl (by first | (simp only [List.map_toArray, List.map_cons, List.map_nil, Act.eval, Array.getD_eq_getD_getElem?, Option.getD_some, e217, e219]; done) | (simp only [List.map_toArray, List.map_cons, List.map_nil, Act.eval, Array.getD_eq_getD_getElem?, Option.getD_some, e217, e219]; rfl)) ?_
                refine (rints_calls' w w' B v11 ((((lr ++ wnum E.f0 8) ++ wnum E.f1 8) ++ wnum E.f2 8) ++ wtext E.f3) E.f4 A4 n4 c4 R2.out F.out (Nat.le_trans HBWF.out L.out.size) HBB.out HC4.out HN4.out (by rw [HN4.out]; exact HD4.out) (by have := HM.out; omega) (by have := HL.out; have := HD.out; have := HM.out; (try simp only [List.length_append, wnum_length, wtext_len]); omega)).mono ?_
                rintro e w1_ ⟨v1_, rfl, hr1, hq1, hk1⟩
                refine ⟨_, rfl, ?_⟩
                refine hK.out _ _ ⟨v10, v11, v1_, m11_, (by rw [ha.out]; exact putSel_upk 10 hb_ rfl rfl rfl), hq1, L.out.trans hk1, fun h0_ => absurd ((hon 4 (by kernel_rfl)).symm.trans h0_) (by decide), fun _ h1_ => absurd ((hon 7 (by kernel_rfl)).symm.trans h1_) (by decide), fun _ h1_ => absurd ((up_self b 10).symm.trans h1_) (by decide), fun _ => hr1, fun h0_ => absurd ((hoff 11 (by kernel_rfl)).symm.trans h0_) (by decide)⟩
              refine steps_cons ?_ ?_
              · rintro b a w' ⟨v10, v11, v12, m11_, ha, Q_F, Q_L, Q_R0, Q_R1, Q_R2, Q_R3, Q_X11_⟩ hb_ hon hoff
                refine ⟨_, rfl, fun K hK => ?_⟩
                have e220 : a.tmps[220]? = some (v12) := by rw [ha]; exact putSel_on (e := (10, 220, v12)) 10 rfl rfl (hon 10 (by kernel_rfl)) rfl
                replace ha := Aside0.mk ha
                have F := Aside0.mk Q_F
                have L := Aside0.mk Q_L
                have R3 := Aside0.mk (Q_R3 (hon 10 (by kernel_rfl)))
                refine value_ (w1 := w') (v := v12) (by rfl) rfl ?_ ?_
                · go_simp
                  (try simp only [i64_w])
                  try rfl
                refine hK.out _ _ ⟨v10, v11, v12, (v12), (by rw [ha.out]; exact putSel_upk 11 hb_ rfl rfl rfl), Q_F, Q_L, fun h0_ => absurd ((hon 4 (by kernel_rfl)).symm.trans h0_) (by decide), fun _ h1_ => absurd ((hon 7 (by kernel_rfl)).symm.trans h1_) (by decide), fun _ h1_ => absurd ((hon 10 (by kernel_rfl)).symm.trans h1_) (by decide), Q_R3, fun _ => rfl⟩
              exact steps_nil
            · rintro b a w' hall ⟨v10, v11, v12, m11_, ha, Q_F, Q_L, Q_R0, Q_R1, Q_R2, Q_R3, Q_X11_⟩
              clear F L R0
              have hb0_ := hall 0 (by kernel_rfl)
              have hb1_ := hall 1 (by kernel_rfl)
              have hb2_ := hall 2 (by kernel_rfl)
              have hb3_ := hall 3 (by kernel_rfl)
              have hb4_ := hall 4 (by kernel_rfl)
              have hb5_ := hall 5 (by kernel_rfl)
              have hb6_ := hall 6 (by kernel_rfl)
              have hb7_ := hall 7 (by kernel_rfl)
              have hb8_ := hall 8 (by kernel_rfl)
              have hb9_ := hall 9 (by kernel_rfl)
              have hb10_ := hall 10 (by kernel_rfl)
              have hb11_ := hall 11 (by kernel_rfl)
              subst ha
              obtain rfl := Q_X11_ hb11_
              simp only [putSel, hb0_, hb1_, hb2_, hb3_, hb4_, hb5_, hb6_, hb7_, hb8_, hb9_, hb10_, hb11_, if_true, Act.put, List.setIfInBounds_toArray, List.set_cons_zero, List.set_cons_succ]
              have F := Aside0.mk Q_F
              clear Q_F
              have L := Aside0.mk Q_L
              clear Q_L
              clear Q_R0
              clear Q_R1
              clear Q_R2
              have R3 := Aside0.mk (Q_R3 hb10_)
              clear Q_R3
              clear hall hb0_ hb1_ hb2_ hb3_ hb4_ hb5_ hb6_ hb7_ hb8_ hb9_ hb10_ hb11_
              go_wp2_with fail
              go_roundg (n8 - (i + 1))
              case measure => have := HLT.out; have := HGK.out; omega
              case rel =>
                have hkey : (((((lr ++ wnum E.f0 8) ++ wnum E.f1 8) ++ wnum E.f2 8) ++ wtext E.f3) ++ wmem E.f4) = l4 ++ (es.take (i + 1)).flatMap wentry := by rw [HFT.out, HLR.out]; simp [wentry, wints, List.append_assoc]
                exact ⟨i + 1, by go_num, ⟨by have := HLT.out; omega⟩, ⟨Nat.le_refl _⟩, ⟨L.out.blk HXH.out (by decide)⟩, F, ⟨Nat.le_trans HBWH.out L.out.size⟩, ⟨by rw [← hkey]; exact R3.out⟩,
                  ⟨by rw [← hkey]; have := HL0.out; have := HD.out; have := HM.out; simp only [List.length_append, wnum_length, wtext_len, wmem_len]; omega⟩⟩
        · have l1 : decide (i < n8) = false := decide_eq_false hlt
          have l2 : ¬ (i : Int) < (n8 : Int) := by omega
          have hin : es.take i = es := List.take_of_length_le (by have := HN.out; omega)
          rw [hin] at HR HL
          have hnn : wnum (es.length : Int) 1 = [(n8 : Int) % 256] := by
            rw [HN.out]
            simp only [wnum, Int.pow_zero, Int.ediv_one]
            rw [Int.emod_eq_of_lt (b := 18446744073709551616) (by omega) (by have := H8.out; omega)]
          have HNN := Aside0.mk hnn
          clear hnn hin
          obtain ⟨A, c, ev, hc, hC⟩ := Kd.R_reads HR.out
          have HRL : Aside0 ((l4 ++ es.flatMap wentry) = (l ++ (wints [ix, lt, cm] ++ wents es))) := ⟨by rw [HL4.out, wents, HNN.out]; simp [wints]⟩
          obtain ⟨n, hn⟩ : ∃ n, n = ((l4 ++ es.flatMap wentry)).length := ⟨_, rfl⟩
          rw [← hn] at ev hc hC
          subst ev
          rw [HRL.out] at hC hn
          have HN := Aside0.mk hn
          have HC := Aside0.mk hC
          have HNC := Aside0.mk hc
          clear hn hC hc
          go_wp2
          rw [HRR.out]
          exact bodyPost_ret (v := .tuple #[.slice A n c, .int .i64 0]) (by simp [results, Try.results11, go_sem]) rfl (encQ_some HN.out HNC.out HC.out HW.out)
end Go.Proofs.Ytbemfgpdfacdpaa.Ms
