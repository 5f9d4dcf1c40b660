/- 6 texts of the proof, put together, less what is not used; what a tool printed stands among them. -/
import Derived.Test.YtbemfgpdfacdpaaMDec14
namespace Go.Proofs.Ytbemfgpdfacdpaa.Ms
open Go.RowKit Go.Proofs.Ytbemfgpdfacdpaa.Pr Go.Proofs.YtbemfgpdfacdpaaW.PrintWords Go.Proofs.YtbemfgpdfacdpaaW.PrintLast Go.Proofs.YtbemfgpdfacdpaaW.PrintMore
open Go.Proofs.Ytbemfgpdfacdpaa.QT (OwnAt)
set_option linter.unusedVariables false
set_option linter.unusedSimpArgs false
def enc38.T38 : Bool × List (List Nat × List Nat) := (true, [([], []), ([], []), ([1], [1]), ([2], [2]), ([3], [3]), ([0, 4], [0, 4]), ([], []), ([6], [6]), ([7], [7]), ([8], [8]), ([5, 9, 5], [5, 9]), ([10, 10, 0, 1, 2, 3, 4, 5, 6, 7, 8, 9, 10], [0, 10])])
def enc38.B38 : List Nat := [0, 0, 2, 6, 14, 31, 0, 64, 192, 448, 1023, 2047]
theorem enc38.tab38 : rtab .any (opsOf Try.f11 38) = enc38.T38 := by kernel_rfl
theorem enc38.bits38 : waitsOk enc38.T38.2 enc38.B38 = true := by kernel_rfl
def enc39.T39 : Bool × List (List Nat × List Nat) := (true, [([], []), ([], []), ([1], [1]), ([2], [2]), ([0, 3], [0, 3]), ([], []), ([5], [5]), ([6], [6]), ([4, 7, 4], [4, 7]), ([8, 8, 0, 1, 2, 3, 4, 5, 6, 7, 8], [0, 8])])
def enc39.B39 : List Nat := [0, 0, 2, 6, 15, 0, 32, 96, 255, 511]
theorem enc39.tab39 : rtab .any (opsOf Try.f11 39) = enc39.T39 := by kernel_rfl
theorem enc39.bits39 : waitsOk enc39.T39.2 enc39.B39 = true := by kernel_rfl
set_option maxHeartbeats 16000000 in
set_option maxRecDepth 100000 in
theorem refenc_k5 (fr tt tm ix lt cm : Int) (ys : Bool) (es : List S46) (si st : Int) (sm : List Int) (sd : ByteArray) (A8 : Option Addr) (n8 c8 : Nat) (A11 : Option Addr) (n11 c11 : Nat) (w : World) (R : Option (List Int)) (g : Nat) (w1 : World) (v : Value) (B : Nat) (l : List Int) (hX : w1.heap[g]? = some (.cells #[.int .i64 5, .int .i64 fr, .int .i64 tt, .int .i64 tm, .int .i64 ix, .int .i64 lt, .int .i64 cm, .bool ys, .slice A8 n8 c8, .int .i64 si, .int .i64 st, .slice A11 n11 c11, .string sd] 27 (0, 0))) (hW : Below w.heap.size w w1) (hBB : w.heap.size ≤ B) (hBW : B ≤ w1.heap.size) (hR : RB w w1 B v l) (hl : l.length ≤ 100) (yb : Int) (hS : (Kd.int .i64).C w A11 sm.length sm) (hS1 : n11 = sm.length) (hS2 : n11 ≤ c11) (hm : sm.length ≤ 20) (hd : sd.size ≤ 100000) (hRR : R = some (l ++ (wints [si, st] ++ (wmem sm ++ wtext sd))))
    (z0 z2 z3 z4 z5 z6 z9 z10 z11 z12 z13 z14 z15 z16 z17 z18 z19 z20 z21 z22 z23 z24 z25 z26 z27 z28 z29 z30 z31 z32 z33 z34 z35 z36 z37 z38 z39 z40 z41 z42 z43 z44 z45 z46 z47 z48 z49 z50 z51 z52 z53 z54 z55 z56 z57 z58 z59 z60 z61 z62 z63 z64 z65 z66 z67 z68 z69 z70 z71 z72 z73 z74 z75 z76 z77 z78 z79 z80 z81 z82 z83 z84 z85 z86 z87 z88 z89 z90 z91 z92 z93 z94 z95 z96 z97 z98 z99 z100 z101 z102 z103 z104 z105 z106 z107 z108 z109 z110 z111 z112 z113 z114 z115 z116 z117 z118 z119 z120 z121 z122 z123 z124 z125 z126 z127 z128 z129 z130 z131 z132 z133 z134 z135 z136 z137 z138 z139 z140 z141 z142 z143 z144 z145 z146 z147 z148 z149 z150 z151 z152 z153 z154 z155 z156 z157 z158 z159 z160 z161 z162 z163 z164 z165 z166 z167 z168 z169 z170 z171 z172 z173 z174 z175 z176 z177 z178 z179 z180 z181 z182 z183 z184 z185 z186 z187 z188 z189 z190 z191 z192 z193 z194 z195 z196 z197 z198 z199 z200 z201 z202 z203 z204 z205 z206 z207 z208 z209 z210 z211 z212 z213 z214 z215 z216 z217 z218 z219 z220 z221 z222 z223 z224 z225 z226 z227 z228 z229 z230 z231 z232 z233 z234 z235 z236 z237 z238 z239 z240 z241 z242 z243 z244 z245 z246 z247 z248 z249 z250 z251 z252 z253 : Value) : Code.wp Try.prog (encT 11) (bodyPost Try.prog Try.f11 (EncQ w R)) ⟨#[z0, .pointer (some ⟨g, 0, none⟩), z2, z3, z4, z5, z6, v, .int .u8 yb, z9, z10, z11, z12, z13, z14, z15, z16, z17, z18, z19, z20, z21, z22, z23, z24, z25, z26, z27, z28, z29, z30, z31, z32, z33, z34, z35, z36, z37, z38, z39, z40, z41, z42, z43, z44, z45, z46, z47, z48, z49, z50, z51, z52, z53, z54, z55, z56, z57, z58, z59, z60, z61, z62, z63, z64, z65, z66, z67, z68, z69, z70, z71, z72, z73, z74, z75, z76, z77, z78, z79, z80, z81, z82, z83, z84, z85, z86, z87, z88, z89, z90, z91, z92, z93, z94, z95, z96, z97, z98, z99, z100, z101, z102, z103, z104, z105, z106, z107, z108, z109, z110, z111, z112, z113, z114, z115, z116, z117, z118, z119, z120, z121, z122, z123, z124, z125, z126, z127, z128, z129, z130, z131, z132, z133, z134, z135, z136, z137, z138, z139, z140, z141, z142, z143, z144, z145, z146, z147, z148, z149, z150, z151, z152, z153, z154, z155, z156, z157, z158, z159, z160, z161, z162, z163, z164, z165, z166, z167, z168, z169, z170, z171, z172, z173, z174, z175, z176, z177, z178, z179, z180, z181, z182, z183, z184, z185, z186, z187, z188, z189, z190, z191, z192, z193, z194, z195, z196, z197, z198, z199, z200, z201, z202, z203, z204, z205, z206, z207, z208, z209, z210, z211, z212, z213, z214, z215, z216, z217, z218, z219, z220, z221, z222, z223, z224, z225, z226, z227, z228, z229, z230, z231, z232, z233, z234, z235, z236, z237, z238, z239, z240, z241, z242, z243, z244, z245, z246, z247, z248, z249, z250, z251, z252, z253], []⟩ w1 := by
  have HX1 := Aside0.mk hX
  have HW := Aside0.mk hW
  have HR := Aside0.mk hR
  have HL := Aside0.mk hl
  have HBB := Aside0.mk hBB
  have HBW := Aside0.mk hBW
  have HRR := Aside0.mk hRR
  clear hX hW hR hl hBB hBW hRR
  have q0 : w1.cell? ⟨g, 0, none⟩ = some (.int .i64 5) := blk_cell HX1.out 0
  conv => arg 2; whnf
  have HS := Aside0.mk hS
  have HS1 := Aside0.mk hS1
  have HS2 := Aside0.mk hS2
  have HM := Aside0.mk hm
  have HD := Aside0.mk hd
  clear hS hS1 hS2 hm hd
  go_upto_region 38 with (fail)
  refine start_ (n := 12) (S := fun w' => True) (ds := []) #[false, false, false, false, false, false, false, false, false, false, false, false] (by kernel_rfl) rfl rfl trivial (fun hHeld => ?_)
  refine with_tabW enc38.tab38 enc38.bits38 (fun HT_ HW_ => ?_)
  have F : Aside0 (Below w.heap.size w w1.drew) := ⟨below_drew HW.out⟩
  have L : Aside0 (LK w1 w1.drew B) := ⟨LK.of_below (below_drew (Below.refl _ _))⟩
  have R0 : Aside0 (RB w w1.drew B v l) := ⟨Kd.R_drew HR.out⟩
  refine inv_at [0, 1, 2, 3, 4, 5, 6, 7, 8, 9, 10, 11] (fun a0_ b a w' => ∃ (v1 : Value) (v2 : Value) (m11_ : Value), a = putSel a0_ b [(0, 233, v), (1, 234, .pointer (some ⟨g, 9, none⟩)), (2, 235, .pointer (some ⟨g, 9, none⟩)), (3, 236, .int .i64 si), (4, 237, .int .u64 (IntKind.u64.wrap si)), (5, 238, v1), (6, 239, .pointer (some ⟨g, 9, none⟩)), (7, 240, .pointer (some ⟨g, 10, none⟩)), (8, 241, .int .i64 st), (9, 242, .int .u64 (IntKind.u64.wrap st)), (10, 243, v2), (11, 7, m11_)] ∧ (Below w.heap.size w w') ∧ (LK w1 w' B) ∧ (b 5 = false → RB w w' B v l) ∧ (b 5 = true → b 10 = false → RB w w' B v1 (l ++ wnum si 8)) ∧ (b 10 = true → RB w w' B v2 ((l ++ wnum si 8) ++ wnum st 8)) ∧ (b 11 = true → (m11_ : Value) = v2)) HT_.out HW_.out (by kernel_rfl) (by kernel_rfl) ?_ ?_ ?_
  · exact ⟨.bool false, .bool false, .bool false, by simp only [putSel, Bool.false_eq_true, if_false], F.out, L.out, fun _ => R0.out, fun h_ => absurd h_ (by decide), fun h_ => absurd h_ (by decide), fun h_ => absurd h_ (by decide)⟩
  · skip
    clear F L R0
    refine steps_cons ?_ ?_
    · rintro b a w' ⟨v1, v2, m11_, ha, Q_F, Q_L, Q_R0, Q_R1, Q_R2, Q_X11_⟩ hb_ hon hoff
      refine ⟨_, rfl, fun K hK => ?_⟩
      have e7 : a.tmps[7]? = some (v) := by rw [ha]; exact (putSel_not (hoff 11 (by kernel_rfl)) rfl).trans rfl
      replace ha := Aside0.mk ha
      have F := Aside0.mk Q_F
      have L := Aside0.mk Q_L
      have R0 := Aside0.mk (Q_R0 (hoff 5 (by kernel_rfl)))
      refine value_ (w1 := w') (v := v) (by rfl) rfl ?_ ?_
      · go_simp
        (try simp only [i64_w])
        try rfl
      refine hK.out _ _ ⟨v1, v2, m11_, (by rw [ha.out]; exact putSel_upk 0 hb_ rfl rfl rfl), Q_F, Q_L, Q_R0, fun h0_ _ => absurd ((hoff 5 (by kernel_rfl)).symm.trans h0_) (by decide), fun h0_ => absurd ((hoff 10 (by kernel_rfl)).symm.trans h0_) (by decide), fun h0_ => absurd ((hoff 11 (by kernel_rfl)).symm.trans h0_) (by decide)⟩
    refine steps_cons ?_ ?_
    · rintro b a w' ⟨v1, v2, m11_, ha, Q_F, Q_L, Q_R0, Q_R1, Q_R2, Q_X11_⟩ hb_ hon hoff
      refine ⟨_, rfl, fun K hK => ?_⟩
      have e1 : a.tmps[1]? = some (.pointer (some ⟨g, 0, none⟩)) := by rw [ha]; exact (putSel_off rfl).trans rfl
      replace ha := Aside0.mk ha
      have F := Aside0.mk Q_F
      have L := Aside0.mk Q_L
      have R0 := Aside0.mk (Q_R0 (hoff 5 (by kernel_rfl)))
      refine value_ (w1 := w') (v := .pointer (some ⟨g, 9, none⟩)) (by rfl) rfl ?_ ?_
      · go_simp
        (try simp only [i64_w])
        try rfl
      refine hK.out _ _ ⟨v1, v2, m11_, (by rw [ha.out]; exact putSel_upk 1 hb_ rfl rfl rfl), Q_F, Q_L, Q_R0, fun h0_ _ => absurd ((hoff 5 (by kernel_rfl)).symm.trans h0_) (by decide), fun h0_ => absurd ((hoff 10 (by kernel_rfl)).symm.trans h0_) (by decide), fun h0_ => absurd ((hoff 11 (by kernel_rfl)).symm.trans h0_) (by decide)⟩
    refine steps_cons ?_ ?_
    · rintro b a w' ⟨v1, v2, m11_, ha, Q_F, Q_L, Q_R0, Q_R1, Q_R2, Q_X11_⟩ hb_ hon hoff
      refine ⟨_, rfl, fun K hK => ?_⟩
      have e234 : a.tmps[234]? = some (.pointer (some ⟨g, 9, none⟩)) := by rw [ha]; exact putSel_on (e := (1, 234, .pointer (some ⟨g, 9, none⟩))) 1 rfl rfl (hon 1 (by kernel_rfl)) rfl
      replace ha := Aside0.mk ha
      have F := Aside0.mk Q_F
      have L := Aside0.mk Q_L
      have R0 := Aside0.mk (Q_R0 (hoff 5 (by kernel_rfl)))
      refine value_ (w1 := w') (v := .pointer (some ⟨g, 9, none⟩)) (by rfl) rfl ?_ ?_
      · go_simp
        (try simp only [i64_w])
        try rfl
      refine hK.out _ _ ⟨v1, v2, m11_, (by rw [ha.out]; exact putSel_upk 2 hb_ rfl rfl rfl), Q_F, Q_L, Q_R0, fun h0_ _ => absurd ((hoff 5 (by kernel_rfl)).symm.trans h0_) (by decide), fun h0_ => absurd ((hoff 10 (by kernel_rfl)).symm.trans h0_) (by decide), fun h0_ => absurd ((hoff 11 (by kernel_rfl)).symm.trans h0_) (by decide)⟩
    refine steps_cons ?_ ?_
    · rintro b a w' ⟨v1, v2, m11_, ha, Q_F, Q_L, Q_R0, Q_R1, Q_R2, Q_X11_⟩ hb_ hon hoff
      refine ⟨_, rfl, fun K hK => ?_⟩
      have e235 : a.tmps[235]? = some (.pointer (some ⟨g, 9, none⟩)) := by rw [ha]; exact putSel_on (e := (2, 235, .pointer (some ⟨g, 9, none⟩))) 2 rfl rfl (hon 2 (by kernel_rfl)) rfl
      replace ha := Aside0.mk ha
      have F := Aside0.mk Q_F
      have L := Aside0.mk Q_L
      have R0 := Aside0.mk (Q_R0 (hoff 5 (by kernel_rfl)))
      have m0 : w'.cell? ⟨g, 9, none⟩ = some (.int .i64 si) := blk_cell (L.out.blk HX1.out (by decide)) 9
      refine value_ (w1 := w') (v := .int .i64 si) (by rfl) rfl ?_ ?_
      · go_simp
        (try simp only [i64_w])
        try rfl
      refine hK.out _ _ ⟨v1, v2, m11_, (by rw [ha.out]; exact putSel_upk 3 hb_ rfl rfl rfl), Q_F, Q_L, Q_R0, fun h0_ _ => absurd ((hoff 5 (by kernel_rfl)).symm.trans h0_) (by decide), fun h0_ => absurd ((hoff 10 (by kernel_rfl)).symm.trans h0_) (by decide), fun h0_ => absurd ((hoff 11 (by kernel_rfl)).symm.trans h0_) (by decide)⟩
    refine steps_cons ?_ ?_
    · rintro b a w' ⟨v1, v2, m11_, ha, Q_F, Q_L, Q_R0, Q_R1, Q_R2, Q_X11_⟩ hb_ hon hoff
      refine ⟨_, rfl, fun K hK => ?_⟩
      have e236 : a.tmps[236]? = some (.int .i64 si) := by rw [ha]; exact putSel_on (e := (3, 236, .int .i64 si)) 3 rfl rfl (hon 3 (by kernel_rfl)) rfl
      replace ha := Aside0.mk ha
      have F := Aside0.mk Q_F
      have L := Aside0.mk Q_L
      have R0 := Aside0.mk (Q_R0 (hoff 5 (by kernel_rfl)))
      refine value_ (w1 := w') (v := .int .u64 (IntKind.u64.wrap si)) (by rfl) rfl ?_ ?_
      · go_simp
        (try simp only [i64_w])
        try rfl
      refine hK.out _ _ ⟨v1, v2, m11_, (by rw [ha.out]; exact putSel_upk 4 hb_ rfl rfl rfl), Q_F, Q_L, Q_R0, fun h0_ _ => absurd ((hoff 5 (by kernel_rfl)).symm.trans h0_) (by decide), fun h0_ => absurd ((hoff 10 (by kernel_rfl)).symm.trans h0_) (by decide), fun h0_ => absurd ((hoff 11 (by kernel_rfl)).symm.trans h0_) (by decide)⟩
    refine steps_cons ?_ ?_
    · rintro b a w' ⟨v1, v2, m11_, ha, Q_F, Q_L, Q_R0, Q_R1, Q_R2, Q_X11_⟩ hb_ hon hoff
      refine ⟨_, rfl, fun K hK => ?_⟩
      have e233 : a.tmps[233]? = some (v) := by rw [ha]; exact putSel_on (e := (0, 233, v)) 0 rfl rfl (hon 0 (by kernel_rfl)) rfl
      have e237 : a.tmps[237]? = some (.int .u64 (IntKind.u64.wrap si)) := by rw [ha]; exact putSel_on (e := (4, 237, .int .u64 (IntKind.u64.wrap si))) 4 rfl rfl (hon 4 (by kernel_rfl)) rfl
      replace ha := Aside0.mk ha
      have F := Aside0.mk Q_F
      have L := Aside0.mk Q_L
      have R0 := Aside0.mk (Q_R0 hb_)
      refine goes_ (N := some 238) Try.func26 (by kernel_rfl) rfl #[v, .int .i64 8, .int .u64 (IntKind.u64.wrap si)] (by rfl) rfl rfl (by first | (simp only [List.map_toArray, List.map_cons, List.map_nil, Act.eval, Array.getD_eq_getD_getElem?, Option.getD_some, e233, e237]; done) | (simp only [List.map_toArray, List.map_cons, List.map_nil, Act.eval, Array.getD_eq_getD_getElem?, Option.getD_some, e233, e237]; rfl)) ?_
      refine (lay_calls w w' B v l si 8 R0.out F.out (Nat.le_trans HBW.out L.out.size) (by decide) (by have := HL.out; (try simp only [List.length_append, wnum_length]); omega)).mono ?_
      rintro e w1_ ⟨v1_, rfl, hr1, hq1, hk1⟩
      refine ⟨_, rfl, ?_⟩
      refine hK.out _ _ ⟨v1_, v2, m11_, (by rw [ha.out]; exact putSel_upk 5 hb_ rfl rfl rfl), hq1, L.out.trans hk1, fun h0_ => absurd ((up_self b 5).symm.trans h0_) (by decide), fun _ _ => hr1, fun h0_ => absurd ((hoff 10 (by kernel_rfl)).symm.trans h0_) (by decide), fun h0_ => absurd ((hoff 11 (by kernel_rfl)).symm.trans h0_) (by decide)⟩
    refine steps_cons ?_ ?_
    · rintro b a w' ⟨v1, v2, m11_, ha, Q_F, Q_L, Q_R0, Q_R1, Q_R2, Q_X11_⟩ hb_ hon hoff
      refine ⟨_, rfl, fun K hK => ?_⟩
      have e1 : a.tmps[1]? = some (.pointer (some ⟨g, 0, none⟩)) := by rw [ha]; exact (putSel_off rfl).trans rfl
      replace ha := Aside0.mk ha
      have F := Aside0.mk Q_F
      have L := Aside0.mk Q_L
      refine value_ (w1 := w') (v := .pointer (some ⟨g, 9, none⟩)) (by rfl) rfl ?_ ?_
      · go_simp
        (try simp only [i64_w])
        try rfl
      refine hK.out _ _ ⟨v1, v2, m11_, (by rw [ha.out]; exact putSel_upk 6 hb_ rfl rfl rfl), Q_F, Q_L, Q_R0, Q_R1, fun h0_ => absurd ((hoff 10 (by kernel_rfl)).symm.trans h0_) (by decide), fun h0_ => absurd ((hoff 11 (by kernel_rfl)).symm.trans h0_) (by decide)⟩
    refine steps_cons ?_ ?_
    · rintro b a w' ⟨v1, v2, m11_, ha, Q_F, Q_L, Q_R0, Q_R1, Q_R2, Q_X11_⟩ hb_ hon hoff
      refine ⟨_, rfl, fun K hK => ?_⟩
      have e239 : a.tmps[239]? = some (.pointer (some ⟨g, 9, none⟩)) := by rw [ha]; exact putSel_on (e := (6, 239, .pointer (some ⟨g, 9, none⟩))) 6 rfl rfl (hon 6 (by kernel_rfl)) rfl
      replace ha := Aside0.mk ha
      have F := Aside0.mk Q_F
      have L := Aside0.mk Q_L
      refine value_ (w1 := w') (v := .pointer (some ⟨g, 10, none⟩)) (by rfl) rfl ?_ ?_
      · go_simp
        (try simp only [i64_w])
        try rfl
      refine hK.out _ _ ⟨v1, v2, m11_, (by rw [ha.out]; exact putSel_upk 7 hb_ rfl rfl rfl), Q_F, Q_L, Q_R0, Q_R1, fun h0_ => absurd ((hoff 10 (by kernel_rfl)).symm.trans h0_) (by decide), fun h0_ => absurd ((hoff 11 (by kernel_rfl)).symm.trans h0_) (by decide)⟩
    refine steps_cons ?_ ?_
    · rintro b a w' ⟨v1, v2, m11_, ha, Q_F, Q_L, Q_R0, Q_R1, Q_R2, Q_X11_⟩ hb_ hon hoff
      refine ⟨_, rfl, fun K hK => ?_⟩
      have e240 : a.tmps[240]? = some (.pointer (some ⟨g, 10, none⟩)) := by rw [ha]; exact putSel_on (e := (7, 240, .pointer (some ⟨g, 10, none⟩))) 7 rfl rfl (hon 7 (by kernel_rfl)) rfl
      replace ha := Aside0.mk ha
      have F := Aside0.mk Q_F
      have L := Aside0.mk Q_L
      have m0 : w'.cell? ⟨g, 10, none⟩ = some (.int .i64 st) := blk_cell (L.out.blk HX1.out (by decide)) 10
      refine value_ (w1 := w') (v := .int .i64 st) (by rfl) rfl ?_ ?_
      · go_simp
        (try simp only [i64_w])
        try rfl
      refine hK.out _ _ ⟨v1, v2, m11_, (by rw [ha.out]; exact putSel_upk 8 hb_ rfl rfl rfl), Q_F, Q_L, Q_R0, Q_R1, fun h0_ => absurd ((hoff 10 (by kernel_rfl)).symm.trans h0_) (by decide), fun h0_ => absurd ((hoff 11 (by kernel_rfl)).symm.trans h0_) (by decide)⟩
    refine steps_cons ?_ ?_
    · rintro b a w' ⟨v1, v2, m11_, ha, Q_F, Q_L, Q_R0, Q_R1, Q_R2, Q_X11_⟩ hb_ hon hoff
      refine ⟨_, rfl, fun K hK => ?_⟩
      have e241 : a.tmps[241]? = some (.int .i64 st) := by rw [ha]; exact putSel_on (e := (8, 241, .int .i64 st)) 8 rfl rfl (hon 8 (by kernel_rfl)) rfl
      replace ha := Aside0.mk ha
      have F := Aside0.mk Q_F
      have L := Aside0.mk Q_L
      refine value_ (w1 := w') (v := .int .u64 (IntKind.u64.wrap st)) (by rfl) rfl ?_ ?_
      · go_simp
        (try simp only [i64_w])
        try rfl
      refine hK.out _ _ ⟨v1, v2, m11_, (by rw [ha.out]; exact putSel_upk 9 hb_ rfl rfl rfl), Q_F, Q_L, Q_R0, Q_R1, fun h0_ => absurd ((hoff 10 (by kernel_rfl)).symm.trans h0_) (by decide), fun h0_ => absurd ((hoff 11 (by kernel_rfl)).symm.trans h0_) (by decide)⟩
    refine steps_cons ?_ ?_
    · rintro b a w' ⟨v1, v2, m11_, ha, Q_F, Q_L, Q_R0, Q_R1, Q_R2, Q_X11_⟩ hb_ hon hoff
      refine ⟨_, rfl, fun K hK => ?_⟩
      have e238 : a.tmps[238]? = some (v1) := by rw [ha]; exact putSel_on (e := (5, 238, v1)) 5 rfl rfl (hon 5 (by kernel_rfl)) rfl
      have e242 : a.tmps[242]? = some (.int .u64 (IntKind.u64.wrap st)) := by rw [ha]; exact putSel_on (e := (9, 242, .int .u64 (IntKind.u64.wrap st))) 9 rfl rfl (hon 9 (by kernel_rfl)) rfl
      replace ha := Aside0.mk ha
      have F := Aside0.mk Q_F
      have L := Aside0.mk Q_L
      have R1 := Aside0.mk (Q_R1 (hon 5 (by kernel_rfl)) hb_)
      refine goes_ (N := some 243) Try.func26 (by kernel_rfl) rfl #[v1, .int .i64 8, .int .u64 (IntKind.u64.wrap st)] (by rfl) rfl rfl (by first | (simp only [List.map_toArray, List.map_cons, List.map_nil, Act.eval, Array.getD_eq_getD_getElem?, Option.getD_some, e238, e242]; done) | (simp only [List.map_toArray, List.map_cons, List.map_nil, Act.eval, Array.getD_eq_getD_getElem?, Option.getD_some, e238, e242]; rfl)) ?_
      refine (lay_calls w w' B v1 (l ++ wnum si 8) st 8 R1.out F.out (Nat.le_trans HBW.out L.out.size) (by decide) (by have := HL.out; (try simp only [List.length_append, wnum_length]); omega)).mono ?_
      rintro e w1_ ⟨v1_, rfl, hr1, hq1, hk1⟩
      refine ⟨_, rfl, ?_⟩
      refine hK.out _ _ ⟨v1, v1_, m11_, (by rw [ha.out]; exact putSel_upk 10 hb_ rfl rfl rfl), hq1, L.out.trans hk1, fun h0_ => absurd ((hon 5 (by kernel_rfl)).symm.trans h0_) (by decide), fun _ h1_ => absurd ((up_self b 10).symm.trans h1_) (by decide), fun _ => hr1, fun h0_ => absurd ((hoff 11 (by kernel_rfl)).symm.trans h0_) (by decide)⟩
    refine steps_cons ?_ ?_
    · rintro b a w' ⟨v1, v2, m11_, ha, Q_F, Q_L, Q_R0, Q_R1, Q_R2, Q_X11_⟩ hb_ hon hoff
      refine ⟨_, rfl, fun K hK => ?_⟩
      have e243 : a.tmps[243]? = some (v2) := by rw [ha]; exact putSel_on (e := (10, 243, v2)) 10 rfl rfl (hon 10 (by kernel_rfl)) rfl
      replace ha := Aside0.mk ha
      have F := Aside0.mk Q_F
      have L := Aside0.mk Q_L
      have R2 := Aside0.mk (Q_R2 (hon 10 (by kernel_rfl)))
      refine value_ (w1 := w') (v := v2) (by rfl) rfl ?_ ?_
      · go_simp
        (try simp only [i64_w])
        try rfl
      refine hK.out _ _ ⟨v1, v2, (v2), (by rw [ha.out]; exact putSel_upk 11 hb_ rfl rfl rfl), Q_F, Q_L, fun h0_ => absurd ((hon 5 (by kernel_rfl)).symm.trans h0_) (by decide), fun _ h1_ => absurd ((hon 10 (by kernel_rfl)).symm.trans h1_) (by decide), Q_R2, fun _ => rfl⟩
    exact steps_nil
  · rintro b a w' hall ⟨v1, v2, m11_, ha, Q_F, Q_L, Q_R0, Q_R1, Q_R2, Q_X11_⟩
    clear F L R0
    have hb0_ := hall 0 (by kernel_rfl)
    have hb1_ := hall 1 (by kernel_rfl)
    have hb2_ := hall 2 (by kernel_rfl)
    have hb3_ := hall 3 (by kernel_rfl)
    have hb4_ := hall 4 (by kernel_rfl)
    have hb5_ := hall 5 (by kernel_rfl)
    have hb6_ := hall 6 (by kernel_rfl)
    have hb7_ := hall 7 (by kernel_rfl)
    have hb8_ := hall 8 (by kernel_rfl)
    have hb9_ := hall 9 (by kernel_rfl)
    have hb10_ := hall 10 (by kernel_rfl)
    have hb11_ := hall 11 (by kernel_rfl)
    subst ha
    obtain rfl := Q_X11_ hb11_
    simp only [putSel, hb0_, hb1_, hb2_, hb3_, hb4_, hb5_, hb6_, hb7_, hb8_, hb9_, hb10_, hb11_, if_true, Act.put, List.setIfInBounds_toArray, List.set_cons_zero, List.set_cons_succ]
    have F := Aside0.mk Q_F
    clear Q_F
    have L := Aside0.mk Q_L
    clear Q_L
    clear Q_R0
    clear Q_R1
    have R2 := Aside0.mk (Q_R2 hb10_)
    clear Q_R2
    clear hall hb0_ hb1_ hb2_ hb3_ hb4_ hb5_ hb6_ hb7_ hb8_ hb9_ hb10_ hb11_
    obtain ⟨u2, hu⟩ : ∃ u, u = w' := ⟨_, rfl⟩
    subst hu
    obtain ⟨v2, hv⟩ : ∃ v, v = m11_ := ⟨_, rfl⟩
    subst hv
    have HX2 := Aside0.mk (L.out.blk HX1.out (by decide))
    have HW2 := F
    have HR2 := R2
    have HBW2 : Aside0 (B ≤ u2.heap.size) := ⟨Nat.le_trans HBW.out L.out.size⟩
    have HLK2 := L
    clear F L R2
    go_upto_region 39 with (fail)
    refine start_ (n := 10) (S := fun w' => True) (ds := []) #[false, false, false, false, false, false, false, false, false, false] (by kernel_rfl) rfl rfl trivial (fun hHeld => ?_)
    refine with_tabW enc39.tab39 enc39.bits39 (fun HT_ HW_ => ?_)
    have F : Aside0 (Below w.heap.size w u2.drew) := ⟨below_drew HW2.out⟩
    have L : Aside0 (LK u2 u2.drew B) := ⟨LK.of_below (below_drew (Below.refl _ _))⟩
    have R0 : Aside0 (RB w u2.drew B v2 ((l ++ wnum si 8) ++ wnum st 8)) := ⟨Kd.R_drew HR2.out⟩
    refine inv_at [0, 1, 2, 3, 4, 5, 6, 7, 8, 9] (fun a0_ b a w' => ∃ (v3 : Value) (v4 : Value) (m9_ : Value), a = putSel a0_ b [(0, 244, v2), (1, 245, .pointer (some ⟨g, 9, none⟩)), (2, 246, .pointer (some ⟨g, 11, none⟩)), (3, 247, .slice A11 n11 c11), (4, 248, v3), (5, 249, .pointer (some ⟨g, 9, none⟩)), (6, 250, .pointer (some ⟨g, 12, none⟩)), (7, 251, .string sd), (8, 252, v4), (9, 7, m9_)] ∧ (Below w.heap.size w w') ∧ (LK u2 w' B) ∧ (b 4 = false → RB w w' B v2 ((l ++ wnum si 8) ++ wnum st 8)) ∧ (b 4 = true → b 8 = false → RB w w' B v3 (((l ++ wnum si 8) ++ wnum st 8) ++ wmem sm)) ∧ (b 8 = true → RB w w' B v4 ((((l ++ wnum si 8) ++ wnum st 8) ++ wmem sm) ++ wtext sd)) ∧ (b 9 = true → (m9_ : Value) = v4)) HT_.out HW_.out (by kernel_rfl) (by kernel_rfl) ?_ ?_ ?_
    · exact ⟨.bool false, .bool false, .bool false, by simp only [putSel, Bool.false_eq_true, if_false], F.out, L.out, fun _ => R0.out, fun h_ => absurd h_ (by decide), fun h_ => absurd h_ (by decide), fun h_ => absurd h_ (by decide)⟩
    · skip
      clear F L R0
      refine steps_cons ?_ ?_
      · rintro b a w' ⟨v3, v4, m9_, ha, Q_F, Q_L, Q_R0, Q_R1, Q_R2, Q_X9_⟩ hb_ hon hoff
        refine ⟨_, rfl, fun K hK => ?_⟩
        have e7 : a.tmps[7]? = some (v2) := by rw [ha]; exact (putSel_not (hoff 9 (by kernel_rfl)) rfl).trans rfl
        replace ha := Aside0.mk ha
        have F := Aside0.mk Q_F
        have L := Aside0.mk Q_L
        have R0 := Aside0.mk (Q_R0 (hoff 4 (by kernel_rfl)))
        refine value_ (w1 := w') (v := v2) (by rfl) rfl ?_ ?_
        · go_simp
          (try simp only [i64_w])
          try rfl
        refine hK.out _ _ ⟨v3, v4, m9_, (by rw [ha.out]; exact putSel_upk 0 hb_ rfl rfl rfl), Q_F, Q_L, Q_R0, fun h0_ _ => absurd ((hoff 4 (by kernel_rfl)).symm.trans h0_) (by decide), fun h0_ => absurd ((hoff 8 (by kernel_rfl)).symm.trans h0_) (by decide), fun h0_ => absurd ((hoff 9 (by kernel_rfl)).symm.trans h0_) (by decide)⟩
      refine steps_cons ?_ ?_
      · rintro b a w' ⟨v3, v4, m9_, ha, Q_F, Q_L, Q_R0, Q_R1, Q_R2, Q_X9_⟩ hb_ hon hoff
        refine ⟨_, rfl, fun K hK => ?_⟩
        have e1 : a.tmps[1]? = some (.pointer (some ⟨g, 0, none⟩)) := by rw [ha]; exact (putSel_off rfl).trans rfl
        replace ha := Aside0.mk ha
        have F := Aside0.mk Q_F
        have L := Aside0.mk Q_L
        have R0 := Aside0.mk (Q_R0 (hoff 4 (by kernel_rfl)))
        refine value_ (w1 := w') (v := .pointer (some ⟨g, 9, none⟩)) (by rfl) rfl ?_ ?_
        · go_simp
          (try simp only [i64_w])
          try rfl
        refine hK.out _ _ ⟨v3, v4, m9_, (by rw [ha.out]; exact putSel_upk 1 hb_ rfl rfl rfl), Q_F, Q_L, Q_R0, fun h0_ _ => absurd ((hoff 4 (by kernel_rfl)).symm.trans h0_) (by decide), fun h0_ => absurd ((hoff 8 (by kernel_rfl)).symm.trans h0_) (by decide), fun h0_ => absurd ((hoff 9 (by kernel_rfl)).symm.trans h0_) (by decide)⟩
      refine steps_cons ?_ ?_
      · rintro b a w' ⟨v3, v4, m9_, ha, Q_F, Q_L, Q_R0, Q_R1, Q_R2, Q_X9_⟩ hb_ hon hoff
        refine ⟨_, rfl, fun K hK => ?_⟩
        have e245 : a.tmps[245]? = some (.pointer (some ⟨g, 9, none⟩)) := by rw [ha]; exact putSel_on (e := (1, 245, .pointer (some ⟨g, 9, none⟩))) 1 rfl rfl (hon 1 (by kernel_rfl)) rfl
        replace ha := Aside0.mk ha
        have F := Aside0.mk Q_F
        have L := Aside0.mk Q_L
        have R0 := Aside0.mk (Q_R0 (hoff 4 (by kernel_rfl)))
        refine value_ (w1 := w') (v := .pointer (some ⟨g, 11, none⟩)) (by rfl) rfl ?_ ?_
        · go_simp
          (try simp only [i64_w])
          try rfl
        refine hK.out _ _ ⟨v3, v4, m9_, (by rw [ha.out]; exact putSel_upk 2 hb_ rfl rfl rfl), Q_F, Q_L, Q_R0, fun h0_ _ => absurd ((hoff 4 (by kernel_rfl)).symm.trans h0_) (by decide), fun h0_ => absurd ((hoff 8 (by kernel_rfl)).symm.trans h0_) (by decide), fun h0_ => absurd ((hoff 9 (by kernel_rfl)).symm.trans h0_) (by decide)⟩
      refine steps_cons ?_ ?_
      · rintro b a w' ⟨v3, v4, m9_, ha, Q_F, Q_L, Q_R0, Q_R1, Q_R2, Q_X9_⟩ hb_ hon hoff
        refine ⟨_, rfl, fun K hK => ?_⟩
        have e246 : a.tmps[246]? = some (.pointer (some ⟨g, 11, none⟩)) := by rw [ha]; exact putSel_on (e := (2, 246, .pointer (some ⟨g, 11, none⟩))) 2 rfl rfl (hon 2 (by kernel_rfl)) rfl
        replace ha := Aside0.mk ha
        have F := Aside0.mk Q_F
        have L := Aside0.mk Q_L
        have R0 := Aside0.mk (Q_R0 (hoff 4 (by kernel_rfl)))
        have m0 : w'.cell? ⟨g, 11, none⟩ = some (.slice A11 n11 c11) := blk_cell (L.out.blk HX2.out (by decide)) 11
        refine value_ (w1 := w') (v := .slice A11 n11 c11) (by rfl) rfl ?_ ?_
        · go_simp
          (try simp only [i64_w])
          try rfl
        refine hK.out _ _ ⟨v3, v4, m9_, (by rw [ha.out]; exact putSel_upk 3 hb_ rfl rfl rfl), Q_F, Q_L, Q_R0, fun h0_ _ => absurd ((hoff 4 (by kernel_rfl)).symm.trans h0_) (by decide), fun h0_ => absurd ((hoff 8 (by kernel_rfl)).symm.trans h0_) (by decide), fun h0_ => absurd ((hoff 9 (by kernel_rfl)).symm.trans h0_) (by decide)⟩
      refine steps_cons ?_ ?_
      · rintro b a w' ⟨v3, v4, m9_, ha, Q_F, Q_L, Q_R0, Q_R1, Q_R2, Q_X9_⟩ hb_ hon hoff
        refine ⟨_, rfl, fun K hK => ?_⟩
        have e244 : a.tmps[244]? = some (v2) := by rw [ha]; exact putSel_on (e := (0, 244, v2)) 0 rfl rfl (hon 0 (by kernel_rfl)) rfl
        have e247 : a.tmps[247]? = some (.slice A11 n11 c11) := by rw [ha]; exact putSel_on (e := (3, 247, .slice A11 n11 c11)) 3 rfl rfl (hon 3 (by kernel_rfl)) rfl
        replace ha := Aside0.mk ha
        have F := Aside0.mk Q_F
        have L := Aside0.mk Q_L
        have R0 := Aside0.mk (Q_R0 hb_)
        refine goes_ (N := some 248) Try.func27 (by kernel_rfl) rfl #[v2, .slice A11 n11 c11] (by rfl) rfl rfl (by first | (simp only [List.map_toArray, List.map_cons, List.map_nil, Act.eval, Array.getD_eq_getD_getElem?, Option.getD_some, e244, e247]; done) | (simp only [List.map_toArray, List.map_cons, List.map_nil, Act.eval, Array.getD_eq_getD_getElem?, Option.getD_some, e244, e247]; rfl)) ?_
        refine (rints_calls' w w' B v2 ((l ++ wnum si 8) ++ wnum st 8) sm A11 n11 c11 R0.out F.out (Nat.le_trans HBW2.out L.out.size) HBB.out HS.out HS1.out HS2.out (by have := HM.out; omega) (by have := HL.out; have := HM.out; have := HD.out; (try simp only [List.length_append, wnum_length]); omega)).mono ?_
        rintro e w1_ ⟨v1_, rfl, hr1, hq1, hk1⟩
        refine ⟨_, rfl, ?_⟩
        refine hK.out _ _ ⟨v1_, v4, m9_, (by rw [ha.out]; exact putSel_upk 4 hb_ rfl rfl rfl), hq1, L.out.trans hk1, fun h0_ => absurd ((up_self b 4).symm.trans h0_) (by decide), fun _ _ => hr1, fun h0_ => absurd ((hoff 8 (by kernel_rfl)).symm.trans h0_) (by decide), fun h0_ => absurd ((hoff 9 (by kernel_rfl)).symm.trans h0_) (by decide)⟩
      refine steps_cons ?_ ?_
      · rintro b a w' ⟨v3, v4, m9_, ha, Q_F, Q_L, Q_R0, Q_R1, Q_R2, Q_X9_⟩ hb_ hon hoff
        refine ⟨_, rfl, fun K hK => ?_⟩
        have e1 : a.tmps[1]? = some (.pointer (some ⟨g, 0, none⟩)) := by rw [ha]; exact (putSel_off rfl).trans rfl
        replace ha := Aside0.mk ha
        have F := Aside0.mk Q_F
        have L := Aside0.mk Q_L
        refine value_ (w1 := w') (v := .pointer (some ⟨g, 9, none⟩)) (by rfl) rfl ?_ ?_
        · go_simp
          (try simp only [i64_w])
          try rfl
        refine hK.out _ _ ⟨v3, v4, m9_, (by rw [ha.out]; exact putSel_upk 5 hb_ rfl rfl rfl), Q_F, Q_L, Q_R0, Q_R1, fun h0_ => absurd ((hoff 8 (by kernel_rfl)).symm.trans h0_) (by decide), fun h0_ => absurd ((hoff 9 (by kernel_rfl)).symm.trans h0_) (by decide)⟩
      refine steps_cons ?_ ?_
      · rintro b a w' ⟨v3, v4, m9_, ha, Q_F, Q_L, Q_R0, Q_R1, Q_R2, Q_X9_⟩ hb_ hon hoff
        refine ⟨_, rfl, fun K hK => ?_⟩
        have e249 : a.tmps[249]? = some (.pointer (some ⟨g, 9, none⟩)) := by rw [ha]; exact putSel_on (e := (5, 249, .pointer (some ⟨g, 9, none⟩))) 5 rfl rfl (hon 5 (by kernel_rfl)) rfl
        replace ha := Aside0.mk ha
        have F := Aside0.mk Q_F
        have L := Aside0.mk Q_L
        refine value_ (w1 := w') (v := .pointer (some ⟨g, 12, none⟩)) (by rfl) rfl ?_ ?_
        · go_simp
          (try simp only [i64_w])
          try rfl
        refine hK.out _ _ ⟨v3, v4, m9_, (by rw [ha.out]; exact putSel_upk 6 hb_ rfl rfl rfl), Q_F, Q_L, Q_R0, Q_R1, fun h0_ => absurd ((hoff 8 (by kernel_rfl)).symm.trans h0_) (by decide), fun h0_ => absurd ((hoff 9 (by kernel_rfl)).symm.trans h0_) (by decide)⟩
      refine steps_cons ?_ ?_
      · rintro b a w' ⟨v3, v4, m9_, ha, Q_F, Q_L, Q_R0, Q_R1, Q_R2, Q_X9_⟩ hb_ hon hoff
        refine ⟨_, rfl, fun K hK => ?_⟩
        have e250 : a.tmps[250]? = some (.pointer (some ⟨g, 12, none⟩)) := by rw [ha]; exact putSel_on (e := (6, 250, .pointer (some ⟨g, 12, none⟩))) 6 rfl rfl (hon 6 (by kernel_rfl)) rfl
        replace ha := Aside0.mk ha
        have F := Aside0.mk Q_F
        have L := Aside0.mk Q_L
        have m0 : w'.cell? ⟨g, 12, none⟩ = some (.string sd) := blk_cell (L.out.blk HX2.out (by decide)) 12
        refine value_ (w1 := w') (v := .string sd) (by rfl) rfl ?_ ?_
        · go_simp
          (try simp only [i64_w])
          try rfl
        refine hK.out _ _ ⟨v3, v4, m9_, (by rw [ha.out]; exact putSel_upk 7 hb_ rfl rfl rfl), Q_F, Q_L, Q_R0, Q_R1, fun h0_ => absurd ((hoff 8 (by kernel_rfl)).symm.trans h0_) (by decide), fun h0_ => absurd ((hoff 9 (by kernel_rfl)).symm.trans h0_) (by decide)⟩
      refine steps_cons ?_ ?_
      · rintro b a w' ⟨v3, v4, m9_, ha, Q_F, Q_L, Q_R0, Q_R1, Q_R2, Q_X9_⟩ hb_ hon hoff
        refine ⟨_, rfl, fun K hK => ?_⟩
        have e248 : a.tmps[248]? = some (v3) := by rw [ha]; exact putSel_on (e := (4, 248, v3)) 4 rfl rfl (hon 4 (by kernel_rfl)) rfl
        have e251 : a.tmps[251]? = some (.string sd) := by rw [ha]; exact putSel_on (e := (7, 251, .string sd)) 7 rfl rfl (hon 7 (by kernel_rfl)) rfl
        replace ha := Aside0.mk ha
        have F := Aside0.mk Q_F
        have L := Aside0.mk Q_L
        have R1 := Aside0.mk (Q_R1 (hon 4 (by kernel_rfl)) hb_)
        refine goes_ (N := some 252) Try.func28 (by kernel_rfl) rfl #[v3, .string sd] (by rfl) rfl rfl (by first | (simp only [List.map_toArray, List.map_cons, List.map_nil, Act.eval, Array.getD_eq_getD_getElem?, Option.getD_some, e248, e251]; done) | (simp only [List.map_toArray, List.map_cons, List.map_nil, Act.eval, Array.getD_eq_getD_getElem?, Option.getD_some, e248, e251]; rfl)) ?_
        refine (reftext_calls w w' B v3 (((l ++ wnum si 8) ++ wnum st 8) ++ wmem sm) sd R1.out F.out (Nat.le_trans HBW2.out L.out.size) HBB.out (by have := HD.out; omega) (by have := HL.out; have := HM.out; have := HD.out; (try simp only [List.length_append, wnum_length, wmem_len]); omega)).mono ?_
        rintro e w1_ ⟨v1_, rfl, hr1, hq1, hk1⟩
        refine ⟨_, rfl, ?_⟩
        refine hK.out _ _ ⟨v3, v1_, m9_, (by rw [ha.out]; exact putSel_upk 8 hb_ rfl rfl rfl), hq1, L.out.trans hk1, fun h0_ => absurd ((hon 4 (by kernel_rfl)).symm.trans h0_) (by decide), fun _ h1_ => absurd ((up_self b 8).symm.trans h1_) (by decide), fun _ => hr1, fun h0_ => absurd ((hoff 9 (by kernel_rfl)).symm.trans h0_) (by decide)⟩
      refine steps_cons ?_ ?_
      · rintro b a w' ⟨v3, v4, m9_, ha, Q_F, Q_L, Q_R0, Q_R1, Q_R2, Q_X9_⟩ hb_ hon hoff
        refine ⟨_, rfl, fun K hK => ?_⟩
        have e252 : a.tmps[252]? = some (v4) := by rw [ha]; exact putSel_on (e := (8, 252, v4)) 8 rfl rfl (hon 8 (by kernel_rfl)) rfl
        replace ha := Aside0.mk ha
        have F := Aside0.mk Q_F
        have L := Aside0.mk Q_L
        have R2 := Aside0.mk (Q_R2 (hon 8 (by kernel_rfl)))
        refine value_ (w1 := w') (v := v4) (by rfl) rfl ?_ ?_
        · go_simp
          (try simp only [i64_w])
          try rfl
        refine hK.out _ _ ⟨v3, v4, (v4), (by rw [ha.out]; exact putSel_upk 9 hb_ rfl rfl rfl), Q_F, Q_L, fun h0_ => absurd ((hon 4 (by kernel_rfl)).symm.trans h0_) (by decide), fun _ h1_ => absurd ((hon 8 (by kernel_rfl)).symm.trans h1_) (by decide), Q_R2, fun _ => rfl⟩
      exact steps_nil
    · rintro b a w' hall ⟨v3, v4, m9_, ha, Q_F, Q_L, Q_R0, Q_R1, Q_R2, Q_X9_⟩
      clear F L R0
      have hb0_ := hall 0 (by kernel_rfl)
      have hb1_ := hall 1 (by kernel_rfl)
      have hb2_ := hall 2 (by kernel_rfl)
      have hb3_ := hall 3 (by kernel_rfl)
      have hb4_ := hall 4 (by kernel_rfl)
      have hb5_ := hall 5 (by kernel_rfl)
      have hb6_ := hall 6 (by kernel_rfl)
      have hb7_ := hall 7 (by kernel_rfl)
      have hb8_ := hall 8 (by kernel_rfl)
      have hb9_ := hall 9 (by kernel_rfl)
      subst ha
      obtain rfl := Q_X9_ hb9_
      simp only [putSel, hb0_, hb1_, hb2_, hb3_, hb4_, hb5_, hb6_, hb7_, hb8_, hb9_, if_true, Act.put, List.setIfInBounds_toArray, List.set_cons_zero, List.set_cons_succ]
      have F := Aside0.mk Q_F
      clear Q_F
      have L := Aside0.mk Q_L
      clear Q_L
      clear Q_R0
      clear Q_R1
      have R2 := Aside0.mk (Q_R2 hb8_)
      clear Q_R2
      clear hall hb0_ hb1_ hb2_ hb3_ hb4_ hb5_ hb6_ hb7_ hb8_ hb9_
      obtain ⟨A, c, ev, hc, hC⟩ := Kd.R_reads R2.out
      have HRL : Aside0 (((((l ++ wnum si 8) ++ wnum st 8) ++ wmem sm) ++ wtext sd) = (l ++ (wints [si, st] ++ (wmem sm ++ wtext sd)))) := ⟨by simp [wints]⟩
      obtain ⟨n, hn⟩ : ∃ n, n = (((((l ++ wnum si 8) ++ wnum st 8) ++ wmem sm) ++ wtext sd)).length := ⟨_, rfl⟩
      rw [← hn] at ev hc hC
      subst ev
      rw [HRL.out] at hC hn
      have HN := Aside0.mk hn
      have HC := Aside0.mk hC
      have HNC := Aside0.mk hc
      clear hn hC hc
      go_wp2
      rw [HRR.out]
      exact bodyPost_ret (v := .tuple #[.slice A n c, .int .i64 0]) (by simp [results, Try.results11, go_sem]) rfl (encQ_some HN.out HNC.out HC.out F.out)
end Go.Proofs.Ytbemfgpdfacdpaa.Ms
namespace Go.Proofs.Ytbemfgpdfacdpaa.Ms
open Go.RowKit Go.Proofs.Ytbemfgpdfacdpaa.Pr Go.Proofs.YtbemfgpdfacdpaaW.PrintWords Go.Proofs.YtbemfgpdfacdpaaW.PrintLast Go.Proofs.YtbemfgpdfacdpaaW.PrintMore
open Go.Proofs.Ytbemfgpdfacdpaa.QT (OwnAt)
set_option linter.unusedVariables false
set_option linter.unusedSimpArgs false
set_option maxHeartbeats 16000000 in
set_option maxRecDepth 100000 in
theorem refenc_calls (m : M13) (A8 : Option Addr) (n8 c8 : Nat) (A11 : Option Addr) (n11 c11 : Nat) (w : World) (hE : k46.C w A8 m.es.length m.es) (hE1 : n8 = m.es.length) (hE2 : n8 ≤ c8) (hS : (Kd.int .i64).C w A11 m.sm.length m.sm) (hS1 : n11 = m.sm.length) (hS2 : n11 ≤ c11) (h9 : ∀ e ∈ m.es, e.f4.length ≤ 20000) :
    Calls Try.prog 11 #[.agg (mcells m (.slice A8 n8 c8) (.slice A11 n11 c11))] w (EncQ w (refE m)) := by
  by_cases hb : bad1 m
  · rw [refE_bad hb]; exact refenc_bad m A8 n8 c8 A11 n11 c11 w hE1 hS1 hb
  obtain ⟨kd, fr, tt, tm, ix, lt, cm, ys, es, si, st, sm, sd⟩ := m
  have hb0 := hb
  simp only [bad1, not_or] at hb
  obtain ⟨b0, b1, b2, b3, b4, b5, b6, b7, b8, b9, b10, b11, b12, b13, b14⟩ := hb
  dsimp only at hE hE1 hS hS1 h9
  have hl8 : es.length ≤ 8 := by omega
  have hm9 : sm.length ≤ 9 := by omega
  have hd : sd.size ≤ 65536 := by omega
  have k10 : ¬ ((8 : Int) < (n8 : Int)) := by omega
  have k11 : ¬ ((9 : Int) < (n11 : Int)) := by omega
  have k12 : ¬ ((65536 : Int) < (sd.size : Int)) := by omega
  have hk : kd = 1 ∨ kd = 2 ∨ kd = 3 ∨ kd = 4 ∨ kd = 5 := by clear hE hS h9; omega
  refine refenc_head kd fr tt tm ix lt cm ys es si st sm sd A8 n8 c8 A11 n11 c11 w (decide_eq_false b0) (decide_eq_false b1) (decide_eq_false b2) (decide_eq_false b3) (decide_eq_false b4) (decide_eq_false b5) (decide_eq_false b6) (decide_eq_false b7) (decide_eq_false b8) (decide_eq_false b9) (decide_eq_false k10) (decide_eq_false k11) (decide_eq_false k12) (decide_eq_false b13) (decide_eq_false b14) hE hE1 hE2 hS hS1 hS2 h9 ?_
  clear k10 k11 k12 b0 b1 b2 b3 b4 b5 b6 b7 b8 b9 b10 b11 b12 b13 b14
  intro hso g w1 hg hX hW ts h
  have hG : w.heap.size ≤ g := Nat.le_of_eq hg.symm
  have hon : onlyM ⟨kd, fr, tt, tm, ix, lt, cm, ys, es, si, st, sm, sd⟩ = ⟨kd, fr, tt, tm, ix, lt, cm, ys, es, si, st, sm, sd⟩ := by classical exact of_decide_eq_true hso
  refine (fun hT => elimPH g (Q := fun ts => Code.wp Try.prog (encT 3) (bodyPost Try.prog Try.f11 (EncQ w (refE ⟨kd, fr, tt, tm, ix, lt, cm, ys, es, si, st, sm, sd⟩))) ⟨ts, []⟩ w1) h (fun z0 z4 z5 z6 z7 z8 z9 z10 z11 z12 z13 z14 z15 z16 z17 z18 z19 z20 z21 z22 z23 z24 z25 z26 z27 z28 z29 z30 z31 z32 z33 z34 z35 z36 z37 z38 z39 z40 z41 z42 z43 z44 z45 z46 z47 z48 z49 z50 z51 z52 z53 z54 z55 z56 z57 z58 z59 z60 z61 z62 z63 z64 z65 z66 z67 z68 z69 z70 z71 z72 z73 z74 z75 z76 z77 z78 z79 z80 z81 z82 z83 z84 z85 z86 z87 z88 z89 z90 z91 z92 z93 z94 z95 z96 z97 z98 z99 z100 z101 z102 z103 z104 z105 z106 z107 z108 z109 z110 z111 z112 z113 z114 z115 z116 z117 z118 z119 z120 z121 z122 z123 z124 z125 z126 z127 z128 z129 z130 z131 z132 z133 z134 z135 z136 z137 z138 z139 z140 z141 z142 z143 z144 z145 z146 z147 z148 z149 z150 z151 z152 z153 z154 z155 z156 z157 z158 z159 z160 z161 z162 z163 z164 z165 z166 z167 z168 z169 z170 z171 z172 z173 z174 z175 z176 z177 z178 z179 z180 z181 z182 z183 z184 z185 z186 z187 z188 z189 z190 z191 z192 z193 z194 z195 z196 z197 z198 z199 z200 z201 z202 z203 z204 z205 z206 z207 z208 z209 z210 z211 z212 z213 z214 z215 z216 z217 z218 z219 z220 z221 z222 z223 z224 z225 z226 z227 z228 z229 z230 z231 z232 z233 z234 z235 z236 z237 z238 z239 z240 z241 z242 z243 z244 z245 z246 z247 z248 z249 z250 z251 z252 z253 => refenc_t3 kd fr tt tm ix lt cm ys es si st sm sd A8 n8 c8 A11 n11 c11 w (refE ⟨kd, fr, tt, tm, ix, lt, cm, ys, es, si, st, sm, sd⟩) g w1 hE hE1 (Nat.le_trans hl8 (by decide)) h9 (fun h => by rw [refE, if_pos (.inr (.inr (.inl h)))]) hX hW hG hT z0 (.slice none 0 0) (.int .i64 0) z4 z5 z6 z7 z8 z9 z10 z11 z12 z13 z14 z15 z16 z17 z18 z19 z20 z21 z22 z23 z24 z25 z26 z27 z28 z29 z30 z31 z32 z33 z34 z35 z36 z37 z38 z39 z40 z41 z42 z43 z44 z45 z46 z47 z48 z49 z50 z51 z52 z53 z54 z55 z56 z57 z58 z59 z60 z61 z62 z63 z64 z65 z66 z67 z68 z69 z70 z71 z72 z73 z74 z75 z76 z77 z78 z79 z80 z81 z82 z83 z84 z85 z86 z87 z88 z89 z90 z91 z92 z93 z94 z95 z96 z97 z98 z99 z100 z101 z102 z103 z104 z105 z106 z107 z108 z109 z110 z111 z112 z113 z114 z115 z116 z117 z118 z119 z120 z121 z122 z123 z124 z125 z126 z127 z128 z129 z130 z131 z132 z133 z134 z135 z136 z137 z138 z139 z140 z141 z142 z143 z144 z145 z146 z147 z148 z149 z150 z151 z152 z153 z154 z155 z156 z157 z158 z159 z160 z161 z162 z163 z164 z165 z166 z167 z168 z169 z170 z171 z172 z173 z174 z175 z176 z177 z178 z179 z180 z181 z182 z183 z184 z185 z186 z187 z188 z189 z190 z191 z192 z193 z194 z195 z196 z197 z198 z199 z200 z201 z202 z203 z204 z205 z206 z207 z208 z209 z210 z211 z212 z213 z214 z215 z216 z217 z218 z219 z220 z221 z222 z223 z224 z225 z226 z227 z228 z229 z230 z231 z232 z233 z234 z235 z236 z237 z238 z239 z240 z241 z242 z243 z244 z245 z246 z247 z248 z249 z250 z251 z252 z253)) ?_
  clear h hX hW
  intro hodd w2 hX2 hW2 ts h
  refine (fun hT => elimP g (Q := fun ts => Code.wp Try.prog (encT 4) (bodyPost Try.prog Try.f11 (EncQ w (refE ⟨kd, fr, tt, tm, ix, lt, cm, ys, es, si, st, sm, sd⟩))) ⟨ts, []⟩ w2) h (refenc_t4 kd fr tt tm ix lt cm ys es si st sm sd A8 n8 c8 A11 n11 c11 w (refE ⟨kd, fr, tt, tm, ix, lt, cm, ys, es, si, st, sm, sd⟩) g w2 hS hS1 (Nat.le_trans hm9 (by decide)) (fun h => by rw [refE, if_pos (.inr (.inr (.inr h)))]) hX2 hW2 hG hT)) ?_
  clear h hX2 hW2
  intro hneg w3 hX3 hW3 ts h
  have hR : refE ⟨kd, fr, tt, tm, ix, lt, cm, ys, es, si, st, sm, sd⟩ = some (rawW ⟨kd, fr, tt, tm, ix, lt, cm, ys, es, si, st, sm, sd⟩) := by
    rw [refE, if_neg]
    rintro (h | h | ⟨e, he, h⟩ | ⟨v, hv, h⟩)
    · exact hb0 h
    · exact h hon
    · exact absurd ((hodd e he).symm.trans h) (by decide)
    · exact hneg v hv h
  refine (fun hT => elimP g (Q := fun ts => Code.wp Try.prog (encT 5) (bodyPost Try.prog Try.f11 (EncQ w (refE ⟨kd, fr, tt, tm, ix, lt, cm, ys, es, si, st, sm, sd⟩))) ⟨ts, []⟩ w3) h (refenc_t5 kd fr tt tm ix lt cm ys es si st sm sd A8 n8 c8 A11 n11 c11 w (refE ⟨kd, fr, tt, tm, ix, lt, cm, ys, es, si, st, sm, sd⟩) g w3 hX3 hW3 hG hT)) ?_
  clear h hX3 hW3
  intro v B w4 hX4 hW4 hBB hBW hRB yb ts hy h
  have hl : (wnum kd 1 ++ wints [fr, tt, tm]).length ≤ 100 := by simp [wints, wnum_length]
  rcases hk with rfl | rfl | rfl | rfl | rfl
  · exact elimP5 g v yb (Q := fun ts => Code.wp Try.prog (encT 11) (bodyPost Try.prog Try.f11 (EncQ w (refE ⟨1, fr, tt, tm, ix, lt, cm, ys, es, si, st, sm, sd⟩))) ⟨ts, []⟩ w4) h (refenc_k1 fr tt tm ix lt cm ys es si st sm sd A8 n8 c8 A11 n11 c11 w _ g w4 v B _ hX4 hW4 hBB hBW hRB hl yb (hR.trans rfl))
  · exact elimP5 g v yb (Q := fun ts => Code.wp Try.prog (encT 11) (bodyPost Try.prog Try.f11 (EncQ w (refE ⟨2, fr, tt, tm, ix, lt, cm, ys, es, si, st, sm, sd⟩))) ⟨ts, []⟩ w4) h (refenc_k2 fr tt tm ix lt cm ys es si st sm sd A8 n8 c8 A11 n11 c11 w _ g w4 v B _ hX4 hW4 hBB hBW hRB hl yb (by rw [hR, hy]; rfl))
  · exact elimP5 g v yb (Q := fun ts => Code.wp Try.prog (encT 11) (bodyPost Try.prog Try.f11 (EncQ w (refE ⟨3, fr, tt, tm, ix, lt, cm, ys, es, si, st, sm, sd⟩))) ⟨ts, []⟩ w4) h (refenc_k3 fr tt tm ix lt cm ys es si st sm sd A8 n8 c8 A11 n11 c11 w _ g w4 v B _ hX4 hW4 hBB hBW hRB hl yb hE hE1 hl8 hodd (hR.trans rfl))
  · exact elimP5 g v yb (Q := fun ts => Code.wp Try.prog (encT 11) (bodyPost Try.prog Try.f11 (EncQ w (refE ⟨4, fr, tt, tm, ix, lt, cm, ys, es, si, st, sm, sd⟩))) ⟨ts, []⟩ w4) h (refenc_k4 fr tt tm ix lt cm ys es si st sm sd A8 n8 c8 A11 n11 c11 w _ g w4 v B _ hX4 hW4 hBB hBW hRB hl yb (by rw [hR, hy]; rfl))
  · exact elimP5 g v yb (Q := fun ts => Code.wp Try.prog (encT 11) (bodyPost Try.prog Try.f11 (EncQ w (refE ⟨5, fr, tt, tm, ix, lt, cm, ys, es, si, st, sm, sd⟩))) ⟨ts, []⟩ w4) h (refenc_k5 fr tt tm ix lt cm ys es si st sm sd A8 n8 c8 A11 n11 c11 w _ g w4 v B _ hX4 hW4 hBB hBW hRB hl yb hS hS1 hS2 (Nat.le_trans hm9 (by decide)) (Nat.le_trans hd (by decide)) (hR.trans rfl))
end Go.Proofs.Ytbemfgpdfacdpaa.Ms
namespace Go.Proofs.Ytbemfgpdfacdpaa.Ms
open Go.RowKit Go.Proofs.Ytbemfgpdfacdpaa.Pr Go.Proofs.YtbemfgpdfacdpaaW.PrintWords Go.Proofs.YtbemfgpdfacdpaaW.PrintLast Go.Proofs.YtbemfgpdfacdpaaW.PrintMore
set_option linter.unusedVariables false
set_option linter.unusedSimpArgs false
noncomputable def decT (n : Nat) : Code := dropSeq n (Try.f14.body.getD .skip)
structure DS (w W : World) (g e : Nat) (l : List Int) (m : M13) (v8 v11 : Value) (i : Nat) (b : Bool) : Prop where
  z : W.heap[w.heap.size]? = some (.cells (mcells M0 (.slice none 0 0) (.slice none 0 0)) 27 (0, 0))
  mb : W.heap[g]? = some (.cells (mcells m v8 v11) 27 (0, 0))
  ey : Ey w W e l i b
  bl : Below w.heap.size w W
  h8 : k46.R 46 W w.heap.size (fun k => g < k) v8 m.es
  h11 : (Kd.int .i64).R 3 W w.heap.size (fun k => g < k) v11 m.sm
  ze : w.heap.size < e
  eg : e < g
section
variable {w W W2 : World} {g e : Nat} {l : List Int} {m : M13} {v8 v11 : Value} {i i2 : Nat} {b b2 : Bool}
theorem DS.call (h : DS w W g e l m v8 v11 i b) (hE : Ey w W2 e l i2 b2) (hK : Kept W W2 (fun k => k = e)) (hB : Below w.heap.size w W2) : DS w W2 g e l m v8 v11 i2 b2 :=
  ⟨blk_kept h.z hK (by have := h.ze; omega), blk_kept h.mb hK (by have := h.eg; omega), hE, hB, Kd.R_kept h.h8 hK (fun k hk he => by have := h.eg; omega), Kd.R_kept h.h11 hK (fun k hk he => by have := h.eg; omega), h.ze, h.eg⟩
/-- Nothing that is named has changed. -/
theorem DS.below (h : DS w W g e l m v8 v11 i b) (hB : Below W.heap.size W W2) : DS w W2 g e l m v8 v11 i b :=
  ⟨blk_below h.z hB, blk_below h.mb hB, h.ey.kept (S := fun _ => False) (Kept.of_below hB _) (fun h => h), h.bl.trans (hB.mono h.bl.size), Kd.R_below h.h8 hB, Kd.R_below h.h11 hB, h.ze, h.eg⟩
theorem DS.put (h : DS w W g e l m v8 v11 i b) (j : Nat) (u : Value) (m' : M13) (v8' v11' : Value) (hm : mcells m' v8' v11' = (mcells m v8 v11).setIfInBounds j u)
    (h8 : k46.R 46 W w.heap.size (fun k => g < k) v8' m'.es) (h11 : (Kd.int .i64).R 3 W w.heap.size (fun k => g < k) v11' m'.sm) : DS w (W.setCell ⟨g, j, none⟩ u) g e l m' v8' v11' i b := by
  refine ⟨blk_far h.z (p := ⟨g, j, none⟩) (by show w.heap.size ≠ g; have := h.ze; have := h.eg; omega) _, by rw [hm]; exact blk_set h.mb j u, ?_, h.bl.setCell (p := ⟨g, j, none⟩) (by show w.heap.size ≤ g; have := h.ze; have := h.eg; omega) _, Kd.R_far h8 (p := ⟨g, j, none⟩) (fun k hk => by show k ≠ g; omega) _, Kd.R_far h11 (p := ⟨g, j, none⟩) (fun k hk => by show k ≠ g; omega) _, h.ze, h.eg⟩
  exact h.ey.kept (S := fun k => k = g) (Kept.setCell (S := fun k => k = g) (p := ⟨g, j, none⟩) (Kept.refl _ _) (.inl rfl) _) (by have := h.eg; omega)
theorem DS.cell (h : DS w W g e l m v8 v11 i b) (j : Nat) : W.cell? ⟨g, j, none⟩ = (mcells m v8 v11)[j]? := blk_cell h.mb j
end
theorem str_ne {a b : List Int} (ha : Byt a) (hb : Byt b) (h : a ≠ b) : strOfNums a ≠ strOfNums b := fun he => h (by rw [← bytesOf_str a ha, he, bytesOf_str b hb])
end Go.Proofs.Ytbemfgpdfacdpaa.Ms
namespace Go.Proofs.Ytbemfgpdfacdpaa.Ms
open Go.RowKit Go.Proofs.Ytbemfgpdfacdpaa.Pr Go.Proofs.YtbemfgpdfacdpaaW.PrintWords Go.Proofs.YtbemfgpdfacdpaaW.PrintLast Go.Proofs.YtbemfgpdfacdpaaW.PrintMore
set_option linter.unusedVariables false
set_option linter.unusedSimpArgs false
theorem below_setRow' {B : Nat} {w W : World} (h : Below B w W) {g : Nat} (hg : B ≤ g) {cs : Array Value} : Below B w (W.setRow g cs) := below_setRow h hg _
set_option maxHeartbeats 16000000 in
set_option maxRecDepth 100000 in
theorem refdec_tail (w W : World) (g e : Nat) (l : List Int) (m : M13) (A8 : Option Addr) (n8 c8 : Nat) (A11 : Option Addr) (n11 c11 : Nat) (i : Nat) (b : Bool) (A : Option Addr) (n c : Nat) (q : Option M13) (hC : (Kd.int .u8).C w A l.length l) (hn : n = l.length) (hc : n ≤ c) (hby : Byt l)
    (hD : DS w W g e l m (.slice A8 n8 c8) (.slice A11 n11 c11) i b) (h9 : ∀ x ∈ m.es, x.f4.length ≤ 20000) (hraw : rawE l = (m, i, b)) (hq : q = refD l)
    (z1 z6 z7 z8 z9 z10 z11 z12 z13 z14 z15 z16 z17 z18 z19 z20 z21 z22 z23 z24 z25 z26 z27 z28 z29 z30 z31 z32 z33 z34 z35 z36 z37 z38 z39 z40 z41 z42 z43 z44 z45 z46 z47 z48 z49 z50 z51 z52 z53 z54 z55 z56 z57 z58 z59 z60 z61 z62 z63 z64 z65 z66 z67 z68 z69 z70 z71 z72 z73 z74 z75 z76 z77 z78 z79 z80 z81 z82 z83 z84 z85 z86 z87 z88 z89 z90 z91 z92 z93 z94 z95 z96 z97 z98 z99 z100 z101 z102 z103 z104 z105 z106 z107 z108 z109 z110 z111 z112 z113 z114 z115 z116 z117 z118 z119 z120 z121 z122 z123 z124 z125 z126 z127 z128 z129 : Value) : Code.wp Try.prog (decT 4) (bodyPost Try.prog Try.f14 (DecQ w q)) ⟨#[.slice A n c, z1, .pointer (some ⟨w.heap.size, 0, none⟩), .int .i64 0, .pointer (some ⟨e, 0, none⟩), .pointer (some ⟨g, 0, none⟩), z6, z7, z8, z9, z10, z11, z12, z13, z14, z15, z16, z17, z18, z19, z20, z21, z22, z23, z24, z25, z26, z27, z28, z29, z30, z31, z32, z33, z34, z35, z36, z37, z38, z39, z40, z41, z42, z43, z44, z45, z46, z47, z48, z49, z50, z51, z52, z53, z54, z55, z56, z57, z58, z59, z60, z61, z62, z63, z64, z65, z66, z67, z68, z69, z70, z71, z72, z73, z74, z75, z76, z77, z78, z79, z80, z81, z82, z83, z84, z85, z86, z87, z88, z89, z90, z91, z92, z93, z94, z95, z96, z97, z98, z99, z100, z101, z102, z103, z104, z105, z106, z107, z108, z109, z110, z111, z112, z113, z114, z115, z116, z117, z118, z119, z120, z121, z122, z123, z124, z125, z126, z127, z128, z129], []⟩ W := by
  have HC := Aside0.mk hC
  have HN := Aside0.mk hn
  have HBY := Aside0.mk hby
  have HD := Aside0.mk hD
  have H9 := Aside0.mk h9
  have HQ : Aside0 (q = if b = true ∨ refE m ≠ some l then none else some m) := ⟨by rw [hq, refD, hraw]⟩
  obtain ⟨Ae, ne, ce, he, _⟩ := hD.ey
  have HEY := Aside0.mk he
  clear hC hn hby hD h9 hq hraw he
  conv => arg 2; whnf
  go_wp2_with (refine wpList_load_row rfl 27 _ rfl g rfl 27 (mcells m (.slice A8 n8 c8) (.slice A11 n11 c11)) (0, 0) _ HD.out.mb Try.underlying27 rfl size_msg ?_)
  have q8 := Kd.R_reads' HD.out.h8
  have q11 := Kd.R_reads' HD.out.h11
  have hM := refenc_calls m A8 n8 c8 A11 n11 c11 W q8.2.2 q8.1 q8.2.1 q11.2.2 q11.1 q11.2.1 H9.out
  obtain ⟨re, hre⟩ : ∃ re, re = refE m := ⟨_, rfl⟩
  have HRE := Aside0.mk hre
  rw [← hre] at hM HQ
  refine hM.mono ?_
  clear q8 q11 hM hre
  rintro e' W2 ⟨⟨A', n', c', rfl, hn', hc', hC'⟩, hB2⟩
  dsimp only
  have HEY2 := Aside0.mk (blk_below HEY.out hB2)
  have HZ := Aside0.mk (blk_below HD.out.z hB2)
  have HMB := Aside0.mk (blk_below HD.out.mb hB2)
  have HB : Aside0 (Below w.heap.size w W2) := ⟨HD.out.bl.trans (hB2.mono HD.out.bl.size)⟩
  have HE8 : Aside0 (k46.R 46 W2 w.heap.size (fun k => w.heap.size < k) (.slice A8 n8 c8) m.es) := ⟨Kd.R_mono (Kd.R_below HD.out.h8 hB2) (fun k hk => by have := HD.out.ze; have := HD.out.eg; omega)⟩
  have HS11 : Aside0 ((Kd.int .i64).R 3 W2 w.heap.size (fun k => w.heap.size < k) (.slice A11 n11 c11) m.sm) := ⟨Kd.R_mono (Kd.R_below HD.out.h11 hB2) (fun k hk => by have := HD.out.ze; have := HD.out.eg; omega)⟩
  have t2 : W2.cell? ⟨e, 2, none⟩ = some (.bool b) := blk_cell HEY2.out 2
  have HN' := Aside0.mk hn'
  have HC' := Aside0.mk hC'
  clear hn' hc' hC' hB2 HEY HD
  cases b
  · cases re with
    | none =>
      obtain rfl : q = none := by rw [HQ.out]; exact if_pos (.inr (by simp))
      clear HQ HRE HC HC'
      have l1 : ((1 : Int) != 0) = true := by decide
      simp only [Option.isSome_none, Bool.false_eq_true, if_false]
      go_wp2_with (refine wpList_store_row rfl 27 _ _ rfl w.heap.size #[.int .i64 0, .int .i64 0, .int .i64 0, .int .i64 0, .int .i64 0, .int .i64 0, .int .i64 0, .bool false, .slice none 0 0, .int .i64 0, .int .i64 0, .slice none 0 0, .string ⟨#[]⟩] rfl rfl 27 _ HZ.out size_msg rfl (one_cells M0 none 0 0 none 0 0) ?_)
      all_goals exact bodyPost_ret (results_two rfl _ _ w.heap.size 27 #[.int .i64 0, .int .i64 0, .int .i64 0, .int .i64 0, .int .i64 0, .int .i64 0, .int .i64 0, .bool false, .slice none 0 0, .int .i64 0, .int .i64 0, .slice none 0 0, .string ⟨#[]⟩] (0, 0) (.int .i64 7) rfl rfl (setRow_heap _ _ _ _ _ _ HZ.out) Try.underlying27 size_msg) rfl (decQ_none (below_setRow' HB.out (Nat.le_refl _)))
    | some bs =>
      simp only [Option.isSome_some, if_true]
      have hbb : Byt bs := by
        have h := HRE.out
        rw [refE] at h
        split at h
        · cases h
        · cases h; exact rawW_bytes m
      have hC1 := HC'.out
      have hcv1 := Kd.C_string (dst := 9) (c := c') Try.underlying30 Try.underlying5 Try.underlying9 hC1
      have hC2 : (Kd.int .u8).C W2 A n l := by rw [HN.out]; exact Kd.C_below HC.out HB.out
      have hcv2 := Kd.C_string (dst := 9) (c := c) Try.underlying30 Try.underlying5 Try.underlying9 hC2
      clear hC1 hC2 HC HC'
      simp only [Option.getD_some] at hcv1
      by_cases hbl : bs = l
      · subst hbl
        obtain rfl : q = some m := by rw [HQ.out]; exact if_neg (by simp)
        clear HQ HRE hbb HBY
        obtain ⟨s, hs⟩ : ∃ s, s = strOfNums bs := ⟨_, rfl⟩
        rw [← hs] at hcv1 hcv2
        clear hs
        go_wp2_with (first
          | refine wpList_load_row rfl 27 _ rfl g rfl 27 (mcells m (.slice A8 n8 c8) (.slice A11 n11 c11)) (0, 0) _ HMB.out Try.underlying27 rfl size_msg ?_
          | refine wpList_store_row rfl 27 _ _ rfl w.heap.size (mcells m (.slice A8 n8 c8) (.slice A11 n11 c11)) rfl rfl 27 _ HZ.out size_msg rfl (one_cells _ _ _ _ _ _ _) ?_)
        exact bodyPost_ret (results_two rfl _ _ w.heap.size 27 (mcells m (.slice A8 n8 c8) (.slice A11 n11 c11)) (0, 0) (.int .i64 0) rfl rfl (setRow_heap _ _ _ _ _ _ HZ.out) Try.underlying27 size_msg) rfl (decQ_some HE8.out HS11.out (kept_setRow _ _ _) (Nat.le_refl _) (below_setRow' HB.out (Nat.le_refl _)))
      · obtain rfl : q = none := by rw [HQ.out]; exact if_pos (.inr (fun h => hbl (Option.some.inj h)))
        have hne := str_ne hbb HBY.out hbl
        clear HQ HRE hbb HBY
        obtain ⟨s, hs⟩ : ∃ s, s = strOfNums bs := ⟨_, rfl⟩
        rw [← hs] at hcv1 hne
        obtain ⟨s2, hs2⟩ : ∃ s, s = strOfNums l := ⟨_, rfl⟩
        rw [← hs2] at hcv2 hne
        have hs3 : (s.toList == s2.toList) = false := by
          rw [beq_eq_false_iff_ne]; exact fun h => hne (bytes_toList.1 h)
        clear hs hs2 hbl hne
        go_wp2_with (refine wpList_store_row rfl 27 _ _ rfl w.heap.size #[.int .i64 0, .int .i64 0, .int .i64 0, .int .i64 0, .int .i64 0, .int .i64 0, .int .i64 0, .bool false, .slice none 0 0, .int .i64 0, .int .i64 0, .slice none 0 0, .string ⟨#[]⟩] rfl rfl 27 _ HZ.out size_msg rfl (one_cells M0 none 0 0 none 0 0) ?_)
        all_goals exact bodyPost_ret (results_two rfl _ _ w.heap.size 27 #[.int .i64 0, .int .i64 0, .int .i64 0, .int .i64 0, .int .i64 0, .int .i64 0, .int .i64 0, .bool false, .slice none 0 0, .int .i64 0, .int .i64 0, .slice none 0 0, .string ⟨#[]⟩] (0, 0) (.int .i64 7) rfl rfl (setRow_heap _ _ _ _ _ _ HZ.out) Try.underlying27 size_msg) rfl (decQ_none (below_setRow' HB.out (Nat.le_refl _)))
  · obtain rfl : q = none := by rw [HQ.out]; exact if_pos (.inl rfl)
    clear HQ HRE HC HC'
    go_wp2_with (refine wpList_store_row rfl 27 _ _ rfl w.heap.size #[.int .i64 0, .int .i64 0, .int .i64 0, .int .i64 0, .int .i64 0, .int .i64 0, .int .i64 0, .bool false, .slice none 0 0, .int .i64 0, .int .i64 0, .slice none 0 0, .string ⟨#[]⟩] rfl rfl 27 _ HZ.out size_msg rfl (one_cells M0 none 0 0 none 0 0) ?_)
    all_goals exact bodyPost_ret (results_two rfl _ _ w.heap.size 27 #[.int .i64 0, .int .i64 0, .int .i64 0, .int .i64 0, .int .i64 0, .int .i64 0, .int .i64 0, .bool false, .slice none 0 0, .int .i64 0, .int .i64 0, .slice none 0 0, .string ⟨#[]⟩] (0, 0) (.int .i64 7) rfl rfl (setRow_heap _ _ _ _ _ _ HZ.out) Try.underlying27 size_msg) rfl (decQ_none (below_setRow' HB.out (Nat.le_refl _)))
end Go.Proofs.Ytbemfgpdfacdpaa.Ms
namespace Go.Proofs.Ytbemfgpdfacdpaa.Ms
open Go.RowKit Go.Proofs.Ytbemfgpdfacdpaa.Pr Go.Proofs.YtbemfgpdfacdpaaW.PrintWords Go.Proofs.YtbemfgpdfacdpaaW.PrintLast Go.Proofs.YtbemfgpdfacdpaaW.PrintMore
set_option linter.unusedVariables false
set_option linter.unusedSimpArgs false
set_option maxHeartbeats 16000000 in
set_option maxRecDepth 100000 in
theorem elimD (A : Option Addr) (n c : Nat) (w : World) (g e : Nat) {ts : Array Value} {Q : Array Value → Prop} (h : ∃ z1 z6 z7 z8 z9 z10 z11 z12 z13 z14 z15 z16 z17 z18 z19 z20 z21 z22 z23 z24 z25 z26 z27 z28 z29 z30 z31 z32 z33 z34 z35 z36 z37 z38 z39 z40 z41 z42 z43 z44 z45 z46 z47 z48 z49 z50 z51 z52 z53 z54 z55 z56 z57 z58 z59 z60 z61 z62 z63 z64 z65 z66 z67 z68 z69 z70 z71 z72 z73 z74 z75 z76 z77 z78 z79 z80 z81 z82 z83 z84 z85 z86 z87 z88 z89 z90 z91 z92 z93 z94 z95 z96 z97 z98 z99 z100 z101 z102 z103 z104 z105 z106 z107 z108 z109 z110 z111 z112 z113 z114 z115 z116 z117 z118 z119 z120 z121 z122 z123 z124 z125 z126 z127 z128 z129, ts = #[.slice A n c, z1, .pointer (some ⟨w.heap.size, 0, none⟩), .int .i64 0, .pointer (some ⟨e, 0, none⟩), .pointer (some ⟨g, 0, none⟩), z6, z7, z8, z9, z10, z11, z12, z13, z14, z15, z16, z17, z18, z19, z20, z21, z22, z23, z24, z25, z26, z27, z28, z29, z30, z31, z32, z33, z34, z35, z36, z37, z38, z39, z40, z41, z42, z43, z44, z45, z46, z47, z48, z49, z50, z51, z52, z53, z54, z55, z56, z57, z58, z59, z60, z61, z62, z63, z64, z65, z66, z67, z68, z69, z70, z71, z72, z73, z74, z75, z76, z77, z78, z79, z80, z81, z82, z83, z84, z85, z86, z87, z88, z89, z90, z91, z92, z93, z94, z95, z96, z97, z98, z99, z100, z101, z102, z103, z104, z105, z106, z107, z108, z109, z110, z111, z112, z113, z114, z115, z116, z117, z118, z119, z120, z121, z122, z123, z124, z125, z126, z127, z128, z129]) (k : ∀ z1 z6 z7 z8 z9 z10 z11 z12 z13 z14 z15 z16 z17 z18 z19 z20 z21 z22 z23 z24 z25 z26 z27 z28 z29 z30 z31 z32 z33 z34 z35 z36 z37 z38 z39 z40 z41 z42 z43 z44 z45 z46 z47 z48 z49 z50 z51 z52 z53 z54 z55 z56 z57 z58 z59 z60 z61 z62 z63 z64 z65 z66 z67 z68 z69 z70 z71 z72 z73 z74 z75 z76 z77 z78 z79 z80 z81 z82 z83 z84 z85 z86 z87 z88 z89 z90 z91 z92 z93 z94 z95 z96 z97 z98 z99 z100 z101 z102 z103 z104 z105 z106 z107 z108 z109 z110 z111 z112 z113 z114 z115 z116 z117 z118 z119 z120 z121 z122 z123 z124 z125 z126 z127 z128 z129 : Value, Q #[.slice A n c, z1, .pointer (some ⟨w.heap.size, 0, none⟩), .int .i64 0, .pointer (some ⟨e, 0, none⟩), .pointer (some ⟨g, 0, none⟩), z6, z7, z8, z9, z10, z11, z12, z13, z14, z15, z16, z17, z18, z19, z20, z21, z22, z23, z24, z25, z26, z27, z28, z29, z30, z31, z32, z33, z34, z35, z36, z37, z38, z39, z40, z41, z42, z43, z44, z45, z46, z47, z48, z49, z50, z51, z52, z53, z54, z55, z56, z57, z58, z59, z60, z61, z62, z63, z64, z65, z66, z67, z68, z69, z70, z71, z72, z73, z74, z75, z76, z77, z78, z79, z80, z81, z82, z83, z84, z85, z86, z87, z88, z89, z90, z91, z92, z93, z94, z95, z96, z97, z98, z99, z100, z101, z102, z103, z104, z105, z106, z107, z108, z109, z110, z111, z112, z113, z114, z115, z116, z117, z118, z119, z120, z121, z122, z123, z124, z125, z126, z127, z128, z129]) : Q ts :=
  h.elim fun z1 h => h.elim fun z6 h => h.elim fun z7 h => h.elim fun z8 h => h.elim fun z9 h => h.elim fun z10 h => h.elim fun z11 h => h.elim fun z12 h => h.elim fun z13 h => h.elim fun z14 h => h.elim fun z15 h => h.elim fun z16 h => h.elim fun z17 h => h.elim fun z18 h => h.elim fun z19 h => h.elim fun z20 h => h.elim fun z21 h => h.elim fun z22 h => h.elim fun z23 h => h.elim fun z24 h => h.elim fun z25 h => h.elim fun z26 h => h.elim fun z27 h => h.elim fun z28 h => h.elim fun z29 h => h.elim fun z30 h => h.elim fun z31 h => h.elim fun z32 h => h.elim fun z33 h => h.elim fun z34 h => h.elim fun z35 h => h.elim fun z36 h => h.elim fun z37 h => h.elim fun z38 h => h.elim fun z39 h => h.elim fun z40 h => h.elim fun z41 h => h.elim fun z42 h => h.elim fun z43 h => h.elim fun z44 h => h.elim fun z45 h => h.elim fun z46 h => h.elim fun z47 h => h.elim fun z48 h => h.elim fun z49 h => h.elim fun z50 h => h.elim fun z51 h => h.elim fun z52 h => h.elim fun z53 h => h.elim fun z54 h => h.elim fun z55 h => h.elim fun z56 h => h.elim fun z57 h => h.elim fun z58 h => h.elim fun z59 h => h.elim fun z60 h => h.elim fun z61 h => h.elim fun z62 h => h.elim fun z63 h => h.elim fun z64 h => h.elim fun z65 h => h.elim fun z66 h => h.elim fun z67 h => h.elim fun z68 h => h.elim fun z69 h => h.elim fun z70 h => h.elim fun z71 h => h.elim fun z72 h => h.elim fun z73 h => h.elim fun z74 h => h.elim fun z75 h => h.elim fun z76 h => h.elim fun z77 h => h.elim fun z78 h => h.elim fun z79 h => h.elim fun z80 h => h.elim fun z81 h => h.elim fun z82 h => h.elim fun z83 h => h.elim fun z84 h => h.elim fun z85 h => h.elim fun z86 h => h.elim fun z87 h => h.elim fun z88 h => h.elim fun z89 h => h.elim fun z90 h => h.elim fun z91 h => h.elim fun z92 h => h.elim fun z93 h => h.elim fun z94 h => h.elim fun z95 h => h.elim fun z96 h => h.elim fun z97 h => h.elim fun z98 h => h.elim fun z99 h => h.elim fun z100 h => h.elim fun z101 h => h.elim fun z102 h => h.elim fun z103 h => h.elim fun z104 h => h.elim fun z105 h => h.elim fun z106 h => h.elim fun z107 h => h.elim fun z108 h => h.elim fun z109 h => h.elim fun z110 h => h.elim fun z111 h => h.elim fun z112 h => h.elim fun z113 h => h.elim fun z114 h => h.elim fun z115 h => h.elim fun z116 h => h.elim fun z117 h => h.elim fun z118 h => h.elim fun z119 h => h.elim fun z120 h => h.elim fun z121 h => h.elim fun z122 h => h.elim fun z123 h => h.elim fun z124 h => h.elim fun z125 h => h.elim fun z126 h => h.elim fun z127 h => h.elim fun z128 h => h.elim fun z129 h => Eq.subst (motive := Q) h.symm (k z1 z6 z7 z8 z9 z10 z11 z12 z13 z14 z15 z16 z17 z18 z19 z20 z21 z22 z23 z24 z25 z26 z27 z28 z29 z30 z31 z32 z33 z34 z35 z36 z37 z38 z39 z40 z41 z42 z43 z44 z45 z46 z47 z48 z49 z50 z51 z52 z53 z54 z55 z56 z57 z58 z59 z60 z61 z62 z63 z64 z65 z66 z67 z68 z69 z70 z71 z72 z73 z74 z75 z76 z77 z78 z79 z80 z81 z82 z83 z84 z85 z86 z87 z88 z89 z90 z91 z92 z93 z94 z95 z96 z97 z98 z99 z100 z101 z102 z103 z104 z105 z106 z107 z108 z109 z110 z111 z112 z113 z114 z115 z116 z117 z118 z119 z120 z121 z122 z123 z124 z125 z126 z127 z128 z129)
set_option maxHeartbeats 16000000 in
set_option maxRecDepth 100000 in
theorem refdec_head (A : Option Addr) (n c : Nat) (l : List Int) (w : World) (hC : (Kd.int .u8).C w A l.length l) (hn : n = l.length) (hc : n ≤ c) (hby : Byt l) (hl : l.length ≤ 1000000) (q : Option M13)
    (hT : ∀ (g e : Nat) (W : World) (k f t u : Int) (i : Nat) (b : Bool), DS w W g e l ⟨k, f, t, u, 0, 0, 0, false, [], 0, 0, [], ⟨#[]⟩⟩ (.slice none 0 0) (.slice none 0 0) i b → rawE l = ebodyP k f t u l i b → ∀ ts : Array Value, (∃ z1 z6 z7 z8 z9 z10 z11 z12 z13 z14 z15 z16 z17 z18 z19 z20 z21 z22 z23 z24 z25 z26 z27 z28 z29 z30 z31 z32 z33 z34 z35 z36 z37 z38 z39 z40 z41 z42 z43 z44 z45 z46 z47 z48 z49 z50 z51 z52 z53 z54 z55 z56 z57 z58 z59 z60 z61 z62 z63 z64 z65 z66 z67 z68 z69 z70 z71 z72 z73 z74 z75 z76 z77 z78 z79 z80 z81 z82 z83 z84 z85 z86 z87 z88 z89 z90 z91 z92 z93 z94 z95 z96 z97 z98 z99 z100 z101 z102 z103 z104 z105 z106 z107 z108 z109 z110 z111 z112 z113 z114 z115 z116 z117 z118 z119 z120 z121 z122 z123 z124 z125 z126 z127 z128 z129, ts = #[.slice A n c, z1, .pointer (some ⟨w.heap.size, 0, none⟩), .int .i64 0, .pointer (some ⟨e, 0, none⟩), .pointer (some ⟨g, 0, none⟩), z6, z7, z8, z9, z10, z11, z12, z13, z14, z15, z16, z17, z18, z19, z20, z21, z22, z23, z24, z25, z26, z27, z28, z29, z30, z31, z32, z33, z34, z35, z36, z37, z38, z39, z40, z41, z42, z43, z44, z45, z46, z47, z48, z49, z50, z51, z52, z53, z54, z55, z56, z57, z58, z59, z60, z61, z62, z63, z64, z65, z66, z67, z68, z69, z70, z71, z72, z73, z74, z75, z76, z77, z78, z79, z80, z81, z82, z83, z84, z85, z86, z87, z88, z89, z90, z91, z92, z93, z94, z95, z96, z97, z98, z99, z100, z101, z102, z103, z104, z105, z106, z107, z108, z109, z110, z111, z112, z113, z114, z115, z116, z117, z118, z119, z120, z121, z122, z123, z124, z125, z126, z127, z128, z129]) → Code.wp Try.prog (decT 3) (bodyPost Try.prog Try.f14 (DecQ w q)) ⟨ts, []⟩ W) :
    Calls Try.prog 14 #[.slice A n c] w (DecQ w q) := by
  have HC := Aside0.mk hC
  have HN := Aside0.mk hn
  have HBY := Aside0.mk hby
  have HL := Aside0.mk hl
  have HT := Aside0.mk hT
  clear hC hn hby hl hT
  go_enter Try.func14, Try.ntmps14
  go_upto_region 2 with (fail)
  rename_i K1 hK1
  have HK1 := Aside0.mk hK1
  clear hK1
  go_wp2_with fail
  generalize hw1 : World.alloc (World.alloc w _) _ = w1
  obtain ⟨e, he⟩ : ∃ e, e = w.heap.size + 1 := ⟨_, rfl⟩
  rw [← he]
  have HE0 : Aside0 (w.heap.size ≤ e) := ⟨by omega⟩
  have HZE : Aside0 (w.heap.size < e) := ⟨by omega⟩
  have HE1 : Aside0 (Ey w w1 e l 0 false) := ⟨⟨A, n, c, by rw [← hw1, he]; exact blk_here _ _ (by simp), HN.out, hc, HC.out, HL.out, Nat.zero_le _⟩⟩
  have HZ1 : Aside0 (w1.heap[w.heap.size]? = some (.cells (mcells M0 (.slice none 0 0) (.slice none 0 0)) 27 (0, 0))) := ⟨by rw [← hw1]; exact blk_alloc (blk_new w _) _⟩
  have HB1 : Aside0 (Below w.heap.size w w1) := ⟨by rw [← hw1]; exact below_alloc (below_alloc (Below.refl _ _) _) _⟩
  clear hw1 he HC
  refine (enum_calls w w1 e l 0 false 1 HB1.out HE0.out HE1.out HBY.out (by decide)).mono ?_
  rintro e' w2 ⟨rfl, hE, hK, hB⟩
  dsimp only
  obtain ⟨r, hr⟩ : ∃ r, r = enumP l 0 false 1 := ⟨_, rfl⟩
  rw [← hr] at hE ⊢
  obtain ⟨k, i1, b1⟩ := r
  have HV1 := Aside0.mk hr
  have HE2 := Aside0.mk hE
  have HB2 := Aside0.mk hB
  have HZ2 := Aside0.mk (blk_kept HZ1.out hK (by have := HZE.out; omega))
  clear hr hE hK hB HE1 HB1 HZ1
  go_wp2_with fail
  refine (enum_calls w w2 e l i1 b1 8 HB2.out HE0.out HE2.out HBY.out (by decide)).mono ?_
  rintro e' w3 ⟨rfl, hE, hK, hB⟩
  dsimp only
  obtain ⟨r, hr⟩ : ∃ r, r = enumP l i1 b1 8 := ⟨_, rfl⟩
  rw [← hr] at hE ⊢
  obtain ⟨f, i2, b2⟩ := r
  have HV2 := Aside0.mk hr
  have HE3 := Aside0.mk hE
  have HB3 := Aside0.mk hB
  have HZ3 := Aside0.mk (blk_kept HZ2.out hK (by have := HZE.out; omega))
  clear hr hE hK hB HE2 HB2 HZ2
  go_wp2_with fail
  refine (enum_calls w w3 e l i2 b2 8 HB3.out HE0.out HE3.out HBY.out (by decide)).mono ?_
  rintro e' w4 ⟨rfl, hE, hK, hB⟩
  dsimp only
  obtain ⟨r, hr⟩ : ∃ r, r = enumP l i2 b2 8 := ⟨_, rfl⟩
  rw [← hr] at hE ⊢
  obtain ⟨t, i3, b3⟩ := r
  have HV3 := Aside0.mk hr
  have HE4 := Aside0.mk hE
  have HB4 := Aside0.mk hB
  have HZ4 := Aside0.mk (blk_kept HZ3.out hK (by have := HZE.out; omega))
  clear hr hE hK hB HE3 HB3 HZ3
  go_wp2_with fail
  refine (enum_calls w w4 e l i3 b3 8 HB4.out HE0.out HE4.out HBY.out (by decide)).mono ?_
  rintro e' w5 ⟨rfl, hE, hK, hB⟩
  dsimp only
  obtain ⟨r, hr⟩ : ∃ r, r = enumP l i3 b3 8 := ⟨_, rfl⟩
  rw [← hr] at hE ⊢
  obtain ⟨u, i4, b4⟩ := r
  have HV4 := Aside0.mk hr
  have HE5 := Aside0.mk hE
  have HB5 := Aside0.mk hB
  have HZ5 := Aside0.mk (blk_kept HZ4.out hK (by have := HZE.out; omega))
  clear hr hE hK hB HE4 HB4 HZ4
  have HRAW : Aside0 (rawE l = ebodyP k f t u l i4 b4) := ⟨by
    rw [rawE]
    simp only [e3P, ← HV1.out, ← HV2.out, ← HV3.out, ← HV4.out]⟩
  clear HV1 HV2 HV3 HV4
  go_wp2
  refine HK1.out _ _ ?_
  refine HT.out w5.heap.size e (w5.alloc _) k f t u i4 b4 ⟨blk_alloc HZ5.out _, blk_new _ _, HE5.out.kept (S := fun _ => False) ((Kept.refl _ _).alloc _) (fun h => h), below_alloc HB5.out _, Kd.R_nil _ _ _ _ _, Kd.R_nil _ _ _ _ _, HZE.out, HE5.out.lt⟩ HRAW.out _ ⟨_, _, _, _, _, _, _, _, _, _, _, _, _, _, _, _, _, _, _, _, _, _, _, _, _, _, _, _, _, _, _, _, _, _, _, _, _, _, _, _, _, _, _, _, _, _, _, _, _, _, _, _, _, _, _, _, _, _, _, _, _, _, _, _, _, _, _, _, _, _, _, _, _, _, _, _, _, _, _, _, _, _, _, _, _, _, _, _, _, _, _, _, _, _, _, _, _, _, _, _, _, _, _, _, _, _, _, _, _, _, _, _, _, _, _, _, _, _, _, _, _, _, _, _, _, rfl⟩
end Go.Proofs.Ytbemfgpdfacdpaa.Ms
namespace Go.Proofs.Ytbemfgpdfacdpaa.Ms
open Go.RowKit Go.Proofs.Ytbemfgpdfacdpaa.Pr Go.Proofs.YtbemfgpdfacdpaaW.PrintWords Go.Proofs.YtbemfgpdfacdpaaW.PrintLast Go.Proofs.YtbemfgpdfacdpaaW.PrintMore
set_option linter.unusedVariables false
set_option linter.unusedSimpArgs false
theorem ebodyP_1 (f t n : Int) (l : List Int) (i : Nat) (b : Bool) : ebodyP 1 f t n l i b = (⟨1, f, t, n, (e2P l i b).1, (e2P l i b).2.1, 0, false, [], 0, 0, [], ⟨#[]⟩⟩, (e2P l i b).2.2) := rfl
theorem ebodyP_2 (f t n : Int) (l : List Int) (i : Nat) (b : Bool) : ebodyP 2 f t n l i b = (⟨2, f, t, n, 0, 0, 0, (eyesP l i b).1, [], 0, 0, [], ⟨#[]⟩⟩, (eyesP l i b).2) := rfl
theorem ebodyP_3 (f t n : Int) (l : List Int) (i : Nat) (b : Bool) : ebodyP 3 f t n l i b = (⟨3, f, t, n, (e3P l i b).1, (e3P l i b).2.1, (e3P l i b).2.2.1, false, (eentsP l (e3P l i b).2.2.2.1 (e3P l i b).2.2.2.2).1, 0, 0, [], ⟨#[]⟩⟩, (eentsP l (e3P l i b).2.2.2.1 (e3P l i b).2.2.2.2).2) := rfl
theorem ebodyP_4 (f t n : Int) (l : List Int) (i : Nat) (b : Bool) : ebodyP 4 f t n l i b = (⟨4, f, t, n, (enumP l (eyesP l i b).2.1 (eyesP l i b).2.2 8).1, 0, 0, (eyesP l i b).1, [], 0, 0, [], ⟨#[]⟩⟩, (enumP l (eyesP l i b).2.1 (eyesP l i b).2.2 8).2) := rfl
theorem ebodyP_5 (f t n : Int) (l : List Int) (i : Nat) (b : Bool) : ebodyP 5 f t n l i b = (⟨5, f, t, n, 0, 0, 0, false, [], (e2P l i b).1, (e2P l i b).2.1, (eintsP l (e2P l i b).2.2.1 (e2P l i b).2.2.2).1, (etextP l (eintsP l (e2P l i b).2.2.1 (e2P l i b).2.2.2).2.1 (eintsP l (e2P l i b).2.2.1 (e2P l i b).2.2.2).2.2).1⟩, (etextP l (eintsP l (e2P l i b).2.2.1 (e2P l i b).2.2.2).2.1 (eintsP l (e2P l i b).2.2.1 (e2P l i b).2.2.2).2.2).2) := rfl
set_option maxHeartbeats 16000000 in
set_option maxRecDepth 100000 in
theorem refdec_k1 (A : Option Addr) (n c : Nat) (l : List Int) (w : World) (hC : (Kd.int .u8).C w A l.length l) (hn : n = l.length) (hc : n ≤ c) (hby : Byt l) (hl : l.length ≤ 1000000) (q : Option M13) (hq : q = refD l) (g e : Nat) (W0 : World) (f t u : Int) (i : Nat) (b : Bool) (hD : DS w W0 g e l ⟨1, f, t, u, 0, 0, 0, false, [], 0, 0, [], ⟨#[]⟩⟩ (.slice none 0 0) (.slice none 0 0) i b) (hraw : rawE l = ebodyP (1 : Int) f t u l i b)
    (z1 z6 z7 z8 z9 z10 z11 z12 z13 z14 z15 z16 z17 z18 z19 z20 z21 z22 z23 z24 z25 z26 z27 z28 z29 z30 z31 z32 z33 z34 z35 z36 z37 z38 z39 z40 z41 z42 z43 z44 z45 z46 z47 z48 z49 z50 z51 z52 z53 z54 z55 z56 z57 z58 z59 z60 z61 z62 z63 z64 z65 z66 z67 z68 z69 z70 z71 z72 z73 z74 z75 z76 z77 z78 z79 z80 z81 z82 z83 z84 z85 z86 z87 z88 z89 z90 z91 z92 z93 z94 z95 z96 z97 z98 z99 z100 z101 z102 z103 z104 z105 z106 z107 z108 z109 z110 z111 z112 z113 z114 z115 z116 z117 z118 z119 z120 z121 z122 z123 z124 z125 z126 z127 z128 z129 : Value) : Code.wp Try.prog (decT 3) (bodyPost Try.prog Try.f14 (DecQ w q)) ⟨#[.slice A n c, z1, .pointer (some ⟨w.heap.size, 0, none⟩), .int .i64 0, .pointer (some ⟨e, 0, none⟩), .pointer (some ⟨g, 0, none⟩), z6, z7, z8, z9, z10, z11, z12, z13, z14, z15, z16, z17, z18, z19, z20, z21, z22, z23, z24, z25, z26, z27, z28, z29, z30, z31, z32, z33, z34, z35, z36, z37, z38, z39, z40, z41, z42, z43, z44, z45, z46, z47, z48, z49, z50, z51, z52, z53, z54, z55, z56, z57, z58, z59, z60, z61, z62, z63, z64, z65, z66, z67, z68, z69, z70, z71, z72, z73, z74, z75, z76, z77, z78, z79, z80, z81, z82, z83, z84, z85, z86, z87, z88, z89, z90, z91, z92, z93, z94, z95, z96, z97, z98, z99, z100, z101, z102, z103, z104, z105, z106, z107, z108, z109, z110, z111, z112, z113, z114, z115, z116, z117, z118, z119, z120, z121, z122, z123, z124, z125, z126, z127, z128, z129], []⟩ W0 := by
  have HC := Aside0.mk hC
  have HN := Aside0.mk hn
  have HBY := Aside0.mk hby
  have HL := Aside0.mk hl
  have HQ := Aside0.mk hq
  have HRAW := Aside0.mk hraw
  have D0 := Aside0.mk hD
  have HE0 : Aside0 (w.heap.size ≤ e) := ⟨by have := hD.ze; omega⟩
  have c0 : W0.cell? ⟨g, 0, none⟩ = some (.int .i64 1) := hD.cell 0
  clear hC hn hby hl hq hraw hD
  conv => arg 2; whnf
  go_upto_region 3 with (fail)
  rename_i K1 hK1 K2 hK2
  have HK1 := Aside0.mk hK1
  clear hK1
  go_wp2_with fail
  refine (enum_calls w W0 e l i b 8 D0.out.bl HE0.out D0.out.ey HBY.out (by decide)).mono ?_
  rintro e' V0 ⟨rfl, hE, hK, hB⟩
  dsimp only
  obtain ⟨r, hr⟩ : ∃ r, r = enumP l i b 8 := ⟨_, rfl⟩
  rw [← hr] at hE ⊢
  obtain ⟨x1, i1, b1⟩ := r
  have HV1 := Aside0.mk hr
  have D' := D0.out.call hE hK hB
  have c4 : V0.cell? ⟨g, 4, none⟩ = some (.int .i64 0) := D'.cell 4
  have f4 := blk_frozen D'.mb 4
  obtain ⟨W1, hW⟩ : ∃ W, W = V0.setCell ⟨g, 4, none⟩ (.int .i64 x1) := ⟨_, rfl⟩
  have D1 : Aside0 (DS w W1 g e l ⟨1, f, t, u, x1, 0, 0, false, [], 0, 0, [], ⟨#[]⟩⟩ (.slice none 0 0) (.slice none 0 0) i1 b1) := ⟨by rw [hW]; exact D'.put 4 _ _ _ _ rfl D'.h8 D'.h11⟩
  have HW1 := Aside0.mk hW
  clear hr hE hK hB D' D0 hW
  go_upto_region 6 with (fail)
  rw [← HW1.out]
  clear HW1 c4 f4
  go_wp2_with fail
  refine (enum_calls w W1 e l i1 b1 8 D1.out.bl HE0.out D1.out.ey HBY.out (by decide)).mono ?_
  rintro e' V1 ⟨rfl, hE, hK, hB⟩
  dsimp only
  obtain ⟨r, hr⟩ : ∃ r, r = enumP l i1 b1 8 := ⟨_, rfl⟩
  rw [← hr] at hE ⊢
  obtain ⟨x2, i2, b2⟩ := r
  have HV2 := Aside0.mk hr
  have D' := D1.out.call hE hK hB
  have c5 : V1.cell? ⟨g, 5, none⟩ = some (.int .i64 0) := D'.cell 5
  have f5 := blk_frozen D'.mb 5
  obtain ⟨W2, hW⟩ : ∃ W, W = V1.setCell ⟨g, 5, none⟩ (.int .i64 x2) := ⟨_, rfl⟩
  have D2 : Aside0 (DS w W2 g e l ⟨1, f, t, u, x1, x2, 0, false, [], 0, 0, [], ⟨#[]⟩⟩ (.slice none 0 0) (.slice none 0 0) i2 b2) := ⟨by rw [hW]; exact D'.put 5 _ _ _ _ rfl D'.h8 D'.h11⟩
  have HW2 := Aside0.mk hW
  clear hr hE hK hB D' D1 hW
  go_wp2
  refine HK1.out _ _ ?_
  rw [← HW2.out]
  exact refdec_tail w _ g e l ⟨1, f, t, u, x1, x2, 0, false, [], 0, 0, [], ⟨#[]⟩⟩ none 0 0 none 0 0 i2 b2 A n c q HC.out HN.out hc HBY.out D2.out (fun x hx => by cases hx) (by rw [HRAW.out, ebodyP_1]; simp only [e2P, e3P, ← HV1.out, ← HV2.out]) HQ.out _ _ _ _ _ _ _ _ _ _ _ _ _ _ _ _ _ _ _ _ _ _ _ _ _ _ _ _ _ _ _ _ _ _ _ _ _ _ _ _ _ _ _ _ _ _ _ _ _ _ _ _ _ _ _ _ _ _ _ _ _ _ _ _ _ _ _ _ _ _ _ _ _ _ _ _ _ _ _ _ _ _ _ _ _ _ _ _ _ _ _ _ _ _ _ _ _ _ _ _ _ _ _ _ _ _ _ _ _ _ _ _ _ _ _ _ _ _ _ _ _ _ _ _ _
set_option maxHeartbeats 16000000 in
set_option maxRecDepth 100000 in
theorem refdec_k2 (A : Option Addr) (n c : Nat) (l : List Int) (w : World) (hC : (Kd.int .u8).C w A l.length l) (hn : n = l.length) (hc : n ≤ c) (hby : Byt l) (hl : l.length ≤ 1000000) (q : Option M13) (hq : q = refD l) (g e : Nat) (W0 : World) (f t u : Int) (i : Nat) (b : Bool) (hD : DS w W0 g e l ⟨2, f, t, u, 0, 0, 0, false, [], 0, 0, [], ⟨#[]⟩⟩ (.slice none 0 0) (.slice none 0 0) i b) (hraw : rawE l = ebodyP (2 : Int) f t u l i b)
    (z1 z6 z7 z8 z9 z10 z11 z12 z13 z14 z15 z16 z17 z18 z19 z20 z21 z22 z23 z24 z25 z26 z27 z28 z29 z30 z31 z32 z33 z34 z35 z36 z37 z38 z39 z40 z41 z42 z43 z44 z45 z46 z47 z48 z49 z50 z51 z52 z53 z54 z55 z56 z57 z58 z59 z60 z61 z62 z63 z64 z65 z66 z67 z68 z69 z70 z71 z72 z73 z74 z75 z76 z77 z78 z79 z80 z81 z82 z83 z84 z85 z86 z87 z88 z89 z90 z91 z92 z93 z94 z95 z96 z97 z98 z99 z100 z101 z102 z103 z104 z105 z106 z107 z108 z109 z110 z111 z112 z113 z114 z115 z116 z117 z118 z119 z120 z121 z122 z123 z124 z125 z126 z127 z128 z129 : Value) : Code.wp Try.prog (decT 3) (bodyPost Try.prog Try.f14 (DecQ w q)) ⟨#[.slice A n c, z1, .pointer (some ⟨w.heap.size, 0, none⟩), .int .i64 0, .pointer (some ⟨e, 0, none⟩), .pointer (some ⟨g, 0, none⟩), z6, z7, z8, z9, z10, z11, z12, z13, z14, z15, z16, z17, z18, z19, z20, z21, z22, z23, z24, z25, z26, z27, z28, z29, z30, z31, z32, z33, z34, z35, z36, z37, z38, z39, z40, z41, z42, z43, z44, z45, z46, z47, z48, z49, z50, z51, z52, z53, z54, z55, z56, z57, z58, z59, z60, z61, z62, z63, z64, z65, z66, z67, z68, z69, z70, z71, z72, z73, z74, z75, z76, z77, z78, z79, z80, z81, z82, z83, z84, z85, z86, z87, z88, z89, z90, z91, z92, z93, z94, z95, z96, z97, z98, z99, z100, z101, z102, z103, z104, z105, z106, z107, z108, z109, z110, z111, z112, z113, z114, z115, z116, z117, z118, z119, z120, z121, z122, z123, z124, z125, z126, z127, z128, z129], []⟩ W0 := by
  have HC := Aside0.mk hC
  have HN := Aside0.mk hn
  have HBY := Aside0.mk hby
  have HL := Aside0.mk hl
  have HQ := Aside0.mk hq
  have HRAW := Aside0.mk hraw
  have D0 := Aside0.mk hD
  have HE0 : Aside0 (w.heap.size ≤ e) := ⟨by have := hD.ze; omega⟩
  have c0 : W0.cell? ⟨g, 0, none⟩ = some (.int .i64 2) := hD.cell 0
  clear hC hn hby hl hq hraw hD
  conv => arg 2; whnf
  go_upto_region 3 with (fail)
  rename_i K1 hK1 K2 hK2
  have HK1 := Aside0.mk hK1
  clear hK1
  go_wp2_with fail
  refine (eyes_calls w W0 e l i b D0.out.bl HE0.out D0.out.ey HBY.out).mono ?_
  rintro e' V0 ⟨rfl, hE, hK, hB⟩
  dsimp only
  obtain ⟨r, hr⟩ : ∃ r, r = eyesP l i b := ⟨_, rfl⟩
  rw [← hr] at hE ⊢
  obtain ⟨x1, i1, b1⟩ := r
  have HV1 := Aside0.mk hr
  have D' := D0.out.call hE hK hB
  have c7 : V0.cell? ⟨g, 7, none⟩ = some (.bool false) := D'.cell 7
  have f7 := blk_frozen D'.mb 7
  obtain ⟨W1, hW⟩ : ∃ W, W = V0.setCell ⟨g, 7, none⟩ (.bool x1) := ⟨_, rfl⟩
  have D1 : Aside0 (DS w W1 g e l ⟨2, f, t, u, 0, 0, 0, x1, [], 0, 0, [], ⟨#[]⟩⟩ (.slice none 0 0) (.slice none 0 0) i1 b1) := ⟨by rw [hW]; exact D'.put 7 _ _ _ _ rfl D'.h8 D'.h11⟩
  have HW1 := Aside0.mk hW
  clear hr hE hK hB D' D0 hW
  go_wp2
  refine HK1.out _ _ ?_
  rw [← HW1.out]
  exact refdec_tail w _ g e l ⟨2, f, t, u, 0, 0, 0, x1, [], 0, 0, [], ⟨#[]⟩⟩ none 0 0 none 0 0 i1 b1 A n c q HC.out HN.out hc HBY.out D1.out (fun x hx => by cases hx) (by rw [HRAW.out, ebodyP_2]; simp only [e2P, e3P, ← HV1.out]) HQ.out _ _ _ _ _ _ _ _ _ _ _ _ _ _ _ _ _ _ _ _ _ _ _ _ _ _ _ _ _ _ _ _ _ _ _ _ _ _ _ _ _ _ _ _ _ _ _ _ _ _ _ _ _ _ _ _ _ _ _ _ _ _ _ _ _ _ _ _ _ _ _ _ _ _ _ _ _ _ _ _ _ _ _ _ _ _ _ _ _ _ _ _ _ _ _ _ _ _ _ _ _ _ _ _ _ _ _ _ _ _ _ _ _ _ _ _ _ _ _ _ _ _ _ _ _
set_option maxHeartbeats 16000000 in
set_option maxRecDepth 100000 in
theorem refdec_k4 (A : Option Addr) (n c : Nat) (l : List Int) (w : World) (hC : (Kd.int .u8).C w A l.length l) (hn : n = l.length) (hc : n ≤ c) (hby : Byt l) (hl : l.length ≤ 1000000) (q : Option M13) (hq : q = refD l) (g e : Nat) (W0 : World) (f t u : Int) (i : Nat) (b : Bool) (hD : DS w W0 g e l ⟨4, f, t, u, 0, 0, 0, false, [], 0, 0, [], ⟨#[]⟩⟩ (.slice none 0 0) (.slice none 0 0) i b) (hraw : rawE l = ebodyP (4 : Int) f t u l i b)
    (z1 z6 z7 z8 z9 z10 z11 z12 z13 z14 z15 z16 z17 z18 z19 z20 z21 z22 z23 z24 z25 z26 z27 z28 z29 z30 z31 z32 z33 z34 z35 z36 z37 z38 z39 z40 z41 z42 z43 z44 z45 z46 z47 z48 z49 z50 z51 z52 z53 z54 z55 z56 z57 z58 z59 z60 z61 z62 z63 z64 z65 z66 z67 z68 z69 z70 z71 z72 z73 z74 z75 z76 z77 z78 z79 z80 z81 z82 z83 z84 z85 z86 z87 z88 z89 z90 z91 z92 z93 z94 z95 z96 z97 z98 z99 z100 z101 z102 z103 z104 z105 z106 z107 z108 z109 z110 z111 z112 z113 z114 z115 z116 z117 z118 z119 z120 z121 z122 z123 z124 z125 z126 z127 z128 z129 : Value) : Code.wp Try.prog (decT 3) (bodyPost Try.prog Try.f14 (DecQ w q)) ⟨#[.slice A n c, z1, .pointer (some ⟨w.heap.size, 0, none⟩), .int .i64 0, .pointer (some ⟨e, 0, none⟩), .pointer (some ⟨g, 0, none⟩), z6, z7, z8, z9, z10, z11, z12, z13, z14, z15, z16, z17, z18, z19, z20, z21, z22, z23, z24, z25, z26, z27, z28, z29, z30, z31, z32, z33, z34, z35, z36, z37, z38, z39, z40, z41, z42, z43, z44, z45, z46, z47, z48, z49, z50, z51, z52, z53, z54, z55, z56, z57, z58, z59, z60, z61, z62, z63, z64, z65, z66, z67, z68, z69, z70, z71, z72, z73, z74, z75, z76, z77, z78, z79, z80, z81, z82, z83, z84, z85, z86, z87, z88, z89, z90, z91, z92, z93, z94, z95, z96, z97, z98, z99, z100, z101, z102, z103, z104, z105, z106, z107, z108, z109, z110, z111, z112, z113, z114, z115, z116, z117, z118, z119, z120, z121, z122, z123, z124, z125, z126, z127, z128, z129], []⟩ W0 := by
  have HC := Aside0.mk hC
  have HN := Aside0.mk hn
  have HBY := Aside0.mk hby
  have HL := Aside0.mk hl
  have HQ := Aside0.mk hq
  have HRAW := Aside0.mk hraw
  have D0 := Aside0.mk hD
  have HE0 : Aside0 (w.heap.size ≤ e) := ⟨by have := hD.ze; omega⟩
  have c0 : W0.cell? ⟨g, 0, none⟩ = some (.int .i64 4) := hD.cell 0
  clear hC hn hby hl hq hraw hD
  conv => arg 2; whnf
  go_upto_region 3 with (fail)
  rename_i K1 hK1 K2 hK2
  have HK1 := Aside0.mk hK1
  clear hK1
  go_wp2_with fail
  refine (eyes_calls w W0 e l i b D0.out.bl HE0.out D0.out.ey HBY.out).mono ?_
  rintro e' V0 ⟨rfl, hE, hK, hB⟩
  dsimp only
  obtain ⟨r, hr⟩ : ∃ r, r = eyesP l i b := ⟨_, rfl⟩
  rw [← hr] at hE ⊢
  obtain ⟨x1, i1, b1⟩ := r
  have HV1 := Aside0.mk hr
  have D' := D0.out.call hE hK hB
  have c7 : V0.cell? ⟨g, 7, none⟩ = some (.bool false) := D'.cell 7
  have f7 := blk_frozen D'.mb 7
  obtain ⟨W1, hW⟩ : ∃ W, W = V0.setCell ⟨g, 7, none⟩ (.bool x1) := ⟨_, rfl⟩
  have D1 : Aside0 (DS w W1 g e l ⟨4, f, t, u, 0, 0, 0, x1, [], 0, 0, [], ⟨#[]⟩⟩ (.slice none 0 0) (.slice none 0 0) i1 b1) := ⟨by rw [hW]; exact D'.put 7 _ _ _ _ rfl D'.h8 D'.h11⟩
  have HW1 := Aside0.mk hW
  clear hr hE hK hB D' D0 hW
  go_upto_region 23 with (fail)
  rw [← HW1.out]
  clear HW1 c7 f7
  go_wp2_with fail
  refine (enum_calls w W1 e l i1 b1 8 D1.out.bl HE0.out D1.out.ey HBY.out (by decide)).mono ?_
  rintro e' V1 ⟨rfl, hE, hK, hB⟩
  dsimp only
  obtain ⟨r, hr⟩ : ∃ r, r = enumP l i1 b1 8 := ⟨_, rfl⟩
  rw [← hr] at hE ⊢
  obtain ⟨x2, i2, b2⟩ := r
  have HV2 := Aside0.mk hr
  have D' := D1.out.call hE hK hB
  have c4 : V1.cell? ⟨g, 4, none⟩ = some (.int .i64 0) := D'.cell 4
  have f4 := blk_frozen D'.mb 4
  obtain ⟨W2, hW⟩ : ∃ W, W = V1.setCell ⟨g, 4, none⟩ (.int .i64 x2) := ⟨_, rfl⟩
  have D2 : Aside0 (DS w W2 g e l ⟨4, f, t, u, x2, 0, 0, x1, [], 0, 0, [], ⟨#[]⟩⟩ (.slice none 0 0) (.slice none 0 0) i2 b2) := ⟨by rw [hW]; exact D'.put 4 _ _ _ _ rfl D'.h8 D'.h11⟩
  have HW2 := Aside0.mk hW
  clear hr hE hK hB D' D1 hW
  go_wp2
  refine HK1.out _ _ ?_
  rw [← HW2.out]
  exact refdec_tail w _ g e l ⟨4, f, t, u, x2, 0, 0, x1, [], 0, 0, [], ⟨#[]⟩⟩ none 0 0 none 0 0 i2 b2 A n c q HC.out HN.out hc HBY.out D2.out (fun x hx => by cases hx) (by rw [HRAW.out, ebodyP_4]; simp only [e2P, e3P, ← HV1.out, ← HV2.out]) HQ.out _ _ _ _ _ _ _ _ _ _ _ _ _ _ _ _ _ _ _ _ _ _ _ _ _ _ _ _ _ _ _ _ _ _ _ _ _ _ _ _ _ _ _ _ _ _ _ _ _ _ _ _ _ _ _ _ _ _ _ _ _ _ _ _ _ _ _ _ _ _ _ _ _ _ _ _ _ _ _ _ _ _ _ _ _ _ _ _ _ _ _ _ _ _ _ _ _ _ _ _ _ _ _ _ _ _ _ _ _ _ _ _ _ _ _ _ _ _ _ _ _ _ _ _ _
set_option maxHeartbeats 16000000 in
set_option maxRecDepth 100000 in
theorem refdec_k5 (A : Option Addr) (n c : Nat) (l : List Int) (w : World) (hC : (Kd.int .u8).C w A l.length l) (hn : n = l.length) (hc : n ≤ c) (hby : Byt l) (hl : l.length ≤ 1000000) (q : Option M13) (hq : q = refD l) (g e : Nat) (W0 : World) (f t u : Int) (i : Nat) (b : Bool) (hD : DS w W0 g e l ⟨5, f, t, u, 0, 0, 0, false, [], 0, 0, [], ⟨#[]⟩⟩ (.slice none 0 0) (.slice none 0 0) i b) (hraw : rawE l = ebodyP (5 : Int) f t u l i b)
    (z1 z6 z7 z8 z9 z10 z11 z12 z13 z14 z15 z16 z17 z18 z19 z20 z21 z22 z23 z24 z25 z26 z27 z28 z29 z30 z31 z32 z33 z34 z35 z36 z37 z38 z39 z40 z41 z42 z43 z44 z45 z46 z47 z48 z49 z50 z51 z52 z53 z54 z55 z56 z57 z58 z59 z60 z61 z62 z63 z64 z65 z66 z67 z68 z69 z70 z71 z72 z73 z74 z75 z76 z77 z78 z79 z80 z81 z82 z83 z84 z85 z86 z87 z88 z89 z90 z91 z92 z93 z94 z95 z96 z97 z98 z99 z100 z101 z102 z103 z104 z105 z106 z107 z108 z109 z110 z111 z112 z113 z114 z115 z116 z117 z118 z119 z120 z121 z122 z123 z124 z125 z126 z127 z128 z129 : Value) : Code.wp Try.prog (decT 3) (bodyPost Try.prog Try.f14 (DecQ w q)) ⟨#[.slice A n c, z1, .pointer (some ⟨w.heap.size, 0, none⟩), .int .i64 0, .pointer (some ⟨e, 0, none⟩), .pointer (some ⟨g, 0, none⟩), z6, z7, z8, z9, z10, z11, z12, z13, z14, z15, z16, z17, z18, z19, z20, z21, z22, z23, z24, z25, z26, z27, z28, z29, z30, z31, z32, z33, z34, z35, z36, z37, z38, z39, z40, z41, z42, z43, z44, z45, z46, z47, z48, z49, z50, z51, z52, z53, z54, z55, z56, z57, z58, z59, z60, z61, z62, z63, z64, z65, z66, z67, z68, z69, z70, z71, z72, z73, z74, z75, z76, z77, z78, z79, z80, z81, z82, z83, z84, z85, z86, z87, z88, z89, z90, z91, z92, z93, z94, z95, z96, z97, z98, z99, z100, z101, z102, z103, z104, z105, z106, z107, z108, z109, z110, z111, z112, z113, z114, z115, z116, z117, z118, z119, z120, z121, z122, z123, z124, z125, z126, z127, z128, z129], []⟩ W0 := by
  have HC := Aside0.mk hC
  have HN := Aside0.mk hn
  have HBY := Aside0.mk hby
  have HL := Aside0.mk hl
  have HQ := Aside0.mk hq
  have HRAW := Aside0.mk hraw
  have D0 := Aside0.mk hD
  have HE0 : Aside0 (w.heap.size ≤ e) := ⟨by have := hD.ze; omega⟩
  have c0 : W0.cell? ⟨g, 0, none⟩ = some (.int .i64 5) := hD.cell 0
  clear hC hn hby hl hq hraw hD
  conv => arg 2; whnf
  go_upto_region 3 with (fail)
  rename_i K1 hK1 K2 hK2
  have HK1 := Aside0.mk hK1
  clear hK1
  go_wp2_with fail
  refine (enum_calls w W0 e l i b 8 D0.out.bl HE0.out D0.out.ey HBY.out (by decide)).mono ?_
  rintro e' V0 ⟨rfl, hE, hK, hB⟩
  dsimp only
  obtain ⟨r, hr⟩ : ∃ r, r = enumP l i b 8 := ⟨_, rfl⟩
  rw [← hr] at hE ⊢
  obtain ⟨x1, i1, b1⟩ := r
  have HV1 := Aside0.mk hr
  have D' := D0.out.call hE hK hB
  have c9 : V0.cell? ⟨g, 9, none⟩ = some (.int .i64 0) := D'.cell 9
  have f9 := blk_frozen D'.mb 9
  obtain ⟨W1, hW⟩ : ∃ W, W = V0.setCell ⟨g, 9, none⟩ (.int .i64 x1) := ⟨_, rfl⟩
  have D1 : Aside0 (DS w W1 g e l ⟨5, f, t, u, 0, 0, 0, false, [], x1, 0, [], ⟨#[]⟩⟩ (.slice none 0 0) (.slice none 0 0) i1 b1) := ⟨by rw [hW]; exact D'.put 9 _ _ _ _ rfl D'.h8 D'.h11⟩
  have HW1 := Aside0.mk hW
  clear hr hE hK hB D' D0 hW
  go_upto_region 26 with (fail)
  rw [← HW1.out]
  clear HW1 c9 f9
  go_wp2_with fail
  refine (enum_calls w W1 e l i1 b1 8 D1.out.bl HE0.out D1.out.ey HBY.out (by decide)).mono ?_
  rintro e' V1 ⟨rfl, hE, hK, hB⟩
  dsimp only
  obtain ⟨r, hr⟩ : ∃ r, r = enumP l i1 b1 8 := ⟨_, rfl⟩
  rw [← hr] at hE ⊢
  obtain ⟨x2, i2, b2⟩ := r
  have HV2 := Aside0.mk hr
  have D' := D1.out.call hE hK hB
  have c10 : V1.cell? ⟨g, 10, none⟩ = some (.int .i64 0) := D'.cell 10
  have f10 := blk_frozen D'.mb 10
  obtain ⟨W2, hW⟩ : ∃ W, W = V1.setCell ⟨g, 10, none⟩ (.int .i64 x2) := ⟨_, rfl⟩
  have D2 : Aside0 (DS w W2 g e l ⟨5, f, t, u, 0, 0, 0, false, [], x1, x2, [], ⟨#[]⟩⟩ (.slice none 0 0) (.slice none 0 0) i2 b2) := ⟨by rw [hW]; exact D'.put 10 _ _ _ _ rfl D'.h8 D'.h11⟩
  have HW2 := Aside0.mk hW
  clear hr hE hK hB D' D1 hW
  go_upto_region 27 with (fail)
  rw [← HW2.out]
  clear HW2 c10 f10
  go_wp2_with fail
  refine (eints_calls w W2 e l i2 b2 D2.out.bl HE0.out D2.out.ey HBY.out).mono ?_
  rintro e' V2 ⟨v, rfl, hV, hE, hK, hB⟩
  dsimp only
  obtain ⟨r, hr⟩ : ∃ r, r = eintsP l i2 b2 := ⟨_, rfl⟩
  rw [← hr] at hV hE
  obtain ⟨x3, i3, b3⟩ := r
  have HV3 := Aside0.mk hr
  have D' := D2.out.call hE hK hB
  obtain ⟨Av, cv, hv⟩ := Kd.R_slice hV
  obtain ⟨nv, hnv⟩ : ∃ nv, nv = x3.length := ⟨_, rfl⟩
  dsimp only at hv
  rw [← hnv] at hv
  subst hv
  have hV2 := Kd.R_mono (ok' := fun k => g < k) hV (fun k hk => Nat.lt_of_lt_of_le (blk_lt D2.out.mb) hk)
  clear hnv
  have c11 : V2.cell? ⟨g, 11, none⟩ = some (.slice none 0 0) := D'.cell 11
  have f11 := blk_frozen D'.mb 11
  obtain ⟨W3, hW⟩ : ∃ W, W = V2.setCell ⟨g, 11, none⟩ (.slice Av nv cv) := ⟨_, rfl⟩
  have D3 : Aside0 (DS w W3 g e l ⟨5, f, t, u, 0, 0, 0, false, [], x1, x2, x3, ⟨#[]⟩⟩ (.slice none 0 0) (.slice Av nv cv) i3 b3) := ⟨by rw [hW]; exact D'.put 11 _ _ _ _ rfl D'.h8 hV2⟩
  have HW3 := Aside0.mk hW
  clear hr hE hK hB D' D2 hW hV hV2
  go_upto_region 28 with (fail)
  rw [← HW3.out]
  clear HW3 c11 f11
  go_wp2_with fail
  refine (etext_calls w W3 e l i3 b3 D3.out.bl HE0.out D3.out.ey HBY.out).mono ?_
  rintro e' V3 ⟨rfl, hE, hK, hB⟩
  dsimp only
  obtain ⟨r, hr⟩ : ∃ r, r = etextP l i3 b3 := ⟨_, rfl⟩
  rw [← hr] at hE ⊢
  obtain ⟨x4, i4, b4⟩ := r
  have HV4 := Aside0.mk hr
  have D' := D3.out.call hE hK hB
  have c12 : V3.cell? ⟨g, 12, none⟩ = some (.string ⟨#[]⟩) := D'.cell 12
  have f12 := blk_frozen D'.mb 12
  obtain ⟨W4, hW⟩ : ∃ W, W = V3.setCell ⟨g, 12, none⟩ (.string x4) := ⟨_, rfl⟩
  have D4 : Aside0 (DS w W4 g e l ⟨5, f, t, u, 0, 0, 0, false, [], x1, x2, x3, x4⟩ (.slice none 0 0) (.slice Av nv cv) i4 b4) := ⟨by rw [hW]; exact D'.put 12 _ _ _ _ rfl D'.h8 D'.h11⟩
  have HW4 := Aside0.mk hW
  clear hr hE hK hB D' D3 hW
  go_wp2
  refine HK1.out _ _ ?_
  rw [← HW4.out]
  exact refdec_tail w _ g e l ⟨5, f, t, u, 0, 0, 0, false, [], x1, x2, x3, x4⟩ none 0 0 Av nv cv i4 b4 A n c q HC.out HN.out hc HBY.out D4.out (fun x hx => by cases hx) (by rw [HRAW.out, ebodyP_5]; simp only [e2P, e3P, ← HV1.out, ← HV2.out, ← HV3.out, ← HV4.out]) HQ.out _ _ _ _ _ _ _ _ _ _ _ _ _ _ _ _ _ _ _ _ _ _ _ _ _ _ _ _ _ _ _ _ _ _ _ _ _ _ _ _ _ _ _ _ _ _ _ _ _ _ _ _ _ _ _ _ _ _ _ _ _ _ _ _ _ _ _ _ _ _ _ _ _ _ _ _ _ _ _ _ _ _ _ _ _ _ _ _ _ _ _ _ _ _ _ _ _ _ _ _ _ _ _ _ _ _ _ _ _ _ _ _ _ _ _ _ _ _ _ _ _ _ _ _ _
set_option maxHeartbeats 16000000 in
set_option maxRecDepth 100000 in
theorem refdec_k0 (A : Option Addr) (n c : Nat) (l : List Int) (w : World) (hC : (Kd.int .u8).C w A l.length l) (hn : n = l.length) (hc : n ≤ c) (hby : Byt l) (hl : l.length ≤ 1000000) (q : Option M13) (hq : q = refD l) (g e : Nat) (W0 : World) (k : Int) (f t u : Int) (i : Nat) (b : Bool) (hD : DS w W0 g e l ⟨k, f, t, u, 0, 0, 0, false, [], 0, 0, [], ⟨#[]⟩⟩ (.slice none 0 0) (.slice none 0 0) i b) (hraw : rawE l = ebodyP k f t u l i b) (h1 : k ≠ 1) (h2 : k ≠ 2) (h3 : k ≠ 3) (h4 : k ≠ 4) (h5 : k ≠ 5)
    (z1 z6 z7 z8 z9 z10 z11 z12 z13 z14 z15 z16 z17 z18 z19 z20 z21 z22 z23 z24 z25 z26 z27 z28 z29 z30 z31 z32 z33 z34 z35 z36 z37 z38 z39 z40 z41 z42 z43 z44 z45 z46 z47 z48 z49 z50 z51 z52 z53 z54 z55 z56 z57 z58 z59 z60 z61 z62 z63 z64 z65 z66 z67 z68 z69 z70 z71 z72 z73 z74 z75 z76 z77 z78 z79 z80 z81 z82 z83 z84 z85 z86 z87 z88 z89 z90 z91 z92 z93 z94 z95 z96 z97 z98 z99 z100 z101 z102 z103 z104 z105 z106 z107 z108 z109 z110 z111 z112 z113 z114 z115 z116 z117 z118 z119 z120 z121 z122 z123 z124 z125 z126 z127 z128 z129 : Value) : Code.wp Try.prog (decT 3) (bodyPost Try.prog Try.f14 (DecQ w q)) ⟨#[.slice A n c, z1, .pointer (some ⟨w.heap.size, 0, none⟩), .int .i64 0, .pointer (some ⟨e, 0, none⟩), .pointer (some ⟨g, 0, none⟩), z6, z7, z8, z9, z10, z11, z12, z13, z14, z15, z16, z17, z18, z19, z20, z21, z22, z23, z24, z25, z26, z27, z28, z29, z30, z31, z32, z33, z34, z35, z36, z37, z38, z39, z40, z41, z42, z43, z44, z45, z46, z47, z48, z49, z50, z51, z52, z53, z54, z55, z56, z57, z58, z59, z60, z61, z62, z63, z64, z65, z66, z67, z68, z69, z70, z71, z72, z73, z74, z75, z76, z77, z78, z79, z80, z81, z82, z83, z84, z85, z86, z87, z88, z89, z90, z91, z92, z93, z94, z95, z96, z97, z98, z99, z100, z101, z102, z103, z104, z105, z106, z107, z108, z109, z110, z111, z112, z113, z114, z115, z116, z117, z118, z119, z120, z121, z122, z123, z124, z125, z126, z127, z128, z129], []⟩ W0 := by
  have HC := Aside0.mk hC
  have HN := Aside0.mk hn
  have HBY := Aside0.mk hby
  have HL := Aside0.mk hl
  have HQ := Aside0.mk hq
  have HRAW := Aside0.mk hraw
  have D0 := Aside0.mk hD
  have HE0 : Aside0 (w.heap.size ≤ e) := ⟨by have := hD.ze; omega⟩
  have c0 : W0.cell? ⟨g, 0, none⟩ = some (.int .i64 k) := hD.cell 0
  have l1 : (k == (1 : Int)) = false := by simpa using h1
  have l2 : (k == (2 : Int)) = false := by simpa using h2
  have l3 : (k == (3 : Int)) = false := by simpa using h3
  have l4 : (k == (4 : Int)) = false := by simpa using h4
  have l5 : (k == (5 : Int)) = false := by simpa using h5
  have HB0 : Aside0 (rawE l = (⟨k, f, t, u, 0, 0, 0, false, [], 0, 0, [], ⟨#[]⟩⟩, i, b)) := ⟨by rw [hraw, ebodyP, if_neg h1, if_neg h2, if_neg h3, if_neg h4, if_neg h5]⟩
  clear h1 h2 h3 h4 h5
  clear hC hn hby hl hq hraw hD
  conv => arg 2; whnf
  go_upto_region 3 with (fail)
  rename_i K1 hK1 K2 hK2
  have HK1 := Aside0.mk hK1
  clear hK1
  go_wp2
  refine HK1.out _ _ ?_
  exact refdec_tail w _ g e l ⟨k, f, t, u, 0, 0, 0, false, [], 0, 0, [], ⟨#[]⟩⟩ none 0 0 none 0 0 i b A n c q HC.out HN.out hc HBY.out D0.out (fun x hx => by cases hx) HB0.out HQ.out _ _ _ _ _ _ _ _ _ _ _ _ _ _ _ _ _ _ _ _ _ _ _ _ _ _ _ _ _ _ _ _ _ _ _ _ _ _ _ _ _ _ _ _ _ _ _ _ _ _ _ _ _ _ _ _ _ _ _ _ _ _ _ _ _ _ _ _ _ _ _ _ _ _ _ _ _ _ _ _ _ _ _ _ _ _ _ _ _ _ _ _ _ _ _ _ _ _ _ _ _ _ _ _ _ _ _ _ _ _ _ _ _ _ _ _ _ _ _ _ _ _ _ _ _
end Go.Proofs.Ytbemfgpdfacdpaa.Ms
