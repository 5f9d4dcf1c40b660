/- 3 texts of the proof, put together, less what is not used; what a tool printed stands among them. -/
import Derived.Test.YtbemfgpdfacdpaaMDec12
namespace Go.Proofs.Ytbemfgpdfacdpaa.Ms
open Go.RowKit Go.Proofs.Ytbemfgpdfacdpaa.Pr Go.Proofs.YtbemfgpdfacdpaaW.PrintWords Go.Proofs.YtbemfgpdfacdpaaW.PrintLast Go.Proofs.YtbemfgpdfacdpaaW.PrintMore
open Go.Proofs.Ytbemfgpdfacdpaa.QT (OwnAt)
set_option linter.unusedVariables false
set_option linter.unusedSimpArgs false
set_option maxHeartbeats 16000000 in
set_option maxRecDepth 100000 in
theorem refenc_t5 (kd fr tt tm ix lt cm : Int) (ys : Bool) (es : List S46) (si st : Int) (sm : List Int) (sd : ByteArray) (A8 : Option Addr) (n8 c8 : Nat) (A11 : Option Addr) (n11 c11 : Nat) (w : World) (R : Option (List Int)) (g : Nat) (w1 : World) (hX : w1.heap[g]? = some (.cells #[.int .i64 kd, .int .i64 fr, .int .i64 tt, .int .i64 tm, .int .i64 ix, .int .i64 lt, .int .i64 cm, .bool ys, .slice A8 n8 c8, .int .i64 si, .int .i64 st, .slice A11 n11 c11, .string sd] 27 (0, 0))) (hW : Below w.heap.size w w1) (hG : w.heap.size ≤ g)
    (hT : ∀ (v : Value) (B : Nat) (w2 : World), w2.heap[g]? = some (.cells #[.int .i64 kd, .int .i64 fr, .int .i64 tt, .int .i64 tm, .int .i64 ix, .int .i64 lt, .int .i64 cm, .bool ys, .slice A8 n8 c8, .int .i64 si, .int .i64 st, .slice A11 n11 c11, .string sd] 27 (0, 0)) → Below w.heap.size w w2 → w.heap.size ≤ B → B ≤ w2.heap.size → RB w w2 B v (wnum kd 1 ++ wints [fr, tt, tm]) → ∀ (yb : Int) (ts : Array Value), yb = (if ys then 1 else 0) → (∃ z0 z2 z3 z4 z5 z6 z9 z10 z11 z12 z13 z14 z15 z16 z17 z18 z19 z20 z21 z22 z23 z24 z25 z26 z27 z28 z29 z30 z31 z32 z33 z34 z35 z36 z37 z38 z39 z40 z41 z42 z43 z44 z45 z46 z47 z48 z49 z50 z51 z52 z53 z54 z55 z56 z57 z58 z59 z60 z61 z62 z63 z64 z65 z66 z67 z68 z69 z70 z71 z72 z73 z74 z75 z76 z77 z78 z79 z80 z81 z82 z83 z84 z85 z86 z87 z88 z89 z90 z91 z92 z93 z94 z95 z96 z97 z98 z99 z100 z101 z102 z103 z104 z105 z106 z107 z108 z109 z110 z111 z112 z113 z114 z115 z116 z117 z118 z119 z120 z121 z122 z123 z124 z125 z126 z127 z128 z129 z130 z131 z132 z133 z134 z135 z136 z137 z138 z139 z140 z141 z142 z143 z144 z145 z146 z147 z148 z149 z150 z151 z152 z153 z154 z155 z156 z157 z158 z159 z160 z161 z162 z163 z164 z165 z166 z167 z168 z169 z170 z171 z172 z173 z174 z175 z176 z177 z178 z179 z180 z181 z182 z183 z184 z185 z186 z187 z188 z189 z190 z191 z192 z193 z194 z195 z196 z197 z198 z199 z200 z201 z202 z203 z204 z205 z206 z207 z208 z209 z210 z211 z212 z213 z214 z215 z216 z217 z218 z219 z220 z221 z222 z223 z224 z225 z226 z227 z228 z229 z230 z231 z232 z233 z234 z235 z236 z237 z238 z239 z240 z241 z242 z243 z244 z245 z246 z247 z248 z249 z250 z251 z252 z253, ts = #[z0, .pointer (some ⟨g, 0, none⟩), z2, z3, z4, z5, z6, v, .int .u8 yb, z9, z10, z11, z12, z13, z14, z15, z16, z17, z18, z19, z20, z21, z22, z23, z24, z25, z26, z27, z28, z29, z30, z31, z32, z33, z34, z35, z36, z37, z38, z39, z40, z41, z42, z43, z44, z45, z46, z47, z48, z49, z50, z51, z52, z53, z54, z55, z56, z57, z58, z59, z60, z61, z62, z63, z64, z65, z66, z67, z68, z69, z70, z71, z72, z73, z74, z75, z76, z77, z78, z79, z80, z81, z82, z83, z84, z85, z86, z87, z88, z89, z90, z91, z92, z93, z94, z95, z96, z97, z98, z99, z100, z101, z102, z103, z104, z105, z106, z107, z108, z109, z110, z111, z112, z113, z114, z115, z116, z117, z118, z119, z120, z121, z122, z123, z124, z125, z126, z127, z128, z129, z130, z131, z132, z133, z134, z135, z136, z137, z138, z139, z140, z141, z142, z143, z144, z145, z146, z147, z148, z149, z150, z151, z152, z153, z154, z155, z156, z157, z158, z159, z160, z161, z162, z163, z164, z165, z166, z167, z168, z169, z170, z171, z172, z173, z174, z175, z176, z177, z178, z179, z180, z181, z182, z183, z184, z185, z186, z187, z188, z189, z190, z191, z192, z193, z194, z195, z196, z197, z198, z199, z200, z201, z202, z203, z204, z205, z206, z207, z208, z209, z210, z211, z212, z213, z214, z215, z216, z217, z218, z219, z220, z221, z222, z223, z224, z225, z226, z227, z228, z229, z230, z231, z232, z233, z234, z235, z236, z237, z238, z239, z240, z241, z242, z243, z244, z245, z246, z247, z248, z249, z250, z251, z252, z253]) → Code.wp Try.prog (encT 11) (bodyPost Try.prog Try.f11 (EncQ w R)) ⟨ts, []⟩ w2)
    (z0 z2 z3 z4 z5 z6 z7 z8 z9 z10 z11 z12 z13 z14 z15 z16 z17 z18 z19 z20 z21 z22 z23 z24 z25 z26 z27 z28 z29 z30 z31 z32 z33 z34 z35 z36 z37 z38 z39 z40 z41 z42 z43 z44 z45 z46 z47 z48 z49 z50 z51 z52 z53 z54 z55 z56 z57 z58 z59 z60 z61 z62 z63 z64 z65 z66 z67 z68 z69 z70 z71 z72 z73 z74 z75 z76 z77 z78 z79 z80 z81 z82 z83 z84 z85 z86 z87 z88 z89 z90 z91 z92 z93 z94 z95 z96 z97 z98 z99 z100 z101 z102 z103 z104 z105 z106 z107 z108 z109 z110 z111 z112 z113 z114 z115 z116 z117 z118 z119 z120 z121 z122 z123 z124 z125 z126 z127 z128 z129 z130 z131 z132 z133 z134 z135 z136 z137 z138 z139 z140 z141 z142 z143 z144 z145 z146 z147 z148 z149 z150 z151 z152 z153 z154 z155 z156 z157 z158 z159 z160 z161 z162 z163 z164 z165 z166 z167 z168 z169 z170 z171 z172 z173 z174 z175 z176 z177 z178 z179 z180 z181 z182 z183 z184 z185 z186 z187 z188 z189 z190 z191 z192 z193 z194 z195 z196 z197 z198 z199 z200 z201 z202 z203 z204 z205 z206 z207 z208 z209 z210 z211 z212 z213 z214 z215 z216 z217 z218 z219 z220 z221 z222 z223 z224 z225 z226 z227 z228 z229 z230 z231 z232 z233 z234 z235 z236 z237 z238 z239 z240 z241 z242 z243 z244 z245 z246 z247 z248 z249 z250 z251 z252 z253 : Value) : Code.wp Try.prog (encT 5) (bodyPost Try.prog Try.f11 (EncQ w R)) ⟨#[z0, .pointer (some ⟨g, 0, none⟩), z2, z3, z4, z5, z6, z7, z8, z9, z10, z11, z12, z13, z14, z15, z16, z17, z18, z19, z20, z21, z22, z23, z24, z25, z26, z27, z28, z29, z30, z31, z32, z33, z34, z35, z36, z37, z38, z39, z40, z41, z42, z43, z44, z45, z46, z47, z48, z49, z50, z51, z52, z53, z54, z55, z56, z57, z58, z59, z60, z61, z62, z63, z64, z65, z66, z67, z68, z69, z70, z71, z72, z73, z74, z75, z76, z77, z78, z79, z80, z81, z82, z83, z84, z85, z86, z87, z88, z89, z90, z91, z92, z93, z94, z95, z96, z97, z98, z99, z100, z101, z102, z103, z104, z105, z106, z107, z108, z109, z110, z111, z112, z113, z114, z115, z116, z117, z118, z119, z120, z121, z122, z123, z124, z125, z126, z127, z128, z129, z130, z131, z132, z133, z134, z135, z136, z137, z138, z139, z140, z141, z142, z143, z144, z145, z146, z147, z148, z149, z150, z151, z152, z153, z154, z155, z156, z157, z158, z159, z160, z161, z162, z163, z164, z165, z166, z167, z168, z169, z170, z171, z172, z173, z174, z175, z176, z177, z178, z179, z180, z181, z182, z183, z184, z185, z186, z187, z188, z189, z190, z191, z192, z193, z194, z195, z196, z197, z198, z199, z200, z201, z202, z203, z204, z205, z206, z207, z208, z209, z210, z211, z212, z213, z214, z215, z216, z217, z218, z219, z220, z221, z222, z223, z224, z225, z226, z227, z228, z229, z230, z231, z232, z233, z234, z235, z236, z237, z238, z239, z240, z241, z242, z243, z244, z245, z246, z247, z248, z249, z250, z251, z252, z253], []⟩ w1 := by
  have HT := Aside0.mk hT
  have HX1 := Aside0.mk hX
  have HW1 := Aside0.mk hW
  have HG := Aside0.mk hG
  clear hT hX hW hG
  have q0 : w1.cell? ⟨g, 0, none⟩ = some (.int .i64 kd) := blk_cell HX1.out 0
  conv => arg 2; whnf
  go_upto_region 15 with (fail)
  obtain ⟨w2, hw2⟩ : ∃ w2, w2 = w1.alloc (.cells #[.int .u8 (kd % 256)] 5) := ⟨_, rfl⟩
  change Code.wp _ _ _ _ (w1.alloc (.cells #[.int .u8 (kd % 256)] 5))
  rw [← hw2]
  obtain ⟨B, hB⟩ : ∃ B, B = w1.heap.size := ⟨_, rfl⟩
  rw [← hB]
  have HX2 : Aside0 (w2.heap[g]? = some (.cells #[.int .i64 kd, .int .i64 fr, .int .i64 tt, .int .i64 tm, .int .i64 ix, .int .i64 lt, .int .i64 cm, .bool ys, .slice A8 n8 c8, .int .i64 si, .int .i64 st, .slice A11 n11 c11, .string sd] 27 (0, 0))) := ⟨by rw [hw2]; exact blk_alloc HX1.out _⟩
  have HW2 : Aside0 (Below w.heap.size w w2) := ⟨by rw [hw2]; exact below_alloc HW1.out _⟩
  have HBB : Aside0 (w.heap.size ≤ B) := ⟨by rw [hB]; exact HW1.out.size⟩
  have HBW2 : Aside0 (B ≤ w2.heap.size) := ⟨by rw [hw2, hB]; exact (below_alloc (Below.refl _ _) _).size⟩
  have HR2 : Aside0 (RB w w2 B (.slice (some ⟨B, 0, none⟩) 1 1) (wnum kd 1)) := ⟨by
    refine Kd.R_of_own ⟨rfl, .inr ⟨B, 1, #[.int .u8 (kd % 256)], rfl, HBB.out, by rw [hw2, hB]; exact blk_new _ _, Nat.le_refl _, by decide, rfl, ?_⟩⟩ (fun k hk => by cases hk; exact Nat.le_refl _)
    simp only [wnum, Int.pow_zero, Int.ediv_one]
    rw [show kd % 18446744073709551616 % 256 = kd % 256 by omega]; rfl⟩
  clear hw2 hB HX1 HW1 q0
  have q1 : w2.cell? ⟨g, 1, none⟩ = some (.int .i64 fr) := blk_cell HX2.out 1
  go_wp2_with fail
  refine (lay_calls w w2 B _ (wnum kd 1) fr 8 HR2.out HW2.out HBW2.out (by decide) (by simp [wnum_length])).mono ?_
  rintro e w3 ⟨v3, rfl, hr, hb, hk⟩
  dsimp only
  have HR3 := Aside0.mk hr
  have HW3 := Aside0.mk hb
  have HX3 := Aside0.mk (hk.blk HX2.out (by decide))
  have HBW3 : Aside0 (B ≤ w3.heap.size) := ⟨Nat.le_trans HBW2.out hk.size⟩
  clear hr hb hk HR2 HW2 HX2 HBW2
  clear q1
  have q2 : w3.cell? ⟨g, 2, none⟩ = some (.int .i64 tt) := blk_cell HX3.out 2
  go_wp2_with fail
  refine (lay_calls w w3 B v3 (wnum kd 1 ++ wnum fr 8) tt 8 HR3.out HW3.out HBW3.out (by decide) (by simp [wnum_length])).mono ?_
  rintro e w4 ⟨v4, rfl, hr, hb, hk⟩
  dsimp only
  have HR4 := Aside0.mk hr
  have HW4 := Aside0.mk hb
  have HX4 := Aside0.mk (hk.blk HX3.out (by decide))
  have HBW4 : Aside0 (B ≤ w4.heap.size) := ⟨Nat.le_trans HBW3.out hk.size⟩
  clear hr hb hk HR3 HW3 HX3 HBW3
  clear q2
  have q3 : w4.cell? ⟨g, 3, none⟩ = some (.int .i64 tm) := blk_cell HX4.out 3
  go_wp2_with fail
  refine (lay_calls w w4 B v4 (wnum kd 1 ++ wnum fr 8 ++ wnum tt 8) tm 8 HR4.out HW4.out HBW4.out (by decide) (by simp [wnum_length])).mono ?_
  rintro e w5 ⟨v5, rfl, hr, hb, hk⟩
  dsimp only
  have HR5 := Aside0.mk hr
  have HW5 := Aside0.mk hb
  have HX5 := Aside0.mk (hk.blk HX4.out (by decide))
  have HBW5 : Aside0 (B ≤ w5.heap.size) := ⟨Nat.le_trans HBW4.out hk.size⟩
  clear hr hb hk HR4 HW4 HX4 HBW4
  clear q3
  have q7 : w5.cell? ⟨g, 7, none⟩ = some (.bool ys) := blk_cell HX5.out 7
  have HRR : Aside0 (RB w w5 B v5 (wnum kd 1 ++ wints [fr, tt, tm])) := ⟨by have := HR5.out; simpa [wints] using this⟩
  go_upto_region 19 with (fail)
  rename_i K1 hK1 K2 hK2
  have HK1 := Aside0.mk hK1
  clear hK1
  cases ys
  · go_wp2
    refine HK1.out _ _ ?_
    exact HT.out v5 B w5 HX5.out HW5.out HBB.out HBW5.out HRR.out _ _ rfl ⟨_, _, _, _, _, _, _, _, _, _, _, _, _, _, _, _, _, _, _, _, _, _, _, _, _, _, _, _, _, _, _, _, _, _, _, _, _, _, _, _, _, _, _, _, _, _, _, _, _, _, _, _, _, _, _, _, _, _, _, _, _, _, _, _, _, _, _, _, _, _, _, _, _, _, _, _, _, _, _, _, _, _, _, _, _, _, _, _, _, _, _, _, _, _, _, _, _, _, _, _, _, _, _, _, _, _, _, _, _, _, _, _, _, _, _, _, _, _, _, _, _, _, _, _, _, _, _, _, _, _, _, _, _, _, _, _, _, _, _, _, _, _, _, _, _, _, _, _, _, _, _, _, _, _, _, _, _, _, _, _, _, _, _, _, _, _, _, _, _, _, _, _, _, _, _, _, _, _, _, _, _, _, _, _, _, _, _, _, _, _, _, _, _, _, _, _, _, _, _, _, _, _, _, _, _, _, _, _, _, _, _, _, _, _, _, _, _, _, _, _, _, _, _, _, _, _, _, _, _, _, _, _, _, _, _, _, _, _, _, _, _, _, _, _, _, _, _, _, _, _, _, rfl⟩
  · go_wp2
    refine HK1.out _ _ ?_
    exact HT.out v5 B w5 HX5.out HW5.out HBB.out HBW5.out HRR.out _ _ rfl ⟨_, _, _, _, _, _, _, _, _, _, _, _, _, _, _, _, _, _, _, _, _, _, _, _, _, _, _, _, _, _, _, _, _, _, _, _, _, _, _, _, _, _, _, _, _, _, _, _, _, _, _, _, _, _, _, _, _, _, _, _, _, _, _, _, _, _, _, _, _, _, _, _, _, _, _, _, _, _, _, _, _, _, _, _, _, _, _, _, _, _, _, _, _, _, _, _, _, _, _, _, _, _, _, _, _, _, _, _, _, _, _, _, _, _, _, _, _, _, _, _, _, _, _, _, _, _, _, _, _, _, _, _, _, _, _, _, _, _, _, _, _, _, _, _, _, _, _, _, _, _, _, _, _, _, _, _, _, _, _, _, _, _, _, _, _, _, _, _, _, _, _, _, _, _, _, _, _, _, _, _, _, _, _, _, _, _, _, _, _, _, _, _, _, _, _, _, _, _, _, _, _, _, _, _, _, _, _, _, _, _, _, _, _, _, _, _, _, _, _, _, _, _, _, _, _, _, _, _, _, _, _, _, _, _, _, _, _, _, _, _, _, _, _, _, _, _, _, _, _, _, _, rfl⟩
end Go.Proofs.Ytbemfgpdfacdpaa.Ms
namespace Go.Proofs.Ytbemfgpdfacdpaa.Ms
open Go.RowKit Go.Proofs.Ytbemfgpdfacdpaa.Pr Go.Proofs.YtbemfgpdfacdpaaW.PrintWords Go.Proofs.YtbemfgpdfacdpaaW.PrintLast Go.Proofs.YtbemfgpdfacdpaaW.PrintMore
open Go.Proofs.Ytbemfgpdfacdpaa.QT (OwnAt)
set_option linter.unusedVariables false
set_option linter.unusedSimpArgs false
def enc23.T23 : Bool × List (List Nat × List Nat) := (true, [([], []), ([], []), ([1], [1]), ([2], [2]), ([0, 3], [0, 3]), ([], []), ([5], [5]), ([6], [6]), ([4, 7, 4], [4, 7]), ([8, 8, 0, 1, 2, 3, 4, 5, 6, 7, 8], [0, 8])])
def enc23.B23 : List Nat := [0, 0, 2, 6, 15, 0, 32, 96, 255, 511]
theorem enc23.tab23 : rtab .any (opsOf Try.f11 23) = enc23.T23 := by kernel_rfl
theorem enc23.bits23 : waitsOk enc23.T23.2 enc23.B23 = true := by kernel_rfl
set_option maxHeartbeats 16000000 in
set_option maxRecDepth 100000 in
theorem refenc_k1 (fr tt tm ix lt cm : Int) (ys : Bool) (es : List S46) (si st : Int) (sm : List Int) (sd : ByteArray) (A8 : Option Addr) (n8 c8 : Nat) (A11 : Option Addr) (n11 c11 : Nat) (w : World) (R : Option (List Int)) (g : Nat) (w1 : World) (v : Value) (B : Nat) (l : List Int) (hX : w1.heap[g]? = some (.cells #[.int .i64 1, .int .i64 fr, .int .i64 tt, .int .i64 tm, .int .i64 ix, .int .i64 lt, .int .i64 cm, .bool ys, .slice A8 n8 c8, .int .i64 si, .int .i64 st, .slice A11 n11 c11, .string sd] 27 (0, 0))) (hW : Below w.heap.size w w1) (hBB : w.heap.size ≤ B) (hBW : B ≤ w1.heap.size) (hR : RB w w1 B v l) (hl : l.length ≤ 100) (yb : Int) (hRR : R = some (l ++ wints [ix, lt]))
    (z0 z2 z3 z4 z5 z6 z9 z10 z11 z12 z13 z14 z15 z16 z17 z18 z19 z20 z21 z22 z23 z24 z25 z26 z27 z28 z29 z30 z31 z32 z33 z34 z35 z36 z37 z38 z39 z40 z41 z42 z43 z44 z45 z46 z47 z48 z49 z50 z51 z52 z53 z54 z55 z56 z57 z58 z59 z60 z61 z62 z63 z64 z65 z66 z67 z68 z69 z70 z71 z72 z73 z74 z75 z76 z77 z78 z79 z80 z81 z82 z83 z84 z85 z86 z87 z88 z89 z90 z91 z92 z93 z94 z95 z96 z97 z98 z99 z100 z101 z102 z103 z104 z105 z106 z107 z108 z109 z110 z111 z112 z113 z114 z115 z116 z117 z118 z119 z120 z121 z122 z123 z124 z125 z126 z127 z128 z129 z130 z131 z132 z133 z134 z135 z136 z137 z138 z139 z140 z141 z142 z143 z144 z145 z146 z147 z148 z149 z150 z151 z152 z153 z154 z155 z156 z157 z158 z159 z160 z161 z162 z163 z164 z165 z166 z167 z168 z169 z170 z171 z172 z173 z174 z175 z176 z177 z178 z179 z180 z181 z182 z183 z184 z185 z186 z187 z188 z189 z190 z191 z192 z193 z194 z195 z196 z197 z198 z199 z200 z201 z202 z203 z204 z205 z206 z207 z208 z209 z210 z211 z212 z213 z214 z215 z216 z217 z218 z219 z220 z221 z222 z223 z224 z225 z226 z227 z228 z229 z230 z231 z232 z233 z234 z235 z236 z237 z238 z239 z240 z241 z242 z243 z244 z245 z246 z247 z248 z249 z250 z251 z252 z253 : Value) : Code.wp Try.prog (encT 11) (bodyPost Try.prog Try.f11 (EncQ w R)) ⟨#[z0, .pointer (some ⟨g, 0, none⟩), z2, z3, z4, z5, z6, v, .int .u8 yb, z9, z10, z11, z12, z13, z14, z15, z16, z17, z18, z19, z20, z21, z22, z23, z24, z25, z26, z27, z28, z29, z30, z31, z32, z33, z34, z35, z36, z37, z38, z39, z40, z41, z42, z43, z44, z45, z46, z47, z48, z49, z50, z51, z52, z53, z54, z55, z56, z57, z58, z59, z60, z61, z62, z63, z64, z65, z66, z67, z68, z69, z70, z71, z72, z73, z74, z75, z76, z77, z78, z79, z80, z81, z82, z83, z84, z85, z86, z87, z88, z89, z90, z91, z92, z93, z94, z95, z96, z97, z98, z99, z100, z101, z102, z103, z104, z105, z106, z107, z108, z109, z110, z111, z112, z113, z114, z115, z116, z117, z118, z119, z120, z121, z122, z123, z124, z125, z126, z127, z128, z129, z130, z131, z132, z133, z134, z135, z136, z137, z138, z139, z140, z141, z142, z143, z144, z145, z146, z147, z148, z149, z150, z151, z152, z153, z154, z155, z156, z157, z158, z159, z160, z161, z162, z163, z164, z165, z166, z167, z168, z169, z170, z171, z172, z173, z174, z175, z176, z177, z178, z179, z180, z181, z182, z183, z184, z185, z186, z187, z188, z189, z190, z191, z192, z193, z194, z195, z196, z197, z198, z199, z200, z201, z202, z203, z204, z205, z206, z207, z208, z209, z210, z211, z212, z213, z214, z215, z216, z217, z218, z219, z220, z221, z222, z223, z224, z225, z226, z227, z228, z229, z230, z231, z232, z233, z234, z235, z236, z237, z238, z239, z240, z241, z242, z243, z244, z245, z246, z247, z248, z249, z250, z251, z252, z253], []⟩ w1 := by
  have HX1 := Aside0.mk hX
  have HW := Aside0.mk hW
  have HR := Aside0.mk hR
  have HL := Aside0.mk hl
  have HBB := Aside0.mk hBB
  have HBW := Aside0.mk hBW
  have HRR := Aside0.mk hRR
  clear hX hW hR hl hBB hBW hRR
  have q0 : w1.cell? ⟨g, 0, none⟩ = some (.int .i64 1) := blk_cell HX1.out 0
  conv => arg 2; whnf
  go_upto_region 23 with (fail)
  refine start_ (n := 10) (S := fun w' => True) (ds := []) #[false, false, false, false, false, false, false, false, false, false] (by kernel_rfl) rfl rfl trivial (fun hHeld => ?_)
  refine with_tabW enc23.tab23 enc23.bits23 (fun HT_ HW_ => ?_)
  have F : Aside0 (Below w.heap.size w w1.drew) := ⟨below_drew HW.out⟩
  have L : Aside0 (LK w1 w1.drew B) := ⟨LK.of_below (below_drew (Below.refl _ _))⟩
  have R0 : Aside0 (RB w w1.drew B v l) := ⟨Kd.R_drew HR.out⟩
  refine inv_at [0, 1, 2, 3, 4, 5, 6, 7, 8, 9] (fun a0_ b a w' => ∃ (v1 : Value) (v2 : Value) (m9_ : Value), a = putSel a0_ b [(0, 152, v), (1, 153, .pointer (some ⟨g, 4, none⟩)), (2, 154, .int .i64 ix), (3, 155, .int .u64 (IntKind.u64.wrap ix)), (4, 156, v1), (5, 157, .pointer (some ⟨g, 5, none⟩)), (6, 158, .int .i64 lt), (7, 159, .int .u64 (IntKind.u64.wrap lt)), (8, 160, v2), (9, 7, m9_)] ∧ (Below w.heap.size w w') ∧ (LK w1 w' B) ∧ (b 4 = false → RB w w' B v l) ∧ (b 4 = true → b 8 = false → RB w w' B v1 (l ++ wnum ix 8)) ∧ (b 8 = true → RB w w' B v2 ((l ++ wnum ix 8) ++ wnum lt 8)) ∧ (b 9 = true → (m9_ : Value) = v2)) HT_.out HW_.out (by kernel_rfl) (by kernel_rfl) ?_ ?_ ?_
  · exact ⟨.bool false, .bool false, .bool false, by simp only [putSel, Bool.false_eq_true, if_false], F.out, L.out, fun _ => R0.out, fun h_ => absurd h_ (by decide), fun h_ => absurd h_ (by decide), fun h_ => absurd h_ (by decide)⟩
  · skip
    clear F L R0
    refine steps_cons ?_ ?_
    · rintro b a w' ⟨v1, v2, m9_, ha, Q_F, Q_L, Q_R0, Q_R1, Q_R2, Q_X9_⟩ hb_ hon hoff
      refine ⟨_, rfl, fun K hK => ?_⟩
      have e7 : a.tmps[7]? = some (v) := by rw [ha]; exact (putSel_not (hoff 9 (by kernel_rfl)) rfl).trans rfl
      replace ha := Aside0.mk ha
      have F := Aside0.mk Q_F
      have L := Aside0.mk Q_L
      have R0 := Aside0.mk (Q_R0 (hoff 4 (by kernel_rfl)))
      refine value_ (w1 := w') (v := v) (by rfl) rfl ?_ ?_
      · go_simp
        (try simp only [i64_w])
        try rfl
      refine hK.out _ _ ⟨v1, v2, m9_, (by rw [ha.out]; exact putSel_upk 0 hb_ rfl rfl rfl), Q_F, Q_L, Q_R0, fun h0_ _ => absurd ((hoff 4 (by kernel_rfl)).symm.trans h0_) (by decide), fun h0_ => absurd ((hoff 8 (by kernel_rfl)).symm.trans h0_) (by decide), fun h0_ => absurd ((hoff 9 (by kernel_rfl)).symm.trans h0_) (by decide)⟩
    refine steps_cons ?_ ?_
    · rintro b a w' ⟨v1, v2, m9_, ha, Q_F, Q_L, Q_R0, Q_R1, Q_R2, Q_X9_⟩ hb_ hon hoff
      refine ⟨_, rfl, fun K hK => ?_⟩
      have e1 : a.tmps[1]? = some (.pointer (some ⟨g, 0, none⟩)) := by rw [ha]; exact (putSel_off rfl).trans rfl
      replace ha := Aside0.mk ha
      have F := Aside0.mk Q_F
      have L := Aside0.mk Q_L
      have R0 := Aside0.mk (Q_R0 (hoff 4 (by kernel_rfl)))
      refine value_ (w1 := w') (v := .pointer (some ⟨g, 4, none⟩)) (by rfl) rfl ?_ ?_
      · go_simp
        (try simp only [i64_w])
        try rfl
      refine hK.out _ _ ⟨v1, v2, m9_, (by rw [ha.out]; exact putSel_upk 1 hb_ rfl rfl rfl), Q_F, Q_L, Q_R0, fun h0_ _ => absurd ((hoff 4 (by kernel_rfl)).symm.trans h0_) (by decide), fun h0_ => absurd ((hoff 8 (by kernel_rfl)).symm.trans h0_) (by decide), fun h0_ => absurd ((hoff 9 (by kernel_rfl)).symm.trans h0_) (by decide)⟩
    refine steps_cons ?_ ?_
    · rintro b a w' ⟨v1, v2, m9_, ha, Q_F, Q_L, Q_R0, Q_R1, Q_R2, Q_X9_⟩ hb_ hon hoff
      refine ⟨_, rfl, fun K hK => ?_⟩
      have e153 : a.tmps[153]? = some (.pointer (some ⟨g, 4, none⟩)) := by rw [ha]; exact putSel_on (e := (1, 153, .pointer (some ⟨g, 4, none⟩))) 1 rfl rfl (hon 1 (by kernel_rfl)) rfl
      replace ha := Aside0.mk ha
      have F := Aside0.mk Q_F
      have L := Aside0.mk Q_L
      have R0 := Aside0.mk (Q_R0 (hoff 4 (by kernel_rfl)))
      have m0 : w'.cell? ⟨g, 4, none⟩ = some (.int .i64 ix) := blk_cell (L.out.blk HX1.out (by decide)) 4
      refine value_ (w1 := w') (v := .int .i64 ix) (by rfl) rfl ?_ ?_
      · go_simp
        (try simp only [i64_w])
        try rfl
      refine hK.out _ _ ⟨v1, v2, m9_, (by rw [ha.out]; exact putSel_upk 2 hb_ rfl rfl rfl), Q_F, Q_L, Q_R0, fun h0_ _ => absurd ((hoff 4 (by kernel_rfl)).symm.trans h0_) (by decide), fun h0_ => absurd ((hoff 8 (by kernel_rfl)).symm.trans h0_) (by decide), fun h0_ => absurd ((hoff 9 (by kernel_rfl)).symm.trans h0_) (by decide)⟩
    refine steps_cons ?_ ?_
    · rintro b a w' ⟨v1, v2, m9_, ha, Q_F, Q_L, Q_R0, Q_R1, Q_R2, Q_X9_⟩ hb_ hon hoff
      refine ⟨_, rfl, fun K hK => ?_⟩
      have e154 : a.tmps[154]? = some (.int .i64 ix) := by rw [ha]; exact putSel_on (e := (2, 154, .int .i64 ix)) 2 rfl rfl (hon 2 (by kernel_rfl)) rfl
      replace ha := Aside0.mk ha
      have F := Aside0.mk Q_F
      have L := Aside0.mk Q_L
      have R0 := Aside0.mk (Q_R0 (hoff 4 (by kernel_rfl)))
      refine value_ (w1 := w') (v := .int .u64 (IntKind.u64.wrap ix)) (by rfl) rfl ?_ ?_
      · go_simp
        (try simp only [i64_w])
        try rfl
      refine hK.out _ _ ⟨v1, v2, m9_, (by rw [ha.out]; exact putSel_upk 3 hb_ rfl rfl rfl), Q_F, Q_L, Q_R0, fun h0_ _ => absurd ((hoff 4 (by kernel_rfl)).symm.trans h0_) (by decide), fun h0_ => absurd ((hoff 8 (by kernel_rfl)).symm.trans h0_) (by decide), fun h0_ => absurd ((hoff 9 (by kernel_rfl)).symm.trans h0_) (by decide)⟩
    refine steps_cons ?_ ?_
    · rintro b a w' ⟨v1, v2, m9_, ha, Q_F, Q_L, Q_R0, Q_R1, Q_R2, Q_X9_⟩ hb_ hon hoff
      refine ⟨_, rfl, fun K hK => ?_⟩
      have e152 : a.tmps[152]? = some (v) := by rw [ha]; exact putSel_on (e := (0, 152, v)) 0 rfl rfl (hon 0 (by kernel_rfl)) rfl
      have e155 : a.tmps[155]? = some (.int .u64 (IntKind.u64.wrap ix)) := by rw [ha]; exact putSel_on (e := (3, 155, .int .u64 (IntKind.u64.wrap ix))) 3 rfl rfl (hon 3 (by kernel_rfl)) rfl
      replace ha := Aside0.mk ha
      have F := Aside0.mk Q_F
      have L := Aside0.mk Q_L
      have R0 := Aside0.mk (Q_R0 hb_)
      refine goes_ (N := some 156) Try.func26 (by kernel_rfl) rfl #[v, .int .i64 8, .int .u64 (IntKind.u64.wrap ix)] (by rfl) rfl rfl (by first | (simp only [List.map_toArray, List.map_cons, List.map_nil, Act.eval, Array.getD_eq_getD_getElem?, Option.getD_some, e152, e155]; done) | (simp only [List.map_toArray, List.map_cons, List.map_nil, Act.eval, Array.getD_eq_getD_getElem?, Option.getD_some, e152, e155]; rfl)) ?_
      refine (lay_calls w w' B v l ix 8 R0.out F.out (Nat.le_trans HBW.out L.out.size) (by decide) (by have := HL.out; (try simp only [List.length_append, wnum_length]); omega)).mono ?_
      rintro e w1_ ⟨v1_, rfl, hr1, hq1, hk1⟩
      refine ⟨_, rfl, ?_⟩
      refine hK.out _ _ ⟨v1_, v2, m9_, (by rw [ha.out]; exact putSel_upk 4 hb_ rfl rfl rfl), hq1, L.out.trans hk1, fun h0_ => absurd ((up_self b 4).symm.trans h0_) (by decide), fun _ _ => hr1, fun h0_ => absurd ((hoff 8 (by kernel_rfl)).symm.trans h0_) (by decide), fun h0_ => absurd ((hoff 9 (by kernel_rfl)).symm.trans h0_) (by decide)⟩
    refine steps_cons ?_ ?_
    · rintro b a w' ⟨v1, v2, m9_, ha, Q_F, Q_L, Q_R0, Q_R1, Q_R2, Q_X9_⟩ hb_ hon hoff
      refine ⟨_, rfl, fun K hK => ?_⟩
      have e1 : a.tmps[1]? = some (.pointer (some ⟨g, 0, none⟩)) := by rw [ha]; exact (putSel_off rfl).trans rfl
      replace ha := Aside0.mk ha
      have F := Aside0.mk Q_F
      have L := Aside0.mk Q_L
      refine value_ (w1 := w') (v := .pointer (some ⟨g, 5, none⟩)) (by rfl) rfl ?_ ?_
      · go_simp
        (try simp only [i64_w])
        try rfl
      refine hK.out _ _ ⟨v1, v2, m9_, (by rw [ha.out]; exact putSel_upk 5 hb_ rfl rfl rfl), Q_F, Q_L, Q_R0, Q_R1, fun h0_ => absurd ((hoff 8 (by kernel_rfl)).symm.trans h0_) (by decide), fun h0_ => absurd ((hoff 9 (by kernel_rfl)).symm.trans h0_) (by decide)⟩
    refine steps_cons ?_ ?_
    · rintro b a w' ⟨v1, v2, m9_, ha, Q_F, Q_L, Q_R0, Q_R1, Q_R2, Q_X9_⟩ hb_ hon hoff
      refine ⟨_, rfl, fun K hK => ?_⟩
      have e157 : a.tmps[157]? = some (.pointer (some ⟨g, 5, none⟩)) := by rw [ha]; exact putSel_on (e := (5, 157, .pointer (some ⟨g, 5, none⟩))) 5 rfl rfl (hon 5 (by kernel_rfl)) rfl
      replace ha := Aside0.mk ha
      have F := Aside0.mk Q_F
      have L := Aside0.mk Q_L
      have m0 : w'.cell? ⟨g, 5, none⟩ = some (.int .i64 lt) := blk_cell (L.out.blk HX1.out (by decide)) 5
      refine value_ (w1 := w') (v := .int .i64 lt) (by rfl) rfl ?_ ?_
      · go_simp
        (try simp only [i64_w])
        try rfl
      refine hK.out _ _ ⟨v1, v2, m9_, (by rw [ha.out]; exact putSel_upk 6 hb_ rfl rfl rfl), Q_F, Q_L, Q_R0, Q_R1, fun h0_ => absurd ((hoff 8 (by kernel_rfl)).symm.trans h0_) (by decide), fun h0_ => absurd ((hoff 9 (by kernel_rfl)).symm.trans h0_) (by decide)⟩
    refine steps_cons ?_ ?_
    · rintro b a w' ⟨v1, v2, m9_, ha, Q_F, Q_L, Q_R0, Q_R1, Q_R2, Q_X9_⟩ hb_ hon hoff
      refine ⟨_, rfl, fun K hK => ?_⟩
      have e158 : a.tmps[158]? = some (.int .i64 lt) := by rw [ha]; exact putSel_on (e := (6, 158, .int .i64 lt)) 6 rfl rfl (hon 6 (by kernel_rfl)) rfl
      replace ha := Aside0.mk ha
      have F := Aside0.mk Q_F
      have L := Aside0.mk Q_L
      refine value_ (w1 := w') (v := .int .u64 (IntKind.u64.wrap lt)) (by rfl) rfl ?_ ?_
      · go_simp
        (try simp only [i64_w])
        try rfl
      refine hK.out _ _ ⟨v1, v2, m9_, (by rw [ha.out]; exact putSel_upk 7 hb_ rfl rfl rfl), Q_F, Q_L, Q_R0, Q_R1, fun h0_ => absurd ((hoff 8 (by kernel_rfl)).symm.trans h0_) (by decide), fun h0_ => absurd ((hoff 9 (by kernel_rfl)).symm.trans h0_) (by decide)⟩
    refine steps_cons ?_ ?_
    · rintro b a w' ⟨v1, v2, m9_, ha, Q_F, Q_L, Q_R0, Q_R1, Q_R2, Q_X9_⟩ hb_ hon hoff
      refine ⟨_, rfl, fun K hK => ?_⟩
      have e156 : a.tmps[156]? = some (v1) := by rw [ha]; exact putSel_on (e := (4, 156, v1)) 4 rfl rfl (hon 4 (by kernel_rfl)) rfl
      have e159 : a.tmps[159]? = some (.int .u64 (IntKind.u64.wrap lt)) := by rw [ha]; exact putSel_on (e := (7, 159, .int .u64 (IntKind.u64.wrap lt))) 7 rfl rfl (hon 7 (by kernel_rfl)) rfl
      replace ha := Aside0.mk ha
      have F := Aside0.mk Q_F
      have L := Aside0.mk Q_L
      have R1 := Aside0.mk (Q_R1 (hon 4 (by kernel_rfl)) hb_)
      refine goes_ (N := some 160) Try.func26 (by kernel_rfl) rfl #[v1, .int .i64 8, .int .u64 (IntKind.u64.wrap lt)] (by rfl) rfl rfl (by first | (simp only [List.map_toArray, List.map_cons, List.map_nil, Act.eval, Array.getD_eq_getD_getElem?, Option.getD_some, e156, e159]; done) | (simp only [List.map_toArray, List.map_cons, List.map_nil, Act.eval, Array.getD_eq_getD_getElem?, Option.getD_some, e156, e159]; rfl)) ?_
      refine (lay_calls w w' B v1 (l ++ wnum ix 8) lt 8 R1.out F.out (Nat.le_trans HBW.out L.out.size) (by decide) (by have := HL.out; (try simp only [List.length_append, wnum_length]); omega)).mono ?_
      rintro e w1_ ⟨v1_, rfl, hr1, hq1, hk1⟩
      refine ⟨_, rfl, ?_⟩
      refine hK.out _ _ ⟨v1, v1_, m9_, (by rw [ha.out]; exact putSel_upk 8 hb_ rfl rfl rfl), hq1, L.out.trans hk1, fun h0_ => absurd ((hon 4 (by kernel_rfl)).symm.trans h0_) (by decide), fun _ h1_ => absurd ((up_self b 8).symm.trans h1_) (by decide), fun _ => hr1, fun h0_ => absurd ((hoff 9 (by kernel_rfl)).symm.trans h0_) (by decide)⟩
    refine steps_cons ?_ ?_
    · rintro b a w' ⟨v1, v2, m9_, ha, Q_F, Q_L, Q_R0, Q_R1, Q_R2, Q_X9_⟩ hb_ hon hoff
      refine ⟨_, rfl, fun K hK => ?_⟩
      have e160 : a.tmps[160]? = some (v2) := by rw [ha]; exact putSel_on (e := (8, 160, v2)) 8 rfl rfl (hon 8 (by kernel_rfl)) rfl
      replace ha := Aside0.mk ha
      have F := Aside0.mk Q_F
      have L := Aside0.mk Q_L
      have R2 := Aside0.mk (Q_R2 (hon 8 (by kernel_rfl)))
      refine value_ (w1 := w') (v := v2) (by rfl) rfl ?_ ?_
      · go_simp
        (try simp only [i64_w])
        try rfl
      refine hK.out _ _ ⟨v1, v2, (v2), (by rw [ha.out]; exact putSel_upk 9 hb_ rfl rfl rfl), Q_F, Q_L, fun h0_ => absurd ((hon 4 (by kernel_rfl)).symm.trans h0_) (by decide), fun _ h1_ => absurd ((hon 8 (by kernel_rfl)).symm.trans h1_) (by decide), Q_R2, fun _ => rfl⟩
    exact steps_nil
  · rintro b a w' hall ⟨v1, v2, m9_, ha, Q_F, Q_L, Q_R0, Q_R1, Q_R2, Q_X9_⟩
    clear F L R0
    have hb0_ := hall 0 (by kernel_rfl)
    have hb1_ := hall 1 (by kernel_rfl)
    have hb2_ := hall 2 (by kernel_rfl)
    have hb3_ := hall 3 (by kernel_rfl)
    have hb4_ := hall 4 (by kernel_rfl)
    have hb5_ := hall 5 (by kernel_rfl)
    have hb6_ := hall 6 (by kernel_rfl)
    have hb7_ := hall 7 (by kernel_rfl)
    have hb8_ := hall 8 (by kernel_rfl)
    have hb9_ := hall 9 (by kernel_rfl)
    subst ha
    obtain rfl := Q_X9_ hb9_
    simp only [putSel, hb0_, hb1_, hb2_, hb3_, hb4_, hb5_, hb6_, hb7_, hb8_, hb9_, if_true, Act.put, List.setIfInBounds_toArray, List.set_cons_zero, List.set_cons_succ]
    have F := Aside0.mk Q_F
    clear Q_F
    have L := Aside0.mk Q_L
    clear Q_L
    clear Q_R0
    clear Q_R1
    have R2 := Aside0.mk (Q_R2 hb8_)
    clear Q_R2
    clear hall hb0_ hb1_ hb2_ hb3_ hb4_ hb5_ hb6_ hb7_ hb8_ hb9_
    obtain ⟨A, c, ev, hc, hC⟩ := Kd.R_reads R2.out
    have HRL : Aside0 (((l ++ wnum ix 8) ++ wnum lt 8) = (l ++ wints [ix, lt])) := ⟨by simp [wints]⟩
    obtain ⟨n, hn⟩ : ∃ n, n = (((l ++ wnum ix 8) ++ wnum lt 8)).length := ⟨_, rfl⟩
    rw [← hn] at ev hc hC
    subst ev
    rw [HRL.out] at hC hn
    have HN := Aside0.mk hn
    have HC := Aside0.mk hC
    have HNC := Aside0.mk hc
    clear hn hC hc
    go_wp2
    rw [HRR.out]
    exact bodyPost_ret (v := .tuple #[.slice A n c, .int .i64 0]) (by simp [results, Try.results11, go_sem]) rfl (encQ_some HN.out HNC.out HC.out F.out)
end Go.Proofs.Ytbemfgpdfacdpaa.Ms
namespace Go.Proofs.Ytbemfgpdfacdpaa.Ms
open Go.RowKit Go.Proofs.Ytbemfgpdfacdpaa.Pr Go.Proofs.YtbemfgpdfacdpaaW.PrintWords Go.Proofs.YtbemfgpdfacdpaaW.PrintLast Go.Proofs.YtbemfgpdfacdpaaW.PrintMore
open Go.Proofs.Ytbemfgpdfacdpaa.QT (OwnAt)
set_option linter.unusedVariables false
set_option linter.unusedSimpArgs false
set_option maxHeartbeats 16000000 in
set_option maxRecDepth 100000 in
theorem refenc_k2 (fr tt tm ix lt cm : Int) (ys : Bool) (es : List S46) (si st : Int) (sm : List Int) (sd : ByteArray) (A8 : Option Addr) (n8 c8 : Nat) (A11 : Option Addr) (n11 c11 : Nat) (w : World) (R : Option (List Int)) (g : Nat) (w1 : World) (v : Value) (B : Nat) (l : List Int) (hX : w1.heap[g]? = some (.cells #[.int .i64 2, .int .i64 fr, .int .i64 tt, .int .i64 tm, .int .i64 ix, .int .i64 lt, .int .i64 cm, .bool ys, .slice A8 n8 c8, .int .i64 si, .int .i64 st, .slice A11 n11 c11, .string sd] 27 (0, 0))) (hW : Below w.heap.size w w1) (hBB : w.heap.size ≤ B) (hBW : B ≤ w1.heap.size) (hR : RB w w1 B v l) (hl : l.length ≤ 100) (yb : Int) (hRR : R = some (l ++ [yb]))
    (z0 z2 z3 z4 z5 z6 z9 z10 z11 z12 z13 z14 z15 z16 z17 z18 z19 z20 z21 z22 z23 z24 z25 z26 z27 z28 z29 z30 z31 z32 z33 z34 z35 z36 z37 z38 z39 z40 z41 z42 z43 z44 z45 z46 z47 z48 z49 z50 z51 z52 z53 z54 z55 z56 z57 z58 z59 z60 z61 z62 z63 z64 z65 z66 z67 z68 z69 z70 z71 z72 z73 z74 z75 z76 z77 z78 z79 z80 z81 z82 z83 z84 z85 z86 z87 z88 z89 z90 z91 z92 z93 z94 z95 z96 z97 z98 z99 z100 z101 z102 z103 z104 z105 z106 z107 z108 z109 z110 z111 z112 z113 z114 z115 z116 z117 z118 z119 z120 z121 z122 z123 z124 z125 z126 z127 z128 z129 z130 z131 z132 z133 z134 z135 z136 z137 z138 z139 z140 z141 z142 z143 z144 z145 z146 z147 z148 z149 z150 z151 z152 z153 z154 z155 z156 z157 z158 z159 z160 z161 z162 z163 z164 z165 z166 z167 z168 z169 z170 z171 z172 z173 z174 z175 z176 z177 z178 z179 z180 z181 z182 z183 z184 z185 z186 z187 z188 z189 z190 z191 z192 z193 z194 z195 z196 z197 z198 z199 z200 z201 z202 z203 z204 z205 z206 z207 z208 z209 z210 z211 z212 z213 z214 z215 z216 z217 z218 z219 z220 z221 z222 z223 z224 z225 z226 z227 z228 z229 z230 z231 z232 z233 z234 z235 z236 z237 z238 z239 z240 z241 z242 z243 z244 z245 z246 z247 z248 z249 z250 z251 z252 z253 : Value) : Code.wp Try.prog (encT 11) (bodyPost Try.prog Try.f11 (EncQ w R)) ⟨#[z0, .pointer (some ⟨g, 0, none⟩), z2, z3, z4, z5, z6, v, .int .u8 yb, z9, z10, z11, z12, z13, z14, z15, z16, z17, z18, z19, z20, z21, z22, z23, z24, z25, z26, z27, z28, z29, z30, z31, z32, z33, z34, z35, z36, z37, z38, z39, z40, z41, z42, z43, z44, z45, z46, z47, z48, z49, z50, z51, z52, z53, z54, z55, z56, z57, z58, z59, z60, z61, z62, z63, z64, z65, z66, z67, z68, z69, z70, z71, z72, z73, z74, z75, z76, z77, z78, z79, z80, z81, z82, z83, z84, z85, z86, z87, z88, z89, z90, z91, z92, z93, z94, z95, z96, z97, z98, z99, z100, z101, z102, z103, z104, z105, z106, z107, z108, z109, z110, z111, z112, z113, z114, z115, z116, z117, z118, z119, z120, z121, z122, z123, z124, z125, z126, z127, z128, z129, z130, z131, z132, z133, z134, z135, z136, z137, z138, z139, z140, z141, z142, z143, z144, z145, z146, z147, z148, z149, z150, z151, z152, z153, z154, z155, z156, z157, z158, z159, z160, z161, z162, z163, z164, z165, z166, z167, z168, z169, z170, z171, z172, z173, z174, z175, z176, z177, z178, z179, z180, z181, z182, z183, z184, z185, z186, z187, z188, z189, z190, z191, z192, z193, z194, z195, z196, z197, z198, z199, z200, z201, z202, z203, z204, z205, z206, z207, z208, z209, z210, z211, z212, z213, z214, z215, z216, z217, z218, z219, z220, z221, z222, z223, z224, z225, z226, z227, z228, z229, z230, z231, z232, z233, z234, z235, z236, z237, z238, z239, z240, z241, z242, z243, z244, z245, z246, z247, z248, z249, z250, z251, z252, z253], []⟩ w1 := by
  have HX1 := Aside0.mk hX
  have HW := Aside0.mk hW
  have HR := Aside0.mk hR
  have HL := Aside0.mk hl
  have HBB := Aside0.mk hBB
  have HBW := Aside0.mk hBW
  have HRR := Aside0.mk hRR
  clear hX hW hR hl hBB hBW hRR
  have q0 : w1.cell? ⟨g, 0, none⟩ = some (.int .i64 2) := blk_cell HX1.out 0
  conv => arg 2; whnf
  go_upto_region 25 with (fail)
  go_wp2_with (at_builtin; refine wpList_append_RB rfl _ _ 30 rfl rfl w (w1.alloc (.cells #[.int .u8 yb] 5)) B v l yb w1.heap.size rfl rfl (Kd.R_alloc HR.out _) (below_alloc HW.out _) (Nat.le_trans HBW.out (below_alloc (Below.refl _ _) _).size) HBB.out (blk_new _ _) (by have := HL.out; omega) ?_)
  intro v1 w2 hr hb hk
  have HR1 := Aside0.mk hr
  have F := Aside0.mk hb
  clear hr hb hk
  obtain ⟨A, c, ev, hc, hC⟩ := Kd.R_reads HR1.out
  have HRL : Aside0 ((l ++ [yb]) = (l ++ [yb])) := ⟨by simp [wints]⟩
  obtain ⟨n, hn⟩ : ∃ n, n = ((l ++ [yb])).length := ⟨_, rfl⟩
  rw [← hn] at ev hc hC
  subst ev
  rw [HRL.out] at hC hn
  have HN := Aside0.mk hn
  have HC := Aside0.mk hC
  have HNC := Aside0.mk hc
  clear hn hC hc
  go_wp2
  rw [HRR.out]
  exact bodyPost_ret (v := .tuple #[.slice A n c, .int .i64 0]) (by simp [results, Try.results11, go_sem]) rfl (encQ_some HN.out HNC.out HC.out F.out)
end Go.Proofs.Ytbemfgpdfacdpaa.Ms
