/- 3 texts of the proof, put together, less what is not used; what a tool printed stands among them. -/
import Derived.Test.YtbemfgpdfacdpaaMFld9
namespace Go.Proofs.Ytbemfgpdfacdpaa.Ms
open Go.RowKit Go.Proofs.Ytbemfgpdfacdpaa.Pr Go.Proofs.YtbemfgpdfacdpaaW.PrintWords Go.Proofs.YtbemfgpdfacdpaaW.PrintLast Go.Proofs.YtbemfgpdfacdpaaW.PrintMore
open Go.Proofs.Ytbemfgpdfacdpaa.QT (OwnAt)
set_option linter.unusedVariables false
set_option linter.unusedSimpArgs false
def negs (vs : List Int) : Bool := vs.any (fun x => decide (x < 0))
/-- What a kind writes behind the head, and whether that is bad. -/
def wbody (m : M13) : List Int × Bool :=
  if m.kd = 1 then (wints [m.ix, m.lt], negs [m.ix, m.lt])
  else if m.kd = 2 then ([if m.ys then 1 else 0], false)
  else if m.kd = 3 then (wints [m.ix, m.lt, m.cm] ++ wents m.es, negs [m.ix, m.lt, m.cm] || (decide (8 < m.es.length) || m.es.any oddE))
  else if m.kd = 4 then ([if m.ys then 1 else 0] ++ wints [m.ix], negs [m.ix])
  else if m.kd = 5 then (wints [m.si, m.st] ++ (wmem m.sm ++ wtext m.sd), negs [m.si, m.st] || ((decide (9 < m.sm.length) || negs m.sm) || decide (65536 < m.sd.size)))
  else ([], true)
def rawW (m : M13) : List Int := wnum m.kd 1 ++ wints [m.fr, m.tt, m.tm] ++ (wbody m).1
def badW (m : M13) : Bool := negs [m.fr, m.tt, m.tm] || (wbody m).2
def encP (m : M13) : Option (List Int) := if badW m = true then none else match decP (rawW m) with
  | none => none
  | some x => if sameP m x = true then some (rawW m) else none
theorem rawW_1 (fr tt tm ix lt cm : Int) (ys : Bool) (es : List S46) (si st : Int) (sm : List Int) (sd : ByteArray) : rawW ⟨1, fr, tt, tm, ix, lt, cm, ys, es, si, st, sm, sd⟩ = wnum 1 1 ++ wints [fr, tt, tm] ++ wints [ix, lt] := rfl
theorem rawW_2 (fr tt tm ix lt cm : Int) (ys : Bool) (es : List S46) (si st : Int) (sm : List Int) (sd : ByteArray) : rawW ⟨2, fr, tt, tm, ix, lt, cm, ys, es, si, st, sm, sd⟩ = wnum 2 1 ++ wints [fr, tt, tm] ++ [if ys then 1 else 0] := rfl
theorem rawW_4 (fr tt tm ix lt cm : Int) (ys : Bool) (es : List S46) (si st : Int) (sm : List Int) (sd : ByteArray) : rawW ⟨4, fr, tt, tm, ix, lt, cm, ys, es, si, st, sm, sd⟩ = wnum 4 1 ++ wints [fr, tt, tm] ++ ([if ys then 1 else 0] ++ wints [ix]) := rfl
theorem badW_1 (fr tt tm ix lt cm : Int) (ys : Bool) (es : List S46) (si st : Int) (sm : List Int) (sd : ByteArray) : badW ⟨1, fr, tt, tm, ix, lt, cm, ys, es, si, st, sm, sd⟩ = ([fr, tt, tm].any (fun x => decide (x < 0)) || [ix, lt].any (fun x => decide (x < 0))) := rfl
theorem badW_2 (fr tt tm ix lt cm : Int) (ys : Bool) (es : List S46) (si st : Int) (sm : List Int) (sd : ByteArray) : badW ⟨2, fr, tt, tm, ix, lt, cm, ys, es, si, st, sm, sd⟩ = ([fr, tt, tm].any (fun x => decide (x < 0)) || false) := rfl
theorem badW_3 (fr tt tm ix lt cm : Int) (ys : Bool) (es : List S46) (si st : Int) (sm : List Int) (sd : ByteArray) : badW ⟨3, fr, tt, tm, ix, lt, cm, ys, es, si, st, sm, sd⟩ = ([fr, tt, tm].any (fun x => decide (x < 0)) || ([ix, lt, cm].any (fun x => decide (x < 0)) || (decide (8 < es.length) || es.any oddE))) := rfl
theorem badW_4 (fr tt tm ix lt cm : Int) (ys : Bool) (es : List S46) (si st : Int) (sm : List Int) (sd : ByteArray) : badW ⟨4, fr, tt, tm, ix, lt, cm, ys, es, si, st, sm, sd⟩ = ([fr, tt, tm].any (fun x => decide (x < 0)) || [ix].any (fun x => decide (x < 0))) := rfl
theorem badW_5 (fr tt tm ix lt cm : Int) (ys : Bool) (es : List S46) (si st : Int) (sm : List Int) (sd : ByteArray) : badW ⟨5, fr, tt, tm, ix, lt, cm, ys, es, si, st, sm, sd⟩ = ([fr, tt, tm].any (fun x => decide (x < 0)) || ([si, st].any (fun x => decide (x < 0)) || ((decide (9 < sm.length) || sm.any (fun x => decide (x < 0))) || decide (65536 < sd.size)))) := rfl
theorem wnum_bytes (v : Int) : ∀ n, ∀ x ∈ wnum v n, 0 ≤ x ∧ x ≤ 255
  | 0 => fun x hx => by cases hx
  | n + 1 => fun x hx => by
    rw [wnum] at hx
    rcases List.mem_cons.1 hx with rfl | hx
    · omega
    · exact wnum_bytes v n x hx
theorem wints_bytes (vs : List Int) : ∀ x ∈ wints vs, 0 ≤ x ∧ x ≤ 255 := fun x hx => by
  obtain ⟨v, _, h⟩ := List.mem_flatMap.1 hx
  exact wnum_bytes v 8 x h
theorem app_bytes {a b : List Int} (ha : ∀ x ∈ a, 0 ≤ x ∧ x ≤ 255) (hb : ∀ x ∈ b, 0 ≤ x ∧ x ≤ 255) : ∀ x ∈ a ++ b, 0 ≤ x ∧ x ≤ 255 := fun x hx => (List.mem_append.1 hx).elim (ha x) (hb x)
theorem bytesOf_bytes (s : ByteArray) : ∀ x ∈ bytesOf s, 0 ≤ x ∧ x ≤ 255 := fun x hx => by
  obtain ⟨b, _, rfl⟩ := List.mem_map.1 hx
  have := b.toNat_lt
  omega
theorem wmem_bytes (vs : List Int) : ∀ x ∈ wmem vs, 0 ≤ x ∧ x ≤ 255 := app_bytes (wnum_bytes _ _) (wints_bytes _)
theorem wtext_bytes (s : ByteArray) : ∀ x ∈ wtext s, 0 ≤ x ∧ x ≤ 255 := app_bytes (wnum_bytes _ _) (bytesOf_bytes _)
theorem wents_bytes (es : List S46) : ∀ x ∈ wents es, 0 ≤ x ∧ x ≤ 255 := app_bytes (wnum_bytes _ _) (fun x hx => by
  obtain ⟨e, _, h⟩ := List.mem_flatMap.1 hx
  exact app_bytes (wints_bytes _) (app_bytes (wtext_bytes _) (wmem_bytes _)) x h)
theorem yes_bytes (y : Bool) : ∀ x ∈ [if y then (1 : Int) else 0], 0 ≤ x ∧ x ≤ 255 := fun x hx => by
  rw [List.mem_singleton] at hx
  cases y <;> simp at hx <;> omega
theorem rawW_bytes (m : M13) : ∀ x ∈ rawW m, 0 ≤ x ∧ x ≤ 255 := by
  refine app_bytes (app_bytes (wnum_bytes _ _) (wints_bytes _)) ?_
  unfold wbody
  split
  · exact wints_bytes _
  · split
    · exact yes_bytes _
    · split
      · exact app_bytes (wints_bytes _) (wents_bytes _)
      · split
        · exact app_bytes (yes_bytes _) (wints_bytes _)
        · split
          · exact app_bytes (wints_bytes _) (app_bytes (wmem_bytes _) (wtext_bytes _))
          · exact fun x hx => by cases hx
theorem C_ownB {w : World} {base : Nat} {A : Option Addr} {n c : Nat} {l : List Int} (h : OwnAt w base 5 (.slice A n c) (nums .u8 l)) : Kd.C (Kd.int .u8) w A l.length l := by
  have hm : l.length ≤ 9223372036854775807 := by
    obtain ⟨A', c', hv, h2, h3⟩ := h.slice
    rw [nums_length] at h2; omega
  refine Kd.C_of_reads (d := (0 : Int)) (h1 := fun _ => rfl) ⟨rfl, hm, fun h0 => ?_⟩
  obtain ⟨ad, hA, _, hc⟩ := h.cells (by rw [nums_length]; exact h0)
  exact ⟨ad, hA, fun j hj => hc j _ (by simp [nums, hj])⟩
theorem rawW_3 (fr tt tm ix lt cm : Int) (ys : Bool) (es : List S46) (si st : Int) (sm : List Int) (sd : ByteArray) : rawW ⟨3, fr, tt, tm, ix, lt, cm, ys, es, si, st, sm, sd⟩ = wnum 3 1 ++ wints [fr, tt, tm] ++ (wints [ix, lt, cm] ++ wents es) := rfl
theorem rawW_5 (fr tt tm ix lt cm : Int) (ys : Bool) (es : List S46) (si st : Int) (sm : List Int) (sd : ByteArray) : rawW ⟨5, fr, tt, tm, ix, lt, cm, ys, es, si, st, sm, sd⟩ = wnum 5 1 ++ wints [fr, tt, tm] ++ (wints [si, st] ++ (wmem sm ++ wtext sd)) := rfl
theorem wents_ge (es : List S46) : es.length ≤ (wents es).length := by
  have : ∀ es : List S46, es.length ≤ (es.flatMap wentry).length := fun es => by
    induction es with
    | nil => simp
    | cons e es ih =>
      rw [List.flatMap_cons, List.length_append, List.length_cons, wentry, List.length_append, wints_length]
      simp only [List.length_cons]
      omega
  have := this es
  rw [wents, List.length_append]
  omega
def EncQ (w : World) (r : Option (List Int)) (e : Ending) (w' : World) : Prop :=
  (∃ A n c, e = .returned (.tuple #[.slice A n c, .int .i64 (if r.isSome then 0 else 1)]) ∧ n = (r.getD []).length ∧ n ≤ c ∧ (Kd.int .u8).C w' A n (r.getD [])) ∧ Below w.heap.size w w'
theorem encQ_none {w W : World} (hB : Below w.heap.size w W) : EncQ w none (.returned (.tuple #[.slice none 0 0, .int .i64 1])) W :=
  ⟨⟨none, 0, 0, rfl, rfl, Nat.le_refl _, Kd.C_nil _ _⟩, hB⟩
theorem encQ_some {w W : World} {A : Option Addr} {n c : Nat} {bs : List Int} (hn : n = bs.length) (hc : n ≤ c) (hC : (Kd.int .u8).C W A n bs) (hB : Below w.heap.size w W) : EncQ w (some bs) (.returned (.tuple #[.slice A n c, .int .i64 0])) W :=
  ⟨⟨A, n, c, rfl, hn, hc, hC⟩, hB⟩
set_option maxHeartbeats 16000000 in
set_option maxRecDepth 100000 in
theorem encode_calls (m : M13) (A8 : Option Addr) (n8 c8 : Nat) (A11 : Option Addr) (n11 c11 : Nat) (w : World) (hE : k46.C w A8 n8 m.es) (hE1 : n8 = m.es.length) (hE2 : n8 ≤ c8) (hS : (Kd.int .i64).C w A11 n11 m.sm) (hS1 : n11 = m.sm.length) (hS2 : n11 ≤ c11)
    (hl : (rawW m).length ≤ 140737488000000) (hSL : m.sm.length ≤ 140737488355328) :
    Calls Try.prog 10 #[.agg (mcells m (.slice A8 n8 c8) (.slice A11 n11 c11))] w (EncQ w (encP m)) := by
  have HE := Aside0.mk hE
  have HE1 := Aside0.mk hE1
  have HE2 := Aside0.mk hE2
  have HS := Aside0.mk hS
  have HS1 := Aside0.mk hS1
  have HS2 := Aside0.mk hS2
  have HL := Aside0.mk hl
  obtain ⟨q, hq⟩ : ∃ q, q = encP m := ⟨_, rfl⟩
  rw [← hq]
  have HQ := Aside0.mk hq
  obtain ⟨mm, hmm⟩ : ∃ mm, mm = m := ⟨_, rfl⟩
  obtain ⟨kd, fr, tt, tm, ix, lt, cm, ys, es, si, st, sm, sd⟩ := m
  have HMM := Aside0.mk hmm
  have HE1 : Aside0 (n8 = es.length) := ⟨hE1⟩
  have HS1 : Aside0 (n11 = sm.length) := ⟨hS1⟩
  have HSL : Aside0 (sm.length ≤ 140737488355328) := ⟨hSL⟩
  have HE : Aside0 (k46.C w A8 es.length es) := ⟨by have q := hE; rw [hE1] at q; exact q⟩
  have HS : Aside0 ((Kd.int .i64).C w A11 sm.length sm) := ⟨by have q := hS; rw [hS1] at q; exact q⟩
  clear hE hE1 hE2 hS hS1 hS2 hl hq hmm hSL
  unfold mcells
  go_enter Try.func10, Try.ntmps10
  go_upto_region 2 with (fail)
  generalize hw1 : World.alloc (World.alloc w _) _ = w1
  obtain ⟨gb, hgb⟩ : ∃ gb, gb = w.heap.size := ⟨_, rfl⟩
  rw [← hgb]
  have HX1 : Aside0 (w1.heap[gb]? = some (.cells #[.int .i64 kd, .int .i64 fr, .int .i64 tt, .int .i64 tm, .int .i64 ix, .int .i64 lt, .int .i64 cm, .bool ys, .slice A8 n8 c8, .int .i64 si, .int .i64 st, .slice A11 n11 c11, .string sd] 27 (0, 0))) := ⟨by rw [← hw1, hgb]; exact blk_alloc (blk_new _ _) _⟩
  have HW1 : Aside0 (Wr w1 (gb + 1) [] false) := ⟨⟨none, 0, 0, by rw [← hw1, hgb]; exact blk_here _ _ (by simp), rfl, fun _ => rfl, OwnAt.nil _ _ _⟩⟩
  have HB1 : Aside0 (Below w.heap.size w w1) := ⟨by rw [← hw1]; exact below_alloc (below_alloc (Below.refl _ _) _) _⟩
  have HGB : Aside0 (w.heap.size = gb) := ⟨hgb.symm⟩
  have c0 : w1.cell? ⟨gb, 0, none⟩ = some (.int .i64 kd) := blk_cell HX1.out 0
  clear hw1 hgb
  refine QT.region 5 (by kernel_rfl) (by kernel_rfl) ?_
  simp only [List.take_succ_cons, List.take_zero, List.drop_succ_cons, List.drop_zero]
  repeat (go_big_quiet_step ((fail)))
  refine wpQuiet_nil ?_
  intro nq
  go_wp2_with fail
  obtain ⟨w2, hw2⟩ : ∃ w2, w2 = w1.drewN nq := ⟨_, rfl⟩
  rw [← hw2]
  have HX2 : Aside0 (w2.heap[gb]? = some (.cells #[.int .i64 kd, .int .i64 fr, .int .i64 tt, .int .i64 tm, .int .i64 ix, .int .i64 lt, .int .i64 cm, .bool ys, .slice A8 n8 c8, .int .i64 si, .int .i64 st, .slice A11 n11 c11, .string sd] 27 (0, 0))) := ⟨by rw [hw2]; exact HX1.out⟩
  have HW2 : Aside0 (Wr w2 (gb + 1) [] false) := ⟨by rw [hw2]; exact HW1.out.below (pw_below_drewN (Below.refl _ _) nq)⟩
  have HB2 : Aside0 (Below w.heap.size w w2) := ⟨by rw [hw2]; exact pw_below_drewN HB1.out nq⟩
  have HG2 : Aside0 (gb + 1 < w2.heap.size) := ⟨by obtain ⟨_, _, _, h, _⟩ := HW2.out; exact blk_lt h⟩
  clear hw2 HX1 HW1 HB1 c0
  refine (wnum_calls w2 (gb + 1) [] false kd 1 HW2.out (by decide) (by decide)).mono ?_
  rintro e w3 ⟨rfl, hW3, hK3⟩
  rw [List.nil_append] at hW3
  have HK3 := Aside0.mk hK3
  have HX3 : Aside0 (w3.heap[gb]? = some (.cells #[.int .i64 kd, .int .i64 fr, .int .i64 tt, .int .i64 tm, .int .i64 ix, .int .i64 lt, .int .i64 cm, .bool ys, .slice A8 n8 c8, .int .i64 si, .int .i64 st, .slice A11 n11 c11, .string sd] 27 (0, 0))) := ⟨hK3.blk HX2.out (by omega) (by decide)⟩
  have HW3 := Aside0.mk hW3
  clear hW3 hK3 HX2 HW2
  have cf1 : w3.cell? ⟨gb, 1, none⟩ = some (.int .i64 fr) := blk_cell HX3.out 1
  have cf2 : w3.cell? ⟨gb, 2, none⟩ = some (.int .i64 tt) := blk_cell HX3.out 2
  have cf3 : w3.cell? ⟨gb, 3, none⟩ = some (.int .i64 tm) := blk_cell HX3.out 3
  have hgs : gb + 1 < w3.heap.size := by obtain ⟨_, _, _, h, _⟩ := HW3.out; exact blk_lt h
  go_wp2_with fail
  refine (wints_calls _ (gb + 1) _ _ (some ⟨w3.heap.size, 0, none⟩) 3 3 [fr, tt, tm] (HW3.out.below (below_alloc (Below.refl _ _) _)) (fun W' hW => C_boxL (hW.blk (blk_new w3 _) (by omega) (by decide)) (by simp)) rfl (Nat.le_refl _) (by decide) (by simp only [List.length_append, wnum_length, wints_length, List.length_cons, List.length_nil]; omega)).mono ?_
  rintro e w4 ⟨rfl, hW, hK⟩
  clear cf1 cf2 cf3 hgs
  have hK' : WK w3 w4 (gb + 1) := ((WK.refl _ _).alloc _).trans hK
  have HX4 : Aside0 (w4.heap[gb]? = some (.cells #[.int .i64 kd, .int .i64 fr, .int .i64 tt, .int .i64 tm, .int .i64 ix, .int .i64 lt, .int .i64 cm, .bool ys, .slice A8 n8 c8, .int .i64 si, .int .i64 st, .slice A11 n11 c11, .string sd] 27 (0, 0))) := ⟨hK'.blk HX3.out (by omega) (by decide)⟩
  have HW4 := Aside0.mk hW
  have HK4 := Aside0.mk (HK3.out.trans hK')
  clear hW hK hK' HX3 HW3 HK3
  have c0 : w4.cell? ⟨gb, 0, none⟩ = some (.int .i64 kd) := blk_cell HX4.out 0
  by_cases h1 : kd = 1
  · subst h1
    have cf4 : w4.cell? ⟨gb, 4, none⟩ = some (.int .i64 ix) := blk_cell HX4.out 4
    have cf5 : w4.cell? ⟨gb, 5, none⟩ = some (.int .i64 lt) := blk_cell HX4.out 5
    have hgs : gb + 1 < w4.heap.size := by obtain ⟨_, _, _, h, _⟩ := HW4.out; exact blk_lt h
    go_wp2_with fail
    refine (wints_calls _ (gb + 1) _ _ (some ⟨w4.heap.size, 0, none⟩) 2 2 [ix, lt] (HW4.out.below (below_alloc (Below.refl _ _) _)) (fun W' hW => C_boxL (hW.blk (blk_new w4 _) (by omega) (by decide)) (by simp)) rfl (Nat.le_refl _) (by decide) (by simp only [List.length_append, wnum_length, wints_length, List.length_cons, List.length_nil]; omega)).mono ?_
    rintro e w5 ⟨rfl, hW, hK⟩
    clear cf4 cf5 hgs
    have hK' : WK w4 w5 (gb + 1) := ((WK.refl _ _).alloc _).trans hK
    have HX5 : Aside0 (w5.heap[gb]? = some (.cells #[.int .i64 1, .int .i64 fr, .int .i64 tt, .int .i64 tm, .int .i64 ix, .int .i64 lt, .int .i64 cm, .bool ys, .slice A8 n8 c8, .int .i64 si, .int .i64 st, .slice A11 n11 c11, .string sd] 27 (0, 0))) := ⟨hK'.blk HX4.out (by omega) (by decide)⟩
    have HW5 := Aside0.mk hW
    have HK5 := Aside0.mk (HK4.out.trans hK')
    clear hW hK hK' HX4 HW4 HK4
    go_upto_region 20 with (fail)
    have HWT : Aside0 (Wr w5 (gb + 1) (rawW (⟨1, fr, tt, tm, ix, lt, cm, ys, es, si, st, sm, sd⟩ : M13)) (badW (⟨1, fr, tt, tm, ix, lt, cm, ys, es, si, st, sm, sd⟩ : M13))) := ⟨by have q := HW5.out; rw [Bool.false_or] at q; simpa only [rawW_1, badW_1, List.append_assoc, Bool.or_assoc, Bool.or_false] using q⟩
    obtain ⟨W, hW⟩ : ∃ W, W = w5 := ⟨_, rfl⟩
    have HXT : Aside0 (W.heap[gb]? = some (.cells #[.int .i64 1, .int .i64 fr, .int .i64 tt, .int .i64 tm, .int .i64 ix, .int .i64 lt, .int .i64 cm, .bool ys, .slice A8 n8 c8, .int .i64 si, .int .i64 st, .slice A11 n11 c11, .string sd] 27 (0, 0))) := ⟨by rw [hW]; exact HX5.out⟩
    have HBT : Aside0 (Below w.heap.size w W) := ⟨by rw [hW]; exact HB2.out.trans ((HK5.out.below (by have := HG2.out; omega)).mono (by have := HGB.out; omega))⟩
    rw [← hW] at HWT ⊢
    have HQT := HQ

    have HLT := HL
    obtain ⟨bd, hbd⟩ : ∃ bd, bd = badW (⟨1, fr, tt, tm, ix, lt, cm, ys, es, si, st, sm, sd⟩ : M13) := ⟨_, rfl⟩
    obtain ⟨bs, hbs⟩ : ∃ bs, bs = rawW (⟨1, fr, tt, tm, ix, lt, cm, ys, es, si, st, sm, sd⟩ : M13) := ⟨_, rfl⟩
    rw [← hbd, ← hbs] at HWT
    rw [← hbs] at HLT
    have hq : q = if bd = true then none else match decP bs with
        | none => none
        | some x => if sameP (⟨1, fr, tt, tm, ix, lt, cm, ys, es, si, st, sm, sd⟩ : M13) x = true then some bs else none := by rw [HQT.out, encP, ← hbd, ← hbs]
    have HQ2 := Aside0.mk hq
    have hby : ∀ x ∈ bs, 0 ≤ x ∧ x ≤ 255 := by rw [hbs]; exact rawW_bytes _
    have HBY := Aside0.mk hby
    clear hW hbd hbs hq hby HQT HQ HL HMM HX5 HW5 HK5 HB2
    obtain ⟨A, n, c, hb, hn, hz, hO⟩ := HWT.out
    have t0 : W.cell? ⟨gb + 1, 0, none⟩ = some (.slice A n c) := blk_cell hb 0
    have t1 : W.cell? ⟨gb + 1, 1, none⟩ = some (.bool bd) := blk_cell hb 1
    have HN := Aside0.mk hn
    have HO := Aside0.mk hO
    have HBK := Aside0.mk hb
    clear hb hn hz hO
    cases bd
    · go_wp2_with fail
      have hC := C_ownB HO.out
      refine (decode_calls A n c bs W hC HN.out (by have q := HO.out.slice; obtain ⟨_, _, e, h, _⟩ := q; rw [nums_length] at e h; cases e; rw [HN.out]; exact h) HBY.out (by rw [HN.out]; have := HLT.out; omega)).mono ?_
      rintro e u ⟨⟨B8, p8, d8, B11, p11, d11, rfl, hp1, hp2, hp3, hp4, hp5, hp6⟩, hBu⟩
      have hbu := blk_below HBK.out hBu
      have HXU := Aside0.mk (blk_below HXT.out hBu)
      have HCU : Aside0 ((Kd.int .u8).C u A n bs) := ⟨by rw [HN.out]; exact Kd.C_below hC hBu⟩
      have HBU := Aside0.mk (HBT.out.trans (hBu.mono HBT.out.size))
      have hnc : n ≤ c := by have q := HO.out.slice; obtain ⟨_, _, e, h, _⟩ := q; rw [nums_length] at e h; cases e; rw [HN.out]; exact h
      have HNC := Aside0.mk hnc
      cases hd : decP bs
      · obtain rfl : q = none := by rw [HQ2.out, hd]; rfl
        simp only [Option.getD_none, Option.isSome_none, Bool.false_eq_true, ↓reduceIte]
        have HFIN := Aside0.mk HBU.out
        clear hp1 hp2 hp3 hp4 hp5 hp6 hd hbu hBu hC t0 t1
        go_upto_region 23 with (refine wpList_store_row rfl 27 _ _ rfl u.heap.size (mcells M0 (.slice B8 p8 d8) (.slice B11 p11 d11)) rfl rfl 27 _ (blk_new u _) size_msg rfl (one_cells _ _ _ _ _ _ _) ?_)
        go_wp2
        exact bodyPost_ret (v := .tuple #[.slice none 0 0, .int .i64 1]) (by simp [results, Try.results10, go_sem]) rfl (encQ_none (below_setRow (below_alloc HBU.out _) HBU.out.size _))
      · rename_i x
        rw [hd] at hp1 hp3 hp4 hp6
        simp only [Option.getD_some, Option.isSome_some, ↓reduceIte]
        have hq := HQ2.out
        rw [hd] at hq
        have HQ3 := Aside0.mk hq
        have hsf := same_f (⟨1, fr, tt, tm, ix, lt, cm, ys, es, si, st, sm, sd⟩ : M13) x (by show sm.length ≤ _; have := HSL.out; omega)
        obtain ⟨sp, hsp⟩ : ∃ sp, sp = sameP (⟨1, fr, tt, tm, ix, lt, cm, ys, es, si, st, sm, sd⟩ : M13) x := ⟨_, rfl⟩
        rw [← hsp] at hsf
        have HSP := Aside0.mk hsp
        obtain ⟨x0, x1, x2, x3, x4, x5, x6, x7, x8, x9, x10, x11, x12⟩ := x
        have hp3' : k46.C u B8 x8.length x8 := by have q := hp3; rw [hp1] at q; exact q
        have hp6' : (Kd.int .i64).C u B11 x11.length x11 := by have q := hp6; rw [hp4] at q; exact q
        have hp1' : p8 = x8.length := hp1
        have hp4' : p11 = x11.length := hp4
        have HP1 := Aside0.mk hp1'
        have HP2 := Aside0.mk hp2
        have HP3 := Aside0.mk hp3'
        have HP4 := Aside0.mk hp4'
        have HP5 := Aside0.mk hp5
        have HP6 := Aside0.mk hp6'
        have HSF := Aside0.mk hsf
        clear hp1 hp2 hp3 hp4 hp5 hp6 hp1' hp3' hp4' hp6' hd hq hsf hsp hBu hC t0 t1
        go_upto_region 23 with (refine wpList_store_row rfl 27 _ _ rfl u.heap.size (mcells ⟨x0, x1, x2, x3, x4, x5, x6, x7, x8, x9, x10, x11, x12⟩ (.slice B8 p8 d8) (.slice B11 p11 d11)) rfl rfl 27 _ (blk_new u _) size_msg rfl (one_cells _ _ _ _ _ _ _) ?_)
        generalize hv : World.setRow (World.alloc u _) _ _ = v
        obtain ⟨gd, hgd⟩ : ∃ gd, gd = u.heap.size := ⟨_, rfl⟩
        rw [← hgd]
        have hUV : Below u.heap.size u v := by rw [← hv]; exact below_setRow (below_alloc (Below.refl _ _) _) (Nat.le_refl _) _
        have HDV : Aside0 (v.heap[gd]? = some (.cells #[.int .i64 x0, .int .i64 x1, .int .i64 x2, .int .i64 x3, .int .i64 x4, .int .i64 x5, .int .i64 x6, .bool x7, .slice B8 p8 d8, .int .i64 x9, .int .i64 x10, .slice B11 p11 d11, .string x12] 27 (0, 0))) := ⟨by rw [← hv, hgd]; exact setRow_heap _ _ _ _ _ _ (blk_new _ _)⟩
        have HXV := Aside0.mk (blk_below HXU.out hUV)
        have HCV := Aside0.mk (Kd.C_below HCU.out hUV)
        have HBV := Aside0.mk (HBU.out.trans (hUV.mono HBU.out.size))
        have HEV := Aside0.mk (Kd.C_below HE.out (HBV.out))
        have HSV := Aside0.mk (Kd.C_below HS.out (HBV.out))
        have HP3V := Aside0.mk (Kd.C_below HP3.out hUV)
        have HP6V := Aside0.mk (Kd.C_below HP6.out hUV)
        have HWV := Aside0.mk (blk_below hbu hUV)
        have t0 : v.cell? ⟨gb + 1, 0, none⟩ = some (.slice A n c) := blk_cell HWV.out 0
        clear hv hgd hUV hbu
        have gd0 : v.cell? ⟨gb, 0, none⟩ = some (.int .i64 1) := blk_cell HXV.out 0
        have gd1 : v.cell? ⟨gb, 1, none⟩ = some (.int .i64 fr) := blk_cell HXV.out 1
        have gd2 : v.cell? ⟨gb, 2, none⟩ = some (.int .i64 tt) := blk_cell HXV.out 2
        have gd3 : v.cell? ⟨gb, 3, none⟩ = some (.int .i64 tm) := blk_cell HXV.out 3
        have gd4 : v.cell? ⟨gb, 4, none⟩ = some (.int .i64 ix) := blk_cell HXV.out 4
        have gd5 : v.cell? ⟨gb, 5, none⟩ = some (.int .i64 lt) := blk_cell HXV.out 5
        have gd6 : v.cell? ⟨gb, 6, none⟩ = some (.int .i64 cm) := blk_cell HXV.out 6
        have gd7 : v.cell? ⟨gb, 7, none⟩ = some (.bool ys) := blk_cell HXV.out 7
        have gd8 : v.cell? ⟨gb, 8, none⟩ = some (.slice A8 n8 c8) := blk_cell HXV.out 8
        have gd9 : v.cell? ⟨gb, 9, none⟩ = some (.int .i64 si) := blk_cell HXV.out 9
        have gd10 : v.cell? ⟨gb, 10, none⟩ = some (.int .i64 st) := blk_cell HXV.out 10
        have gd11 : v.cell? ⟨gb, 11, none⟩ = some (.slice A11 n11 c11) := blk_cell HXV.out 11
        have gd12 : v.cell? ⟨gb, 12, none⟩ = some (.string sd) := blk_cell HXV.out 12
        have hd0 : v.cell? ⟨gd, 0, none⟩ = some (.int .i64 x0) := blk_cell HDV.out 0
        have hd1 : v.cell? ⟨gd, 1, none⟩ = some (.int .i64 x1) := blk_cell HDV.out 1
        have hd2 : v.cell? ⟨gd, 2, none⟩ = some (.int .i64 x2) := blk_cell HDV.out 2
        have hd3 : v.cell? ⟨gd, 3, none⟩ = some (.int .i64 x3) := blk_cell HDV.out 3
        have hd4 : v.cell? ⟨gd, 4, none⟩ = some (.int .i64 x4) := blk_cell HDV.out 4
        have hd5 : v.cell? ⟨gd, 5, none⟩ = some (.int .i64 x5) := blk_cell HDV.out 5
        have hd6 : v.cell? ⟨gd, 6, none⟩ = some (.int .i64 x6) := blk_cell HDV.out 6
        have hd7 : v.cell? ⟨gd, 7, none⟩ = some (.bool x7) := blk_cell HDV.out 7
        have hd8 : v.cell? ⟨gd, 8, none⟩ = some (.slice B8 p8 d8) := blk_cell HDV.out 8
        have hd9 : v.cell? ⟨gd, 9, none⟩ = some (.int .i64 x9) := blk_cell HDV.out 9
        have hd10 : v.cell? ⟨gd, 10, none⟩ = some (.int .i64 x10) := blk_cell HDV.out 10
        have hd11 : v.cell? ⟨gd, 11, none⟩ = some (.slice B11 p11 d11) := blk_cell HDV.out 11
        have hd12 : v.cell? ⟨gd, 12, none⟩ = some (.string x12) := blk_cell HDV.out 12
        go_wp2_with fail
        have qs := msg_same.calls (sm.length + 1) 1 fr tt tm ix lt cm ys A8 c8 es si st A11 c11 sm sd x0 x1 x2 x3 x4 x5 x6 x7 B8 d8 x8 x9 x10 B11 d11 x11 x12 sp v HEV.out (by rw [← HE1.out]; exact HE2.out) HSV.out (by rw [← HS1.out]; exact HS2.out) HP3V.out (by rw [← HP1.out]; exact HP2.out) HP6V.out (by rw [← HP4.out]; exact HP5.out) HSF.out
        rw [← HE1.out, ← HS1.out, ← HP1.out, ← HP4.out] at qs
        refine qs.mono ?_
        rintro e v2 ⟨rfl, hV2⟩
        have HBV2 := Aside0.mk (HBV.out.trans (hV2.mono HBV.out.size))
        have HCV2 := Aside0.mk (Kd.C_below HCV.out hV2)
        have t0 : v2.cell? ⟨gb + 1, 0, none⟩ = some (.slice A n c) := blk_cell (blk_below HWV.out hV2) 0
        clear hV2 gd0 hd0 gd1 hd1 gd2 hd2 gd3 hd3 gd4 hd4 gd5 hd5 gd6 hd6 gd7 hd7 gd8 hd8 gd9 hd9 gd10 hd10 gd11 hd11 gd12 hd12 qs
        cases sp
        · obtain rfl : q = none := by rw [HQ3.out, ← HSP.out]; rfl
          go_wp2
          exact bodyPost_ret (v := .tuple #[.slice none 0 0, .int .i64 1]) (by simp [results, Try.results10, go_sem]) rfl (encQ_none HBV2.out)
        · obtain rfl : q = some bs := by rw [HQ3.out, ← HSP.out]; rfl
          go_wp2
          exact bodyPost_ret (v := .tuple #[.slice A n c, .int .i64 0]) (by simp [results, Try.results10, go_sem]) rfl (encQ_some HN.out HNC.out HCV2.out HBV2.out)
    · obtain rfl : q = none := by rw [HQ2.out]; rfl
      go_wp2
      exact bodyPost_ret (v := .tuple #[.slice none 0 0, .int .i64 1]) (by simp [results, Try.results10, go_sem]) rfl (encQ_none HBT.out)
  · by_cases h2 : kd = 2
    · subst h2
      have cf7 : w4.cell? ⟨gb, 7, none⟩ = some (.bool ys) := blk_cell HX4.out 7
      go_wp2_with fail
      refine (wyes_calls w4 (gb + 1) _ _ ys HW4.out (by simp only [List.length_append, wnum_length, wints_length, List.length_cons, List.length_nil]; omega)).mono ?_
      rintro e w5 ⟨rfl, hW, hK⟩
      clear cf7
      have hK' : WK w4 w5 (gb + 1) := hK
      have HX5 : Aside0 (w5.heap[gb]? = some (.cells #[.int .i64 2, .int .i64 fr, .int .i64 tt, .int .i64 tm, .int .i64 ix, .int .i64 lt, .int .i64 cm, .bool ys, .slice A8 n8 c8, .int .i64 si, .int .i64 st, .slice A11 n11 c11, .string sd] 27 (0, 0))) := ⟨hK'.blk HX4.out (by omega) (by decide)⟩
      have HW5 := Aside0.mk hW
      have HK5 := Aside0.mk (HK4.out.trans hK')
      clear hW hK hK' HX4 HW4 HK4
      go_upto_region 20 with (fail)
      have HWT : Aside0 (Wr w5 (gb + 1) (rawW (⟨2, fr, tt, tm, ix, lt, cm, ys, es, si, st, sm, sd⟩ : M13)) (badW (⟨2, fr, tt, tm, ix, lt, cm, ys, es, si, st, sm, sd⟩ : M13))) := ⟨by have q := HW5.out; rw [Bool.false_or] at q; simpa only [rawW_2, badW_2, List.append_assoc, Bool.or_assoc, Bool.or_false] using q⟩
      obtain ⟨W, hW⟩ : ∃ W, W = w5 := ⟨_, rfl⟩
      have HXT : Aside0 (W.heap[gb]? = some (.cells #[.int .i64 2, .int .i64 fr, .int .i64 tt, .int .i64 tm, .int .i64 ix, .int .i64 lt, .int .i64 cm, .bool ys, .slice A8 n8 c8, .int .i64 si, .int .i64 st, .slice A11 n11 c11, .string sd] 27 (0, 0))) := ⟨by rw [hW]; exact HX5.out⟩
      have HBT : Aside0 (Below w.heap.size w W) := ⟨by rw [hW]; exact HB2.out.trans ((HK5.out.below (by have := HG2.out; omega)).mono (by have := HGB.out; omega))⟩
      rw [← hW] at HWT ⊢
      have HQT := HQ

      have HLT := HL
      obtain ⟨bd, hbd⟩ : ∃ bd, bd = badW (⟨2, fr, tt, tm, ix, lt, cm, ys, es, si, st, sm, sd⟩ : M13) := ⟨_, rfl⟩
      obtain ⟨bs, hbs⟩ : ∃ bs, bs = rawW (⟨2, fr, tt, tm, ix, lt, cm, ys, es, si, st, sm, sd⟩ : M13) := ⟨_, rfl⟩
      rw [← hbd, ← hbs] at HWT
      rw [← hbs] at HLT
      have hq : q = if bd = true then none else match decP bs with
          | none => none
          | some x => if sameP (⟨2, fr, tt, tm, ix, lt, cm, ys, es, si, st, sm, sd⟩ : M13) x = true then some bs else none := by rw [HQT.out, encP, ← hbd, ← hbs]
      have HQ2 := Aside0.mk hq
      have hby : ∀ x ∈ bs, 0 ≤ x ∧ x ≤ 255 := by rw [hbs]; exact rawW_bytes _
      have HBY := Aside0.mk hby
      clear hW hbd hbs hq hby HQT HQ HL HMM HX5 HW5 HK5 HB2
      obtain ⟨A, n, c, hb, hn, hz, hO⟩ := HWT.out
      have t0 : W.cell? ⟨gb + 1, 0, none⟩ = some (.slice A n c) := blk_cell hb 0
      have t1 : W.cell? ⟨gb + 1, 1, none⟩ = some (.bool bd) := blk_cell hb 1
      have HN := Aside0.mk hn
      have HO := Aside0.mk hO
      have HBK := Aside0.mk hb
      clear hb hn hz hO
      cases bd
      · go_wp2_with fail
        have hC := C_ownB HO.out
        refine (decode_calls A n c bs W hC HN.out (by have q := HO.out.slice; obtain ⟨_, _, e, h, _⟩ := q; rw [nums_length] at e h; cases e; rw [HN.out]; exact h) HBY.out (by rw [HN.out]; have := HLT.out; omega)).mono ?_
        rintro e u ⟨⟨B8, p8, d8, B11, p11, d11, rfl, hp1, hp2, hp3, hp4, hp5, hp6⟩, hBu⟩
        have hbu := blk_below HBK.out hBu
        have HXU := Aside0.mk (blk_below HXT.out hBu)
        have HCU : Aside0 ((Kd.int .u8).C u A n bs) := ⟨by rw [HN.out]; exact Kd.C_below hC hBu⟩
        have HBU := Aside0.mk (HBT.out.trans (hBu.mono HBT.out.size))
        have hnc : n ≤ c := by have q := HO.out.slice; obtain ⟨_, _, e, h, _⟩ := q; rw [nums_length] at e h; cases e; rw [HN.out]; exact h
        have HNC := Aside0.mk hnc
        cases hd : decP bs
        · obtain rfl : q = none := by rw [HQ2.out, hd]; rfl
          simp only [Option.getD_none, Option.isSome_none, Bool.false_eq_true, ↓reduceIte]
          have HFIN := Aside0.mk HBU.out
          clear hp1 hp2 hp3 hp4 hp5 hp6 hd hbu hBu hC t0 t1
          go_upto_region 23 with (refine wpList_store_row rfl 27 _ _ rfl u.heap.size (mcells M0 (.slice B8 p8 d8) (.slice B11 p11 d11)) rfl rfl 27 _ (blk_new u _) size_msg rfl (one_cells _ _ _ _ _ _ _) ?_)
          go_wp2
          exact bodyPost_ret (v := .tuple #[.slice none 0 0, .int .i64 1]) (by simp [results, Try.results10, go_sem]) rfl (encQ_none (below_setRow (below_alloc HBU.out _) HBU.out.size _))
        · rename_i x
          rw [hd] at hp1 hp3 hp4 hp6
          simp only [Option.getD_some, Option.isSome_some, ↓reduceIte]
          have hq := HQ2.out
          rw [hd] at hq
          have HQ3 := Aside0.mk hq
          have hsf := same_f (⟨2, fr, tt, tm, ix, lt, cm, ys, es, si, st, sm, sd⟩ : M13) x (by show sm.length ≤ _; have := HSL.out; omega)
          obtain ⟨sp, hsp⟩ : ∃ sp, sp = sameP (⟨2, fr, tt, tm, ix, lt, cm, ys, es, si, st, sm, sd⟩ : M13) x := ⟨_, rfl⟩
          rw [← hsp] at hsf
          have HSP := Aside0.mk hsp
          obtain ⟨x0, x1, x2, x3, x4, x5, x6, x7, x8, x9, x10, x11, x12⟩ := x
          have hp3' : k46.C u B8 x8.length x8 := by have q := hp3; rw [hp1] at q; exact q
          have hp6' : (Kd.int .i64).C u B11 x11.length x11 := by have q := hp6; rw [hp4] at q; exact q
          have hp1' : p8 = x8.length := hp1
          have hp4' : p11 = x11.length := hp4
          have HP1 := Aside0.mk hp1'
          have HP2 := Aside0.mk hp2
          have HP3 := Aside0.mk hp3'
          have HP4 := Aside0.mk hp4'
          have HP5 := Aside0.mk hp5
          have HP6 := Aside0.mk hp6'
          have HSF := Aside0.mk hsf
          clear hp1 hp2 hp3 hp4 hp5 hp6 hp1' hp3' hp4' hp6' hd hq hsf hsp hBu hC t0 t1
          go_upto_region 23 with (refine wpList_store_row rfl 27 _ _ rfl u.heap.size (mcells ⟨x0, x1, x2, x3, x4, x5, x6, x7, x8, x9, x10, x11, x12⟩ (.slice B8 p8 d8) (.slice B11 p11 d11)) rfl rfl 27 _ (blk_new u _) size_msg rfl (one_cells _ _ _ _ _ _ _) ?_)
          generalize hv : World.setRow (World.alloc u _) _ _ = v
          obtain ⟨gd, hgd⟩ : ∃ gd, gd = u.heap.size := ⟨_, rfl⟩
          rw [← hgd]
          have hUV : Below u.heap.size u v := by rw [← hv]; exact below_setRow (below_alloc (Below.refl _ _) _) (Nat.le_refl _) _
          have HDV : Aside0 (v.heap[gd]? = some (.cells #[.int .i64 x0, .int .i64 x1, .int .i64 x2, .int .i64 x3, .int .i64 x4, .int .i64 x5, .int .i64 x6, .bool x7, .slice B8 p8 d8, .int .i64 x9, .int .i64 x10, .slice B11 p11 d11, .string x12] 27 (0, 0))) := ⟨by rw [← hv, hgd]; exact setRow_heap _ _ _ _ _ _ (blk_new _ _)⟩
          have HXV := Aside0.mk (blk_below HXU.out hUV)
          have HCV := Aside0.mk (Kd.C_below HCU.out hUV)
          have HBV := Aside0.mk (HBU.out.trans (hUV.mono HBU.out.size))
          have HEV := Aside0.mk (Kd.C_below HE.out (HBV.out))
          have HSV := Aside0.mk (Kd.C_below HS.out (HBV.out))
          have HP3V := Aside0.mk (Kd.C_below HP3.out hUV)
          have HP6V := Aside0.mk (Kd.C_below HP6.out hUV)
          have HWV := Aside0.mk (blk_below hbu hUV)
          have t0 : v.cell? ⟨gb + 1, 0, none⟩ = some (.slice A n c) := blk_cell HWV.out 0
          clear hv hgd hUV hbu
          have gd0 : v.cell? ⟨gb, 0, none⟩ = some (.int .i64 2) := blk_cell HXV.out 0
          have gd1 : v.cell? ⟨gb, 1, none⟩ = some (.int .i64 fr) := blk_cell HXV.out 1
          have gd2 : v.cell? ⟨gb, 2, none⟩ = some (.int .i64 tt) := blk_cell HXV.out 2
          have gd3 : v.cell? ⟨gb, 3, none⟩ = some (.int .i64 tm) := blk_cell HXV.out 3
          have gd4 : v.cell? ⟨gb, 4, none⟩ = some (.int .i64 ix) := blk_cell HXV.out 4
          have gd5 : v.cell? ⟨gb, 5, none⟩ = some (.int .i64 lt) := blk_cell HXV.out 5
          have gd6 : v.cell? ⟨gb, 6, none⟩ = some (.int .i64 cm) := blk_cell HXV.out 6
          have gd7 : v.cell? ⟨gb, 7, none⟩ = some (.bool ys) := blk_cell HXV.out 7
          have gd8 : v.cell? ⟨gb, 8, none⟩ = some (.slice A8 n8 c8) := blk_cell HXV.out 8
          have gd9 : v.cell? ⟨gb, 9, none⟩ = some (.int .i64 si) := blk_cell HXV.out 9
          have gd10 : v.cell? ⟨gb, 10, none⟩ = some (.int .i64 st) := blk_cell HXV.out 10
          have gd11 : v.cell? ⟨gb, 11, none⟩ = some (.slice A11 n11 c11) := blk_cell HXV.out 11
          have gd12 : v.cell? ⟨gb, 12, none⟩ = some (.string sd) := blk_cell HXV.out 12
          have hd0 : v.cell? ⟨gd, 0, none⟩ = some (.int .i64 x0) := blk_cell HDV.out 0
          have hd1 : v.cell? ⟨gd, 1, none⟩ = some (.int .i64 x1) := blk_cell HDV.out 1
          have hd2 : v.cell? ⟨gd, 2, none⟩ = some (.int .i64 x2) := blk_cell HDV.out 2
          have hd3 : v.cell? ⟨gd, 3, none⟩ = some (.int .i64 x3) := blk_cell HDV.out 3
          have hd4 : v.cell? ⟨gd, 4, none⟩ = some (.int .i64 x4) := blk_cell HDV.out 4
          have hd5 : v.cell? ⟨gd, 5, none⟩ = some (.int .i64 x5) := blk_cell HDV.out 5
          have hd6 : v.cell? ⟨gd, 6, none⟩ = some (.int .i64 x6) := blk_cell HDV.out 6
          have hd7 : v.cell? ⟨gd, 7, none⟩ = some (.bool x7) := blk_cell HDV.out 7
          have hd8 : v.cell? ⟨gd, 8, none⟩ = some (.slice B8 p8 d8) := blk_cell HDV.out 8
          have hd9 : v.cell? ⟨gd, 9, none⟩ = some (.int .i64 x9) := blk_cell HDV.out 9
          have hd10 : v.cell? ⟨gd, 10, none⟩ = some (.int .i64 x10) := blk_cell HDV.out 10
          have hd11 : v.cell? ⟨gd, 11, none⟩ = some (.slice B11 p11 d11) := blk_cell HDV.out 11
          have hd12 : v.cell? ⟨gd, 12, none⟩ = some (.string x12) := blk_cell HDV.out 12
          go_wp2_with fail
          have qs := msg_same.calls (sm.length + 1) 2 fr tt tm ix lt cm ys A8 c8 es si st A11 c11 sm sd x0 x1 x2 x3 x4 x5 x6 x7 B8 d8 x8 x9 x10 B11 d11 x11 x12 sp v HEV.out (by rw [← HE1.out]; exact HE2.out) HSV.out (by rw [← HS1.out]; exact HS2.out) HP3V.out (by rw [← HP1.out]; exact HP2.out) HP6V.out (by rw [← HP4.out]; exact HP5.out) HSF.out
          rw [← HE1.out, ← HS1.out, ← HP1.out, ← HP4.out] at qs
          refine qs.mono ?_
          rintro e v2 ⟨rfl, hV2⟩
          have HBV2 := Aside0.mk (HBV.out.trans (hV2.mono HBV.out.size))
          have HCV2 := Aside0.mk (Kd.C_below HCV.out hV2)
          have t0 : v2.cell? ⟨gb + 1, 0, none⟩ = some (.slice A n c) := blk_cell (blk_below HWV.out hV2) 0
          clear hV2 gd0 hd0 gd1 hd1 gd2 hd2 gd3 hd3 gd4 hd4 gd5 hd5 gd6 hd6 gd7 hd7 gd8 hd8 gd9 hd9 gd10 hd10 gd11 hd11 gd12 hd12 qs
          cases sp
          · obtain rfl : q = none := by rw [HQ3.out, ← HSP.out]; rfl
            go_wp2
            exact bodyPost_ret (v := .tuple #[.slice none 0 0, .int .i64 1]) (by simp [results, Try.results10, go_sem]) rfl (encQ_none HBV2.out)
          · obtain rfl : q = some bs := by rw [HQ3.out, ← HSP.out]; rfl
            go_wp2
            exact bodyPost_ret (v := .tuple #[.slice A n c, .int .i64 0]) (by simp [results, Try.results10, go_sem]) rfl (encQ_some HN.out HNC.out HCV2.out HBV2.out)
      · obtain rfl : q = none := by rw [HQ2.out]; rfl
        go_wp2
        exact bodyPost_ret (v := .tuple #[.slice none 0 0, .int .i64 1]) (by simp [results, Try.results10, go_sem]) rfl (encQ_none HBT.out)
    · by_cases h3 : kd = 3
      · subst h3
        have hL := HL.out
        rw [rawW_3] at hL
        simp only [List.length_append, wnum_length, wints_length, List.length_cons, List.length_nil] at hL
        have hge := wents_ge es
        have HNV : Aside0 (n8 ≤ 140737488355328) := ⟨by rw [HE1.out]; omega⟩
        have HLL := Aside0.mk hL
        clear hL hge
        have cf4 : w4.cell? ⟨gb, 4, none⟩ = some (.int .i64 ix) := blk_cell HX4.out 4
        have cf5 : w4.cell? ⟨gb, 5, none⟩ = some (.int .i64 lt) := blk_cell HX4.out 5
        have cf6 : w4.cell? ⟨gb, 6, none⟩ = some (.int .i64 cm) := blk_cell HX4.out 6
        have hgs : gb + 1 < w4.heap.size := by obtain ⟨_, _, _, h, _⟩ := HW4.out; exact blk_lt h
        go_wp2_with fail
        refine (wints_calls _ (gb + 1) _ _ (some ⟨w4.heap.size, 0, none⟩) 3 3 [ix, lt, cm] (HW4.out.below (below_alloc (Below.refl _ _) _)) (fun W' hW => C_boxL (hW.blk (blk_new w4 _) (by omega) (by decide)) (by simp)) rfl (Nat.le_refl _) (by decide) (by simp only [List.length_append, wnum_length, wints_length, List.length_cons, List.length_nil]; omega)).mono ?_
        rintro e w5 ⟨rfl, hW, hK⟩
        clear cf4 cf5 cf6 hgs
        have hK' : WK w4 w5 (gb + 1) := ((WK.refl _ _).alloc _).trans hK
        have HX5 : Aside0 (w5.heap[gb]? = some (.cells #[.int .i64 3, .int .i64 fr, .int .i64 tt, .int .i64 tm, .int .i64 ix, .int .i64 lt, .int .i64 cm, .bool ys, .slice A8 n8 c8, .int .i64 si, .int .i64 st, .slice A11 n11 c11, .string sd] 27 (0, 0))) := ⟨hK'.blk HX4.out (by omega) (by decide)⟩
        have HW5 := Aside0.mk hW
        have HK5 := Aside0.mk (HK4.out.trans hK')
        clear hW hK hK' HX4 HW4 HK4
        have cf8 : w5.cell? ⟨gb, 8, none⟩ = some (.slice A8 n8 c8) := blk_cell HX5.out 8
        go_wp2_with fail
        refine (wents_calls w w5 (gb + 1) _ _ A8 n8 c8 es HW5.out HE.out (by have := HGB.out; omega) (HB2.out.trans ((HK5.out.below (by have := HG2.out; omega)).mono (by have := HGB.out; omega))) HE1.out HE2.out HNV.out (by simp only [List.length_append, wnum_length, wints_length, List.length_cons, List.length_nil]; have := HLL.out; omega)).mono ?_
        rintro e w6 ⟨rfl, hW, hK⟩
        clear cf8
        have hK' : WK w5 w6 (gb + 1) := hK
        have HX6 : Aside0 (w6.heap[gb]? = some (.cells #[.int .i64 3, .int .i64 fr, .int .i64 tt, .int .i64 tm, .int .i64 ix, .int .i64 lt, .int .i64 cm, .bool ys, .slice A8 n8 c8, .int .i64 si, .int .i64 st, .slice A11 n11 c11, .string sd] 27 (0, 0))) := ⟨hK'.blk HX5.out (by omega) (by decide)⟩
        have HW6 := Aside0.mk hW
        have HK6 := Aside0.mk (HK5.out.trans hK')
        clear hW hK hK' HX5 HW5 HK5
        go_upto_region 20 with (fail)
        have HWT : Aside0 (Wr w6 (gb + 1) (rawW (⟨3, fr, tt, tm, ix, lt, cm, ys, es, si, st, sm, sd⟩ : M13)) (badW (⟨3, fr, tt, tm, ix, lt, cm, ys, es, si, st, sm, sd⟩ : M13))) := ⟨by have q := HW6.out; rw [Bool.false_or] at q; simpa only [rawW_3, badW_3, List.append_assoc, Bool.or_assoc, Bool.or_false] using q⟩
        obtain ⟨W, hW⟩ : ∃ W, W = w6 := ⟨_, rfl⟩
        have HXT : Aside0 (W.heap[gb]? = some (.cells #[.int .i64 3, .int .i64 fr, .int .i64 tt, .int .i64 tm, .int .i64 ix, .int .i64 lt, .int .i64 cm, .bool ys, .slice A8 n8 c8, .int .i64 si, .int .i64 st, .slice A11 n11 c11, .string sd] 27 (0, 0))) := ⟨by rw [hW]; exact HX6.out⟩
        have HBT : Aside0 (Below w.heap.size w W) := ⟨by rw [hW]; exact HB2.out.trans ((HK6.out.below (by have := HG2.out; omega)).mono (by have := HGB.out; omega))⟩
        rw [← hW] at HWT ⊢
        have HQT := HQ

        have HLT := HL
        obtain ⟨bd, hbd⟩ : ∃ bd, bd = badW (⟨3, fr, tt, tm, ix, lt, cm, ys, es, si, st, sm, sd⟩ : M13) := ⟨_, rfl⟩
        obtain ⟨bs, hbs⟩ : ∃ bs, bs = rawW (⟨3, fr, tt, tm, ix, lt, cm, ys, es, si, st, sm, sd⟩ : M13) := ⟨_, rfl⟩
        rw [← hbd, ← hbs] at HWT
        rw [← hbs] at HLT
        have hq : q = if bd = true then none else match decP bs with
            | none => none
            | some x => if sameP (⟨3, fr, tt, tm, ix, lt, cm, ys, es, si, st, sm, sd⟩ : M13) x = true then some bs else none := by rw [HQT.out, encP, ← hbd, ← hbs]
        have HQ2 := Aside0.mk hq
        have hby : ∀ x ∈ bs, 0 ≤ x ∧ x ≤ 255 := by rw [hbs]; exact rawW_bytes _
        have HBY := Aside0.mk hby
        clear hW hbd hbs hq hby HQT HQ HL HMM HX6 HW6 HK6 HB2
        obtain ⟨A, n, c, hb, hn, hz, hO⟩ := HWT.out
        have t0 : W.cell? ⟨gb + 1, 0, none⟩ = some (.slice A n c) := blk_cell hb 0
        have t1 : W.cell? ⟨gb + 1, 1, none⟩ = some (.bool bd) := blk_cell hb 1
        have HN := Aside0.mk hn
        have HO := Aside0.mk hO
        have HBK := Aside0.mk hb
        clear hb hn hz hO
        cases bd
        · go_wp2_with fail
          have hC := C_ownB HO.out
          refine (decode_calls A n c bs W hC HN.out (by have q := HO.out.slice; obtain ⟨_, _, e, h, _⟩ := q; rw [nums_length] at e h; cases e; rw [HN.out]; exact h) HBY.out (by rw [HN.out]; have := HLT.out; omega)).mono ?_
          rintro e u ⟨⟨B8, p8, d8, B11, p11, d11, rfl, hp1, hp2, hp3, hp4, hp5, hp6⟩, hBu⟩
          have hbu := blk_below HBK.out hBu
          have HXU := Aside0.mk (blk_below HXT.out hBu)
          have HCU : Aside0 ((Kd.int .u8).C u A n bs) := ⟨by rw [HN.out]; exact Kd.C_below hC hBu⟩
          have HBU := Aside0.mk (HBT.out.trans (hBu.mono HBT.out.size))
          have hnc : n ≤ c := by have q := HO.out.slice; obtain ⟨_, _, e, h, _⟩ := q; rw [nums_length] at e h; cases e; rw [HN.out]; exact h
          have HNC := Aside0.mk hnc
          cases hd : decP bs
          · obtain rfl : q = none := by rw [HQ2.out, hd]; rfl
            simp only [Option.getD_none, Option.isSome_none, Bool.false_eq_true, ↓reduceIte]
            have HFIN := Aside0.mk HBU.out
            clear hp1 hp2 hp3 hp4 hp5 hp6 hd hbu hBu hC t0 t1
            go_upto_region 23 with (refine wpList_store_row rfl 27 _ _ rfl u.heap.size (mcells M0 (.slice B8 p8 d8) (.slice B11 p11 d11)) rfl rfl 27 _ (blk_new u _) size_msg rfl (one_cells _ _ _ _ _ _ _) ?_)
            go_wp2
            exact bodyPost_ret (v := .tuple #[.slice none 0 0, .int .i64 1]) (by simp [results, Try.results10, go_sem]) rfl (encQ_none (below_setRow (below_alloc HBU.out _) HBU.out.size _))
          · rename_i x
            rw [hd] at hp1 hp3 hp4 hp6
            simp only [Option.getD_some, Option.isSome_some, ↓reduceIte]
            have hq := HQ2.out
            rw [hd] at hq
            have HQ3 := Aside0.mk hq
            have hsf := same_f (⟨3, fr, tt, tm, ix, lt, cm, ys, es, si, st, sm, sd⟩ : M13) x (by show sm.length ≤ _; have := HSL.out; omega)
            obtain ⟨sp, hsp⟩ : ∃ sp, sp = sameP (⟨3, fr, tt, tm, ix, lt, cm, ys, es, si, st, sm, sd⟩ : M13) x := ⟨_, rfl⟩
            rw [← hsp] at hsf
            have HSP := Aside0.mk hsp
            obtain ⟨x0, x1, x2, x3, x4, x5, x6, x7, x8, x9, x10, x11, x12⟩ := x
            have hp3' : k46.C u B8 x8.length x8 := by have q := hp3; rw [hp1] at q; exact q
            have hp6' : (Kd.int .i64).C u B11 x11.length x11 := by have q := hp6; rw [hp4] at q; exact q
            have hp1' : p8 = x8.length := hp1
            have hp4' : p11 = x11.length := hp4
            have HP1 := Aside0.mk hp1'
            have HP2 := Aside0.mk hp2
            have HP3 := Aside0.mk hp3'
            have HP4 := Aside0.mk hp4'
            have HP5 := Aside0.mk hp5
            have HP6 := Aside0.mk hp6'
            have HSF := Aside0.mk hsf
            clear hp1 hp2 hp3 hp4 hp5 hp6 hp1' hp3' hp4' hp6' hd hq hsf hsp hBu hC t0 t1
            go_upto_region 23 with (refine wpList_store_row rfl 27 _ _ rfl u.heap.size (mcells ⟨x0, x1, x2, x3, x4, x5, x6, x7, x8, x9, x10, x11, x12⟩ (.slice B8 p8 d8) (.slice B11 p11 d11)) rfl rfl 27 _ (blk_new u _) size_msg rfl (one_cells _ _ _ _ _ _ _) ?_)
            generalize hv : World.setRow (World.alloc u _) _ _ = v
            obtain ⟨gd, hgd⟩ : ∃ gd, gd = u.heap.size := ⟨_, rfl⟩
            rw [← hgd]
            have hUV : Below u.heap.size u v := by rw [← hv]; exact below_setRow (below_alloc (Below.refl _ _) _) (Nat.le_refl _) _
            have HDV : Aside0 (v.heap[gd]? = some (.cells #[.int .i64 x0, .int .i64 x1, .int .i64 x2, .int .i64 x3, .int .i64 x4, .int .i64 x5, .int .i64 x6, .bool x7, .slice B8 p8 d8, .int .i64 x9, .int .i64 x10, .slice B11 p11 d11, .string x12] 27 (0, 0))) := ⟨by rw [← hv, hgd]; exact setRow_heap _ _ _ _ _ _ (blk_new _ _)⟩
            have HXV := Aside0.mk (blk_below HXU.out hUV)
            have HCV := Aside0.mk (Kd.C_below HCU.out hUV)
            have HBV := Aside0.mk (HBU.out.trans (hUV.mono HBU.out.size))
            have HEV := Aside0.mk (Kd.C_below HE.out (HBV.out))
            have HSV := Aside0.mk (Kd.C_below HS.out (HBV.out))
            have HP3V := Aside0.mk (Kd.C_below HP3.out hUV)
            have HP6V := Aside0.mk (Kd.C_below HP6.out hUV)
            have HWV := Aside0.mk (blk_below hbu hUV)
            have t0 : v.cell? ⟨gb + 1, 0, none⟩ = some (.slice A n c) := blk_cell HWV.out 0
            clear hv hgd hUV hbu
            have gd0 : v.cell? ⟨gb, 0, none⟩ = some (.int .i64 3) := blk_cell HXV.out 0
            have gd1 : v.cell? ⟨gb, 1, none⟩ = some (.int .i64 fr) := blk_cell HXV.out 1
            have gd2 : v.cell? ⟨gb, 2, none⟩ = some (.int .i64 tt) := blk_cell HXV.out 2
            have gd3 : v.cell? ⟨gb, 3, none⟩ = some (.int .i64 tm) := blk_cell HXV.out 3
            have gd4 : v.cell? ⟨gb, 4, none⟩ = some (.int .i64 ix) := blk_cell HXV.out 4
            have gd5 : v.cell? ⟨gb, 5, none⟩ = some (.int .i64 lt) := blk_cell HXV.out 5
            have gd6 : v.cell? ⟨gb, 6, none⟩ = some (.int .i64 cm) := blk_cell HXV.out 6
            have gd7 : v.cell? ⟨gb, 7, none⟩ = some (.bool ys) := blk_cell HXV.out 7
            have gd8 : v.cell? ⟨gb, 8, none⟩ = some (.slice A8 n8 c8) := blk_cell HXV.out 8
            have gd9 : v.cell? ⟨gb, 9, none⟩ = some (.int .i64 si) := blk_cell HXV.out 9
            have gd10 : v.cell? ⟨gb, 10, none⟩ = some (.int .i64 st) := blk_cell HXV.out 10
            have gd11 : v.cell? ⟨gb, 11, none⟩ = some (.slice A11 n11 c11) := blk_cell HXV.out 11
            have gd12 : v.cell? ⟨gb, 12, none⟩ = some (.string sd) := blk_cell HXV.out 12
            have hd0 : v.cell? ⟨gd, 0, none⟩ = some (.int .i64 x0) := blk_cell HDV.out 0
            have hd1 : v.cell? ⟨gd, 1, none⟩ = some (.int .i64 x1) := blk_cell HDV.out 1
            have hd2 : v.cell? ⟨gd, 2, none⟩ = some (.int .i64 x2) := blk_cell HDV.out 2
            have hd3 : v.cell? ⟨gd, 3, none⟩ = some (.int .i64 x3) := blk_cell HDV.out 3
            have hd4 : v.cell? ⟨gd, 4, none⟩ = some (.int .i64 x4) := blk_cell HDV.out 4
            have hd5 : v.cell? ⟨gd, 5, none⟩ = some (.int .i64 x5) := blk_cell HDV.out 5
            have hd6 : v.cell? ⟨gd, 6, none⟩ = some (.int .i64 x6) := blk_cell HDV.out 6
            have hd7 : v.cell? ⟨gd, 7, none⟩ = some (.bool x7) := blk_cell HDV.out 7
            have hd8 : v.cell? ⟨gd, 8, none⟩ = some (.slice B8 p8 d8) := blk_cell HDV.out 8
            have hd9 : v.cell? ⟨gd, 9, none⟩ = some (.int .i64 x9) := blk_cell HDV.out 9
            have hd10 : v.cell? ⟨gd, 10, none⟩ = some (.int .i64 x10) := blk_cell HDV.out 10
            have hd11 : v.cell? ⟨gd, 11, none⟩ = some (.slice B11 p11 d11) := blk_cell HDV.out 11
            have hd12 : v.cell? ⟨gd, 12, none⟩ = some (.string x12) := blk_cell HDV.out 12
            go_wp2_with fail
            have qs := msg_same.calls (sm.length + 1) 3 fr tt tm ix lt cm ys A8 c8 es si st A11 c11 sm sd x0 x1 x2 x3 x4 x5 x6 x7 B8 d8 x8 x9 x10 B11 d11 x11 x12 sp v HEV.out (by rw [← HE1.out]; exact HE2.out) HSV.out (by rw [← HS1.out]; exact HS2.out) HP3V.out (by rw [← HP1.out]; exact HP2.out) HP6V.out (by rw [← HP4.out]; exact HP5.out) HSF.out
            rw [← HE1.out, ← HS1.out, ← HP1.out, ← HP4.out] at qs
            refine qs.mono ?_
            rintro e v2 ⟨rfl, hV2⟩
            have HBV2 := Aside0.mk (HBV.out.trans (hV2.mono HBV.out.size))
            have HCV2 := Aside0.mk (Kd.C_below HCV.out hV2)
            have t0 : v2.cell? ⟨gb + 1, 0, none⟩ = some (.slice A n c) := blk_cell (blk_below HWV.out hV2) 0
            clear hV2 gd0 hd0 gd1 hd1 gd2 hd2 gd3 hd3 gd4 hd4 gd5 hd5 gd6 hd6 gd7 hd7 gd8 hd8 gd9 hd9 gd10 hd10 gd11 hd11 gd12 hd12 qs
            cases sp
            · obtain rfl : q = none := by rw [HQ3.out, ← HSP.out]; rfl
              go_wp2
              exact bodyPost_ret (v := .tuple #[.slice none 0 0, .int .i64 1]) (by simp [results, Try.results10, go_sem]) rfl (encQ_none HBV2.out)
            · obtain rfl : q = some bs := by rw [HQ3.out, ← HSP.out]; rfl
              go_wp2
              exact bodyPost_ret (v := .tuple #[.slice A n c, .int .i64 0]) (by simp [results, Try.results10, go_sem]) rfl (encQ_some HN.out HNC.out HCV2.out HBV2.out)
        · obtain rfl : q = none := by rw [HQ2.out]; rfl
          go_wp2
          exact bodyPost_ret (v := .tuple #[.slice none 0 0, .int .i64 1]) (by simp [results, Try.results10, go_sem]) rfl (encQ_none HBT.out)
      · by_cases h4 : kd = 4
        · subst h4
          have cf7 : w4.cell? ⟨gb, 7, none⟩ = some (.bool ys) := blk_cell HX4.out 7
          go_wp2_with fail
          refine (wyes_calls w4 (gb + 1) _ _ ys HW4.out (by simp only [List.length_append, wnum_length, wints_length, List.length_cons, List.length_nil]; omega)).mono ?_
          rintro e w5 ⟨rfl, hW, hK⟩
          clear cf7
          have hK' : WK w4 w5 (gb + 1) := hK
          have HX5 : Aside0 (w5.heap[gb]? = some (.cells #[.int .i64 4, .int .i64 fr, .int .i64 tt, .int .i64 tm, .int .i64 ix, .int .i64 lt, .int .i64 cm, .bool ys, .slice A8 n8 c8, .int .i64 si, .int .i64 st, .slice A11 n11 c11, .string sd] 27 (0, 0))) := ⟨hK'.blk HX4.out (by omega) (by decide)⟩
          have HW5 := Aside0.mk hW
          have HK5 := Aside0.mk (HK4.out.trans hK')
          clear hW hK hK' HX4 HW4 HK4
          have cf4 : w5.cell? ⟨gb, 4, none⟩ = some (.int .i64 ix) := blk_cell HX5.out 4
          have hgs : gb + 1 < w5.heap.size := by obtain ⟨_, _, _, h, _⟩ := HW5.out; exact blk_lt h
          go_wp2_with fail
          refine (wints_calls _ (gb + 1) _ _ (some ⟨w5.heap.size, 0, none⟩) 1 1 [ix] (HW5.out.below (below_alloc (Below.refl _ _) _)) (fun W' hW => C_boxL (hW.blk (blk_new w5 _) (by omega) (by decide)) (by simp)) rfl (Nat.le_refl _) (by decide) (by simp only [List.length_append, wnum_length, wints_length, List.length_cons, List.length_nil]; omega)).mono ?_
          rintro e w6 ⟨rfl, hW, hK⟩
          clear cf4 hgs
          have hK' : WK w5 w6 (gb + 1) := ((WK.refl _ _).alloc _).trans hK
          have HX6 : Aside0 (w6.heap[gb]? = some (.cells #[.int .i64 4, .int .i64 fr, .int .i64 tt, .int .i64 tm, .int .i64 ix, .int .i64 lt, .int .i64 cm, .bool ys, .slice A8 n8 c8, .int .i64 si, .int .i64 st, .slice A11 n11 c11, .string sd] 27 (0, 0))) := ⟨hK'.blk HX5.out (by omega) (by decide)⟩
          have HW6 := Aside0.mk hW
          have HK6 := Aside0.mk (HK5.out.trans hK')
          clear hW hK hK' HX5 HW5 HK5
          go_upto_region 20 with (fail)
          have HWT : Aside0 (Wr w6 (gb + 1) (rawW (⟨4, fr, tt, tm, ix, lt, cm, ys, es, si, st, sm, sd⟩ : M13)) (badW (⟨4, fr, tt, tm, ix, lt, cm, ys, es, si, st, sm, sd⟩ : M13))) := ⟨by have q := HW6.out; rw [Bool.false_or] at q; simpa only [rawW_4, badW_4, List.append_assoc, Bool.or_assoc, Bool.or_false] using q⟩
          obtain ⟨W, hW⟩ : ∃ W, W = w6 := ⟨_, rfl⟩
          have HXT : Aside0 (W.heap[gb]? = some (.cells #[.int .i64 4, .int .i64 fr, .int .i64 tt, .int .i64 tm, .int .i64 ix, .int .i64 lt, .int .i64 cm, .bool ys, .slice A8 n8 c8, .int .i64 si, .int .i64 st, .slice A11 n11 c11, .string sd] 27 (0, 0))) := ⟨by rw [hW]; exact HX6.out⟩
          have HBT : Aside0 (Below w.heap.size w W) := ⟨by rw [hW]; exact HB2.out.trans ((HK6.out.below (by have := HG2.out; omega)).mono (by have := HGB.out; omega))⟩
          rw [← hW] at HWT ⊢
          have HQT := HQ

          have HLT := HL
          obtain ⟨bd, hbd⟩ : ∃ bd, bd = badW (⟨4, fr, tt, tm, ix, lt, cm, ys, es, si, st, sm, sd⟩ : M13) := ⟨_, rfl⟩
          obtain ⟨bs, hbs⟩ : ∃ bs, bs = rawW (⟨4, fr, tt, tm, ix, lt, cm, ys, es, si, st, sm, sd⟩ : M13) := ⟨_, rfl⟩
          rw [← hbd, ← hbs] at HWT
          rw [← hbs] at HLT
          have hq : q = if bd = true then none else match decP bs with
              | none => none
              | some x => if sameP (⟨4, fr, tt, tm, ix, lt, cm, ys, es, si, st, sm, sd⟩ : M13) x = true then some bs else none := by rw [HQT.out, encP, ← hbd, ← hbs]
          have HQ2 := Aside0.mk hq
          have hby : ∀ x ∈ bs, 0 ≤ x ∧ x ≤ 255 := by rw [hbs]; exact rawW_bytes _
          have HBY := Aside0.mk hby
          clear hW hbd hbs hq hby HQT HQ HL HMM HX6 HW6 HK6 HB2
          obtain ⟨A, n, c, hb, hn, hz, hO⟩ := HWT.out
          have t0 : W.cell? ⟨gb + 1, 0, none⟩ = some (.slice A n c) := blk_cell hb 0
          have t1 : W.cell? ⟨gb + 1, 1, none⟩ = some (.bool bd) := blk_cell hb 1
          have HN := Aside0.mk hn
          have HO := Aside0.mk hO
          have HBK := Aside0.mk hb
          clear hb hn hz hO
          cases bd
          · go_wp2_with fail
            have hC := C_ownB HO.out
            refine (decode_calls A n c bs W hC HN.out (by have q := HO.out.slice; obtain ⟨_, _, e, h, _⟩ := q; rw [nums_length] at e h; cases e; rw [HN.out]; exact h) HBY.out (by rw [HN.out]; have := HLT.out; omega)).mono ?_
            rintro e u ⟨⟨B8, p8, d8, B11, p11, d11, rfl, hp1, hp2, hp3, hp4, hp5, hp6⟩, hBu⟩
            have hbu := blk_below HBK.out hBu
            have HXU := Aside0.mk (blk_below HXT.out hBu)
            have HCU : Aside0 ((Kd.int .u8).C u A n bs) := ⟨by rw [HN.out]; exact Kd.C_below hC hBu⟩
            have HBU := Aside0.mk (HBT.out.trans (hBu.mono HBT.out.size))
            have hnc : n ≤ c := by have q := HO.out.slice; obtain ⟨_, _, e, h, _⟩ := q; rw [nums_length] at e h; cases e; rw [HN.out]; exact h
            have HNC := Aside0.mk hnc
            cases hd : decP bs
            · obtain rfl : q = none := by rw [HQ2.out, hd]; rfl
              simp only [Option.getD_none, Option.isSome_none, Bool.false_eq_true, ↓reduceIte]
              have HFIN := Aside0.mk HBU.out
              clear hp1 hp2 hp3 hp4 hp5 hp6 hd hbu hBu hC t0 t1
              go_upto_region 23 with (refine wpList_store_row rfl 27 _ _ rfl u.heap.size (mcells M0 (.slice B8 p8 d8) (.slice B11 p11 d11)) rfl rfl 27 _ (blk_new u _) size_msg rfl (one_cells _ _ _ _ _ _ _) ?_)
              go_wp2
              exact bodyPost_ret (v := .tuple #[.slice none 0 0, .int .i64 1]) (by simp [results, Try.results10, go_sem]) rfl (encQ_none (below_setRow (below_alloc HBU.out _) HBU.out.size _))
            · rename_i x
              rw [hd] at hp1 hp3 hp4 hp6
              simp only [Option.getD_some, Option.isSome_some, ↓reduceIte]
              have hq := HQ2.out
              rw [hd] at hq
              have HQ3 := Aside0.mk hq
              have hsf := same_f (⟨4, fr, tt, tm, ix, lt, cm, ys, es, si, st, sm, sd⟩ : M13) x (by show sm.length ≤ _; have := HSL.out; omega)
              obtain ⟨sp, hsp⟩ : ∃ sp, sp = sameP (⟨4, fr, tt, tm, ix, lt, cm, ys, es, si, st, sm, sd⟩ : M13) x := ⟨_, rfl⟩
              rw [← hsp] at hsf
              have HSP := Aside0.mk hsp
              obtain ⟨x0, x1, x2, x3, x4, x5, x6, x7, x8, x9, x10, x11, x12⟩ := x
              have hp3' : k46.C u B8 x8.length x8 := by have q := hp3; rw [hp1] at q; exact q
              have hp6' : (Kd.int .i64).C u B11 x11.length x11 := by have q := hp6; rw [hp4] at q; exact q
              have hp1' : p8 = x8.length := hp1
              have hp4' : p11 = x11.length := hp4
              have HP1 := Aside0.mk hp1'
              have HP2 := Aside0.mk hp2
              have HP3 := Aside0.mk hp3'
              have HP4 := Aside0.mk hp4'
              have HP5 := Aside0.mk hp5
              have HP6 := Aside0.mk hp6'
              have HSF := Aside0.mk hsf
              clear hp1 hp2 hp3 hp4 hp5 hp6 hp1' hp3' hp4' hp6' hd hq hsf hsp hBu hC t0 t1
              go_upto_region 23 with (refine wpList_store_row rfl 27 _ _ rfl u.heap.size (mcells ⟨x0, x1, x2, x3, x4, x5, x6, x7, x8, x9, x10, x11, x12⟩ (.slice B8 p8 d8) (.slice B11 p11 d11)) rfl rfl 27 _ (blk_new u _) size_msg rfl (one_cells _ _ _ _ _ _ _) ?_)
              generalize hv : World.setRow (World.alloc u _) _ _ = v
              obtain ⟨gd, hgd⟩ : ∃ gd, gd = u.heap.size := ⟨_, rfl⟩
              rw [← hgd]
              have hUV : Below u.heap.size u v := by rw [← hv]; exact below_setRow (below_alloc (Below.refl _ _) _) (Nat.le_refl _) _
              have HDV : Aside0 (v.heap[gd]? = some (.cells #[.int .i64 x0, .int .i64 x1, .int .i64 x2, .int .i64 x3, .int .i64 x4, .int .i64 x5, .int .i64 x6, .bool x7, .slice B8 p8 d8, .int .i64 x9, .int .i64 x10, .slice B11 p11 d11, .string x12] 27 (0, 0))) := ⟨by rw [← hv, hgd]; exact setRow_heap _ _ _ _ _ _ (blk_new _ _)⟩
              have HXV := Aside0.mk (blk_below HXU.out hUV)
              have HCV := Aside0.mk (Kd.C_below HCU.out hUV)
              have HBV := Aside0.mk (HBU.out.trans (hUV.mono HBU.out.size))
              have HEV := Aside0.mk (Kd.C_below HE.out (HBV.out))
              have HSV := Aside0.mk (Kd.C_below HS.out (HBV.out))
              have HP3V := Aside0.mk (Kd.C_below HP3.out hUV)
              have HP6V := Aside0.mk (Kd.C_below HP6.out hUV)
              have HWV := Aside0.mk (blk_below hbu hUV)
              have t0 : v.cell? ⟨gb + 1, 0, none⟩ = some (.slice A n c) := blk_cell HWV.out 0
              clear hv hgd hUV hbu
              have gd0 : v.cell? ⟨gb, 0, none⟩ = some (.int .i64 4) := blk_cell HXV.out 0
              have gd1 : v.cell? ⟨gb, 1, none⟩ = some (.int .i64 fr) := blk_cell HXV.out 1
              have gd2 : v.cell? ⟨gb, 2, none⟩ = some (.int .i64 tt) := blk_cell HXV.out 2
              have gd3 : v.cell? ⟨gb, 3, none⟩ = some (.int .i64 tm) := blk_cell HXV.out 3
              have gd4 : v.cell? ⟨gb, 4, none⟩ = some (.int .i64 ix) := blk_cell HXV.out 4
              have gd5 : v.cell? ⟨gb, 5, none⟩ = some (.int .i64 lt) := blk_cell HXV.out 5
              have gd6 : v.cell? ⟨gb, 6, none⟩ = some (.int .i64 cm) := blk_cell HXV.out 6
              have gd7 : v.cell? ⟨gb, 7, none⟩ = some (.bool ys) := blk_cell HXV.out 7
              have gd8 : v.cell? ⟨gb, 8, none⟩ = some (.slice A8 n8 c8) := blk_cell HXV.out 8
              have gd9 : v.cell? ⟨gb, 9, none⟩ = some (.int .i64 si) := blk_cell HXV.out 9
              have gd10 : v.cell? ⟨gb, 10, none⟩ = some (.int .i64 st) := blk_cell HXV.out 10
              have gd11 : v.cell? ⟨gb, 11, none⟩ = some (.slice A11 n11 c11) := blk_cell HXV.out 11
              have gd12 : v.cell? ⟨gb, 12, none⟩ = some (.string sd) := blk_cell HXV.out 12
              have hd0 : v.cell? ⟨gd, 0, none⟩ = some (.int .i64 x0) := blk_cell HDV.out 0
              have hd1 : v.cell? ⟨gd, 1, none⟩ = some (.int .i64 x1) := blk_cell HDV.out 1
              have hd2 : v.cell? ⟨gd, 2, none⟩ = some (.int .i64 x2) := blk_cell HDV.out 2
              have hd3 : v.cell? ⟨gd, 3, none⟩ = some (.int .i64 x3) := blk_cell HDV.out 3
              have hd4 : v.cell? ⟨gd, 4, none⟩ = some (.int .i64 x4) := blk_cell HDV.out 4
              have hd5 : v.cell? ⟨gd, 5, none⟩ = some (.int .i64 x5) := blk_cell HDV.out 5
              have hd6 : v.cell? ⟨gd, 6, none⟩ = some (.int .i64 x6) := blk_cell HDV.out 6
              have hd7 : v.cell? ⟨gd, 7, none⟩ = some (.bool x7) := blk_cell HDV.out 7
              have hd8 : v.cell? ⟨gd, 8, none⟩ = some (.slice B8 p8 d8) := blk_cell HDV.out 8
              have hd9 : v.cell? ⟨gd, 9, none⟩ = some (.int .i64 x9) := blk_cell HDV.out 9
              have hd10 : v.cell? ⟨gd, 10, none⟩ = some (.int .i64 x10) := blk_cell HDV.out 10
              have hd11 : v.cell? ⟨gd, 11, none⟩ = some (.slice B11 p11 d11) := blk_cell HDV.out 11
              have hd12 : v.cell? ⟨gd, 12, none⟩ = some (.string x12) := blk_cell HDV.out 12
              go_wp2_with fail
              have qs := msg_same.calls (sm.length + 1) 4 fr tt tm ix lt cm ys A8 c8 es si st A11 c11 sm sd x0 x1 x2 x3 x4 x5 x6 x7 B8 d8 x8 x9 x10 B11 d11 x11 x12 sp v HEV.out (by rw [← HE1.out]; exact HE2.out) HSV.out (by rw [← HS1.out]; exact HS2.out) HP3V.out (by rw [← HP1.out]; exact HP2.out) HP6V.out (by rw [← HP4.out]; exact HP5.out) HSF.out
              rw [← HE1.out, ← HS1.out, ← HP1.out, ← HP4.out] at qs
              refine qs.mono ?_
              rintro e v2 ⟨rfl, hV2⟩
              have HBV2 := Aside0.mk (HBV.out.trans (hV2.mono HBV.out.size))
              have HCV2 := Aside0.mk (Kd.C_below HCV.out hV2)
              have t0 : v2.cell? ⟨gb + 1, 0, none⟩ = some (.slice A n c) := blk_cell (blk_below HWV.out hV2) 0
              clear hV2 gd0 hd0 gd1 hd1 gd2 hd2 gd3 hd3 gd4 hd4 gd5 hd5 gd6 hd6 gd7 hd7 gd8 hd8 gd9 hd9 gd10 hd10 gd11 hd11 gd12 hd12 qs
              cases sp
              · obtain rfl : q = none := by rw [HQ3.out, ← HSP.out]; rfl
                go_wp2
                exact bodyPost_ret (v := .tuple #[.slice none 0 0, .int .i64 1]) (by simp [results, Try.results10, go_sem]) rfl (encQ_none HBV2.out)
              · obtain rfl : q = some bs := by rw [HQ3.out, ← HSP.out]; rfl
                go_wp2
                exact bodyPost_ret (v := .tuple #[.slice A n c, .int .i64 0]) (by simp [results, Try.results10, go_sem]) rfl (encQ_some HN.out HNC.out HCV2.out HBV2.out)
          · obtain rfl : q = none := by rw [HQ2.out]; rfl
            go_wp2
            exact bodyPost_ret (v := .tuple #[.slice none 0 0, .int .i64 1]) (by simp [results, Try.results10, go_sem]) rfl (encQ_none HBT.out)
        · by_cases h5 : kd = 5
          · subst h5
            have hL := HL.out
            rw [rawW_5] at hL
            simp only [List.length_append, wnum_length, wints_length, wmem, wtext, bytesOf_length, List.length_cons, List.length_nil] at hL
            have HNV : Aside0 (n11 ≤ 140737488355328) := ⟨by rw [HS1.out]; omega⟩
            have HLL := Aside0.mk hL
            clear hL
            have cf9 : w4.cell? ⟨gb, 9, none⟩ = some (.int .i64 si) := blk_cell HX4.out 9
            have cf10 : w4.cell? ⟨gb, 10, none⟩ = some (.int .i64 st) := blk_cell HX4.out 10
            have hgs : gb + 1 < w4.heap.size := by obtain ⟨_, _, _, h, _⟩ := HW4.out; exact blk_lt h
            go_wp2_with fail
            refine (wints_calls _ (gb + 1) _ _ (some ⟨w4.heap.size, 0, none⟩) 2 2 [si, st] (HW4.out.below (below_alloc (Below.refl _ _) _)) (fun W' hW => C_boxL (hW.blk (blk_new w4 _) (by omega) (by decide)) (by simp)) rfl (Nat.le_refl _) (by decide) (by simp only [List.length_append, wnum_length, wints_length, List.length_cons, List.length_nil]; omega)).mono ?_
            rintro e w5 ⟨rfl, hW, hK⟩
            clear cf9 cf10 hgs
            have hK' : WK w4 w5 (gb + 1) := ((WK.refl _ _).alloc _).trans hK
            have HX5 : Aside0 (w5.heap[gb]? = some (.cells #[.int .i64 5, .int .i64 fr, .int .i64 tt, .int .i64 tm, .int .i64 ix, .int .i64 lt, .int .i64 cm, .bool ys, .slice A8 n8 c8, .int .i64 si, .int .i64 st, .slice A11 n11 c11, .string sd] 27 (0, 0))) := ⟨hK'.blk HX4.out (by omega) (by decide)⟩
            have HW5 := Aside0.mk hW
            have HK5 := Aside0.mk (HK4.out.trans hK')
            clear hW hK hK' HX4 HW4 HK4
            have cf11 : w5.cell? ⟨gb, 11, none⟩ = some (.slice A11 n11 c11) := blk_cell HX5.out 11
            go_wp2_with fail
            refine (wmem_calls w5 (gb + 1) _ _ A11 n11 c11 sm HW5.out (fun W' hW => by exact Kd.C_below HS.out (HB2.out.trans (((HK5.out.trans hW).below (by have := HG2.out; omega)).mono (by have := HGB.out; omega)))) HS1.out HS2.out HNV.out (by rw [HS1.out]; simp only [List.length_append, wnum_length, wints_length, List.length_cons, List.length_nil]; have := HLL.out; omega)).mono ?_
            rintro e w6 ⟨rfl, hW, hK⟩
            clear cf11
            have hK' : WK w5 w6 (gb + 1) := hK
            have HX6 : Aside0 (w6.heap[gb]? = some (.cells #[.int .i64 5, .int .i64 fr, .int .i64 tt, .int .i64 tm, .int .i64 ix, .int .i64 lt, .int .i64 cm, .bool ys, .slice A8 n8 c8, .int .i64 si, .int .i64 st, .slice A11 n11 c11, .string sd] 27 (0, 0))) := ⟨hK'.blk HX5.out (by omega) (by decide)⟩
            have HW6 := Aside0.mk hW
            have HK6 := Aside0.mk (HK5.out.trans hK')
            clear hW hK hK' HX5 HW5 HK5
            have cf12 : w6.cell? ⟨gb, 12, none⟩ = some (.string sd) := blk_cell HX6.out 12
            go_wp2_with fail
            refine (wtext_calls w6 (gb + 1) _ _ sd 65536 HW6.out (by have := HLL.out; omega) (by simp only [List.length_append, wnum_length, wints_length, wmem, List.length_cons, List.length_nil]; have := HLL.out; omega)).mono ?_
            rintro e w7 ⟨rfl, hW, hK⟩
            clear cf12
            have hK' : WK w6 w7 (gb + 1) := hK
            have HX7 : Aside0 (w7.heap[gb]? = some (.cells #[.int .i64 5, .int .i64 fr, .int .i64 tt, .int .i64 tm, .int .i64 ix, .int .i64 lt, .int .i64 cm, .bool ys, .slice A8 n8 c8, .int .i64 si, .int .i64 st, .slice A11 n11 c11, .string sd] 27 (0, 0))) := ⟨hK'.blk HX6.out (by omega) (by decide)⟩
            have HW7 := Aside0.mk hW
            have HK7 := Aside0.mk (HK6.out.trans hK')
            clear hW hK hK' HX6 HW6 HK6
            go_upto_region 20 with (fail)
            have HWT : Aside0 (Wr w7 (gb + 1) (rawW (⟨5, fr, tt, tm, ix, lt, cm, ys, es, si, st, sm, sd⟩ : M13)) (badW (⟨5, fr, tt, tm, ix, lt, cm, ys, es, si, st, sm, sd⟩ : M13))) := ⟨by have q := HW7.out; rw [Bool.false_or] at q; simpa only [rawW_5, badW_5, List.append_assoc, Bool.or_assoc, Bool.or_false] using q⟩
            obtain ⟨W, hW⟩ : ∃ W, W = w7 := ⟨_, rfl⟩
            have HXT : Aside0 (W.heap[gb]? = some (.cells #[.int .i64 5, .int .i64 fr, .int .i64 tt, .int .i64 tm, .int .i64 ix, .int .i64 lt, .int .i64 cm, .bool ys, .slice A8 n8 c8, .int .i64 si, .int .i64 st, .slice A11 n11 c11, .string sd] 27 (0, 0))) := ⟨by rw [hW]; exact HX7.out⟩
            have HBT : Aside0 (Below w.heap.size w W) := ⟨by rw [hW]; exact HB2.out.trans ((HK7.out.below (by have := HG2.out; omega)).mono (by have := HGB.out; omega))⟩
            rw [← hW] at HWT ⊢
            have HQT := HQ

            have HLT := HL
            obtain ⟨bd, hbd⟩ : ∃ bd, bd = badW (⟨5, fr, tt, tm, ix, lt, cm, ys, es, si, st, sm, sd⟩ : M13) := ⟨_, rfl⟩
            obtain ⟨bs, hbs⟩ : ∃ bs, bs = rawW (⟨5, fr, tt, tm, ix, lt, cm, ys, es, si, st, sm, sd⟩ : M13) := ⟨_, rfl⟩
            rw [← hbd, ← hbs] at HWT
            rw [← hbs] at HLT
            have hq : q = if bd = true then none else match decP bs with
                | none => none
                | some x => if sameP (⟨5, fr, tt, tm, ix, lt, cm, ys, es, si, st, sm, sd⟩ : M13) x = true then some bs else none := by rw [HQT.out, encP, ← hbd, ← hbs]
            have HQ2 := Aside0.mk hq
            have hby : ∀ x ∈ bs, 0 ≤ x ∧ x ≤ 255 := by rw [hbs]; exact rawW_bytes _
            have HBY := Aside0.mk hby
            clear hW hbd hbs hq hby HQT HQ HL HMM HX7 HW7 HK7 HB2
            obtain ⟨A, n, c, hb, hn, hz, hO⟩ := HWT.out
            have t0 : W.cell? ⟨gb + 1, 0, none⟩ = some (.slice A n c) := blk_cell hb 0
            have t1 : W.cell? ⟨gb + 1, 1, none⟩ = some (.bool bd) := blk_cell hb 1
            have HN := Aside0.mk hn
            have HO := Aside0.mk hO
            have HBK := Aside0.mk hb
            clear hb hn hz hO
            cases bd
            · go_wp2_with fail
              have hC := C_ownB HO.out
              refine (decode_calls A n c bs W hC HN.out (by have q := HO.out.slice; obtain ⟨_, _, e, h, _⟩ := q; rw [nums_length] at e h; cases e; rw [HN.out]; exact h) HBY.out (by rw [HN.out]; have := HLT.out; omega)).mono ?_
              rintro e u ⟨⟨B8, p8, d8, B11, p11, d11, rfl, hp1, hp2, hp3, hp4, hp5, hp6⟩, hBu⟩
              have hbu := blk_below HBK.out hBu
              have HXU := Aside0.mk (blk_below HXT.out hBu)
              have HCU : Aside0 ((Kd.int .u8).C u A n bs) := ⟨by rw [HN.out]; exact Kd.C_below hC hBu⟩
              have HBU := Aside0.mk (HBT.out.trans (hBu.mono HBT.out.size))
              have hnc : n ≤ c := by have q := HO.out.slice; obtain ⟨_, _, e, h, _⟩ := q; rw [nums_length] at e h; cases e; rw [HN.out]; exact h
              have HNC := Aside0.mk hnc
              cases hd : decP bs
              · obtain rfl : q = none := by rw [HQ2.out, hd]; rfl
                simp only [Option.getD_none, Option.isSome_none, Bool.false_eq_true, ↓reduceIte]
                have HFIN := Aside0.mk HBU.out
                clear hp1 hp2 hp3 hp4 hp5 hp6 hd hbu hBu hC t0 t1
                go_upto_region 23 with (refine wpList_store_row rfl 27 _ _ rfl u.heap.size (mcells M0 (.slice B8 p8 d8) (.slice B11 p11 d11)) rfl rfl 27 _ (blk_new u _) size_msg rfl (one_cells _ _ _ _ _ _ _) ?_)
                go_wp2
                exact bodyPost_ret (v := .tuple #[.slice none 0 0, .int .i64 1]) (by simp [results, Try.results10, go_sem]) rfl (encQ_none (below_setRow (below_alloc HBU.out _) HBU.out.size _))
              · rename_i x
                rw [hd] at hp1 hp3 hp4 hp6
                simp only [Option.getD_some, Option.isSome_some, ↓reduceIte]
                have hq := HQ2.out
                rw [hd] at hq
                have HQ3 := Aside0.mk hq
                have hsf := same_f (⟨5, fr, tt, tm, ix, lt, cm, ys, es, si, st, sm, sd⟩ : M13) x (by show sm.length ≤ _; have := HSL.out; omega)
                obtain ⟨sp, hsp⟩ : ∃ sp, sp = sameP (⟨5, fr, tt, tm, ix, lt, cm, ys, es, si, st, sm, sd⟩ : M13) x := ⟨_, rfl⟩
                rw [← hsp] at hsf
                have HSP := Aside0.mk hsp
                obtain ⟨x0, x1, x2, x3, x4, x5, x6, x7, x8, x9, x10, x11, x12⟩ := x
                have hp3' : k46.C u B8 x8.length x8 := by have q := hp3; rw [hp1] at q; exact q
                have hp6' : (Kd.int .i64).C u B11 x11.length x11 := by have q := hp6; rw [hp4] at q; exact q
                have hp1' : p8 = x8.length := hp1
                have hp4' : p11 = x11.length := hp4
                have HP1 := Aside0.mk hp1'
                have HP2 := Aside0.mk hp2
                have HP3 := Aside0.mk hp3'
                have HP4 := Aside0.mk hp4'
                have HP5 := Aside0.mk hp5
                have HP6 := Aside0.mk hp6'
                have HSF := Aside0.mk hsf
                clear hp1 hp2 hp3 hp4 hp5 hp6 hp1' hp3' hp4' hp6' hd hq hsf hsp hBu hC t0 t1
                go_upto_region 23 with (refine wpList_store_row rfl 27 _ _ rfl u.heap.size (mcells ⟨x0, x1, x2, x3, x4, x5, x6, x7, x8, x9, x10, x11, x12⟩ (.slice B8 p8 d8) (.slice B11 p11 d11)) rfl rfl 27 _ (blk_new u _) size_msg rfl (one_cells _ _ _ _ _ _ _) ?_)
                generalize hv : World.setRow (World.alloc u _) _ _ = v
                obtain ⟨gd, hgd⟩ : ∃ gd, gd = u.heap.size := ⟨_, rfl⟩
                rw [← hgd]
                have hUV : Below u.heap.size u v := by rw [← hv]; exact below_setRow (below_alloc (Below.refl _ _) _) (Nat.le_refl _) _
                have HDV : Aside0 (v.heap[gd]? = some (.cells #[.int .i64 x0, .int .i64 x1, .int .i64 x2, .int .i64 x3, .int .i64 x4, .int .i64 x5, .int .i64 x6, .bool x7, .slice B8 p8 d8, .int .i64 x9, .int .i64 x10, .slice B11 p11 d11, .string x12] 27 (0, 0))) := ⟨by rw [← hv, hgd]; exact setRow_heap _ _ _ _ _ _ (blk_new _ _)⟩
                have HXV := Aside0.mk (blk_below HXU.out hUV)
                have HCV := Aside0.mk (Kd.C_below HCU.out hUV)
                have HBV := Aside0.mk (HBU.out.trans (hUV.mono HBU.out.size))
                have HEV := Aside0.mk (Kd.C_below HE.out (HBV.out))
                have HSV := Aside0.mk (Kd.C_below HS.out (HBV.out))
                have HP3V := Aside0.mk (Kd.C_below HP3.out hUV)
                have HP6V := Aside0.mk (Kd.C_below HP6.out hUV)
                have HWV := Aside0.mk (blk_below hbu hUV)
                have t0 : v.cell? ⟨gb + 1, 0, none⟩ = some (.slice A n c) := blk_cell HWV.out 0
                clear hv hgd hUV hbu
                have gd0 : v.cell? ⟨gb, 0, none⟩ = some (.int .i64 5) := blk_cell HXV.out 0
                have gd1 : v.cell? ⟨gb, 1, none⟩ = some (.int .i64 fr) := blk_cell HXV.out 1
                have gd2 : v.cell? ⟨gb, 2, none⟩ = some (.int .i64 tt) := blk_cell HXV.out 2
                have gd3 : v.cell? ⟨gb, 3, none⟩ = some (.int .i64 tm) := blk_cell HXV.out 3
                have gd4 : v.cell? ⟨gb, 4, none⟩ = some (.int .i64 ix) := blk_cell HXV.out 4
                have gd5 : v.cell? ⟨gb, 5, none⟩ = some (.int .i64 lt) := blk_cell HXV.out 5
                have gd6 : v.cell? ⟨gb, 6, none⟩ = some (.int .i64 cm) := blk_cell HXV.out 6
                have gd7 : v.cell? ⟨gb, 7, none⟩ = some (.bool ys) := blk_cell HXV.out 7
                have gd8 : v.cell? ⟨gb, 8, none⟩ = some (.slice A8 n8 c8) := blk_cell HXV.out 8
                have gd9 : v.cell? ⟨gb, 9, none⟩ = some (.int .i64 si) := blk_cell HXV.out 9
                have gd10 : v.cell? ⟨gb, 10, none⟩ = some (.int .i64 st) := blk_cell HXV.out 10
                have gd11 : v.cell? ⟨gb, 11, none⟩ = some (.slice A11 n11 c11) := blk_cell HXV.out 11
                have gd12 : v.cell? ⟨gb, 12, none⟩ = some (.string sd) := blk_cell HXV.out 12
                have hd0 : v.cell? ⟨gd, 0, none⟩ = some (.int .i64 x0) := blk_cell HDV.out 0
                have hd1 : v.cell? ⟨gd, 1, none⟩ = some (.int .i64 x1) := blk_cell HDV.out 1
                have hd2 : v.cell? ⟨gd, 2, none⟩ = some (.int .i64 x2) := blk_cell HDV.out 2
                have hd3 : v.cell? ⟨gd, 3, none⟩ = some (.int .i64 x3) := blk_cell HDV.out 3
                have hd4 : v.cell? ⟨gd, 4, none⟩ = some (.int .i64 x4) := blk_cell HDV.out 4
                have hd5 : v.cell? ⟨gd, 5, none⟩ = some (.int .i64 x5) := blk_cell HDV.out 5
                have hd6 : v.cell? ⟨gd, 6, none⟩ = some (.int .i64 x6) := blk_cell HDV.out 6
                have hd7 : v.cell? ⟨gd, 7, none⟩ = some (.bool x7) := blk_cell HDV.out 7
                have hd8 : v.cell? ⟨gd, 8, none⟩ = some (.slice B8 p8 d8) := blk_cell HDV.out 8
                have hd9 : v.cell? ⟨gd, 9, none⟩ = some (.int .i64 x9) := blk_cell HDV.out 9
                have hd10 : v.cell? ⟨gd, 10, none⟩ = some (.int .i64 x10) := blk_cell HDV.out 10
                have hd11 : v.cell? ⟨gd, 11, none⟩ = some (.slice B11 p11 d11) := blk_cell HDV.out 11
                have hd12 : v.cell? ⟨gd, 12, none⟩ = some (.string x12) := blk_cell HDV.out 12
                go_wp2_with fail
                have qs := msg_same.calls (sm.length + 1) 5 fr tt tm ix lt cm ys A8 c8 es si st A11 c11 sm sd x0 x1 x2 x3 x4 x5 x6 x7 B8 d8 x8 x9 x10 B11 d11 x11 x12 sp v HEV.out (by rw [← HE1.out]; exact HE2.out) HSV.out (by rw [← HS1.out]; exact HS2.out) HP3V.out (by rw [← HP1.out]; exact HP2.out) HP6V.out (by rw [← HP4.out]; exact HP5.out) HSF.out
                rw [← HE1.out, ← HS1.out, ← HP1.out, ← HP4.out] at qs
                refine qs.mono ?_
                rintro e v2 ⟨rfl, hV2⟩
                have HBV2 := Aside0.mk (HBV.out.trans (hV2.mono HBV.out.size))
                have HCV2 := Aside0.mk (Kd.C_below HCV.out hV2)
                have t0 : v2.cell? ⟨gb + 1, 0, none⟩ = some (.slice A n c) := blk_cell (blk_below HWV.out hV2) 0
                clear hV2 gd0 hd0 gd1 hd1 gd2 hd2 gd3 hd3 gd4 hd4 gd5 hd5 gd6 hd6 gd7 hd7 gd8 hd8 gd9 hd9 gd10 hd10 gd11 hd11 gd12 hd12 qs
                cases sp
                · obtain rfl : q = none := by rw [HQ3.out, ← HSP.out]; rfl
                  go_wp2
                  exact bodyPost_ret (v := .tuple #[.slice none 0 0, .int .i64 1]) (by simp [results, Try.results10, go_sem]) rfl (encQ_none HBV2.out)
                · obtain rfl : q = some bs := by rw [HQ3.out, ← HSP.out]; rfl
                  go_wp2
                  exact bodyPost_ret (v := .tuple #[.slice A n c, .int .i64 0]) (by simp [results, Try.results10, go_sem]) rfl (encQ_some HN.out HNC.out HCV2.out HBV2.out)
            · obtain rfl : q = none := by rw [HQ2.out]; rfl
              go_wp2
              exact bodyPost_ret (v := .tuple #[.slice none 0 0, .int .i64 1]) (by simp [results, Try.results10, go_sem]) rfl (encQ_none HBT.out)
          · skip
            have h1' : (kd == 1) = false := by simpa using h1
            have h2' : (kd == 2) = false := by simpa using h2
            have h3' : (kd == 3) = false := by simpa using h3
            have h4' : (kd == 4) = false := by simpa using h4
            have h5' : (kd == 5) = false := by simpa using h5
            obtain rfl : q = none := by
              rw [HQ.out, encP, if_pos]
              rw [badW, wbody]
              simp only [if_neg h1, if_neg h2, if_neg h3, if_neg h4, if_neg h5, Bool.or_true]
            clear HQ
            obtain ⟨A, n, c, hb, hrd⟩ := HW4.out
            have f1 := blk_frozen hb 1
            obtain ⟨u1, m1⟩ : ∃ u, w4.cell? ⟨gb + 1, 1, none⟩ = some u := ⟨_, blk_cell hb 1⟩
            clear hb hrd
            go_upto_region 20 with (fail)
            have HW5 := HW4.out.setBad true
            obtain ⟨W, hW⟩ : ∃ W, W = w4.setCell ⟨gb + 1, 1, none⟩ (.bool true) := ⟨_, rfl⟩
            rw [← hW] at HW5 ⊢
            have HBT : Aside0 (Below w.heap.size w W) := ⟨by rw [hW]; exact HB2.out.trans (((HK4.out.set 1 _).below (by have := HG2.out; omega)).mono (by have := HGB.out; omega))⟩
            obtain ⟨A5, n5, c5, hb5, _⟩ := HW5
            have t1 : W.cell? ⟨gb + 1, 1, none⟩ = some (.bool true) := blk_cell hb5 1
            clear hW hb5 m1 f1 c0
            go_wp2
            exact bodyPost_ret (v := .tuple #[.slice none 0 0, .int .i64 1]) (by simp [results, Try.results10, go_sem]) rfl (encQ_none HBT.out)
end Go.Proofs.Ytbemfgpdfacdpaa.Ms
namespace Go.Proofs.Ytbemfgpdfacdpaa.Ms
open Go.RowKit Go.Proofs.Ytbemfgpdfacdpaa.Pr Go.Proofs.YtbemfgpdfacdpaaW.PrintWords Go.Proofs.YtbemfgpdfacdpaaW.PrintLast Go.Proofs.YtbemfgpdfacdpaaW.PrintMore
set_option linter.unusedVariables false
set_option linter.unusedSimpArgs false
abbrev Byt (l : List Int) : Prop := ∀ x ∈ l, 0 ≤ x ∧ x ≤ 255
theorem foldl_beV : ∀ (s : List Int) (a : Nat), s.foldl (fun v x => v * 256 + x.toNat) a = a * 256 ^ s.length + beV s
  | [], a => by simp [beV]
  | x :: s, a => by
    have e : beV (x :: s) = x.toNat * 256 ^ s.length + beV s := by
      show List.foldl (fun v x => v * 256 + x.toNat) (0 * 256 + x.toNat) s = _
      rw [foldl_beV s, Nat.zero_mul, Nat.zero_add]
    rw [List.foldl_cons, foldl_beV s, e, List.length_cons, Nat.pow_succ, Nat.add_mul, Nat.mul_assoc, Nat.mul_comm 256, Nat.add_assoc]
theorem beV_cons (x : Int) (s : List Int) : beV (x :: s) = x.toNat * 256 ^ s.length + beV s := by
  show List.foldl (fun v x => v * 256 + x.toNat) (0 * 256 + x.toNat) s = _
  rw [foldl_beV s, Nat.zero_mul, Nat.zero_add]
theorem wnum_of : ∀ (s : List Int) (q : Nat), Byt s → q * 256 ^ s.length + beV s < 18446744073709551616 → wnum ((q * 256 ^ s.length + beV s : Nat) : Int) s.length = s
  | [], q, _, _ => rfl
  | x :: s, q, hb, hv => by
    have hx := hb x List.mem_cons_self
    have hs : Byt s := fun y hy => hb y (List.mem_cons_of_mem _ hy)
    have e : q * 256 ^ (x :: s).length + beV (x :: s) = (q * 256 + x.toNat) * 256 ^ s.length + beV s := by
      rw [beV_cons, List.length_cons, Nat.pow_succ, Nat.add_mul, Nat.mul_assoc, Nat.mul_comm 256, Nat.add_assoc]
    rw [e] at hv ⊢
    have hlt := beV_lt s hs
    rw [List.length_cons, wnum, wnum_of s _ hs hv]
    congr 1
    have h1 : (((q * 256 + x.toNat) * 256 ^ s.length + beV s : Nat) : Int) % 18446744073709551616 = (((q * 256 + x.toNat) * 256 ^ s.length + beV s : Nat) : Int) := Int.emod_eq_of_lt (by omega) (by omega)
    rw [h1]
    have h2 : ((256 : Int) ^ s.length) = ((256 ^ s.length : Nat) : Int) := by simp
    rw [h2, ← Int.natCast_ediv, show ((q * 256 + x.toNat) * 256 ^ s.length + beV s) / 256 ^ s.length = q * 256 + x.toNat by
      rw [Nat.add_comm, Nat.add_mul_div_right _ _ (Nat.pow_pos (by decide)), Nat.div_eq_of_lt hlt, Nat.zero_add]]
    omega
theorem wnum_beV (t : List Int) (h : Byt t) (hl : t.length ≤ 8) : wnum (beV t : Int) t.length = t := by
  have h1 := beV_lt t h
  have h2 : (256 : Nat) ^ t.length ≤ 256 ^ 8 := Nat.pow_le_pow_right (by decide) hl
  have h3 : (256 : Nat) ^ 8 = 18446744073709551616 := by decide
  have := wnum_of t 0 h (by omega)
  simpa using this
/-- Soundness of a number: it was written so. -/
theorem num_sound {l r : List Int} {b : Bool} {s most v : Nat} (hb : Byt l) (hs : s ≤ 8) (h : numP l b s most = (v, r, false)) : b = false ∧ l = wnum v s ++ r ∧ v ≤ most := by
  unfold numP at h
  split at h
  · cases h
  · rename_i hm
    unfold takeP at h hm
    split at h
    · rename_i hc; rw [if_pos hc] at hm; cases h
    · rename_i hc
      rw [if_neg hc] at hm
      have hbf : b = false := by cases b <;> simp_all
      have hlen : s ≤ l.length := by subst hbf; simp at hc; exact hc
      simp only [Prod.mk.injEq] at h
      obtain ⟨rfl, rfl, _⟩ := h
      have e : (l.take s).length = s := by rw [List.length_take]; omega
      refine ⟨hbf, ?_, by simpa using hm⟩
      have := wnum_beV (l.take s) (fun x hx => hb x (List.mem_of_mem_take hx)) (by omega)
      rw [e] at this
      rw [this, List.take_append_drop]
theorem wints_snoc (vs : List Int) (v : Int) : wints (vs ++ [v]) = wints vs ++ wnum v 8 := by simp [wints]
theorem ints_sound {l : List Int} {b : Bool} (hb : Byt l) : ∀ (m : Nat) {vs r : List Int}, intsP l b m = (vs, r, false) → b = false ∧ l = wints vs ++ r ∧ ∀ v ∈ vs, 0 ≤ v ∧ v ≤ 9223372036854775807
  | 0, vs, r, h => by
    rw [intsP] at h
    cases h
    exact ⟨rfl, rfl, fun v hv => by cases hv⟩
  | m + 1, vs, r, h => by
    rw [intsP] at h
    obtain ⟨vs', r', b', h1⟩ : ∃ a c d, intsP l b m = (a, c, d) := ⟨_, _, _, rfl⟩
    rw [h1] at h
    rcases h2 : numP r' b' 8 maxI with ⟨v, r2, b2⟩
    simp only [h2, Prod.mk.injEq] at h
    obtain ⟨rfl, rfl, rfl⟩ := h
    have hb' : Byt r' := by have := intsP_left (bad := b) hb m; rw [h1] at this; exact this
    obtain ⟨rfl, e2, h3⟩ := num_sound hb' (by decide) h2
    obtain ⟨hbf, e1, h4⟩ := ints_sound hb m h1
    refine ⟨hbf, by rw [e1, e2, wints_snoc, List.append_assoc], fun x hx => ?_⟩
    rcases List.mem_append.1 hx with hx | hx
    · exact h4 x hx
    · rw [List.mem_singleton] at hx; subst hx
      exact ⟨by omega, by have : v ≤ 9223372036854775807 := h3; omega⟩
theorem mem_sound {l vs r : List Int} {b : Bool} (hb : Byt l) (h : memP l b = (vs, r, false)) : b = false ∧ l = wmem vs ++ r ∧ vs.length ≤ 9 ∧ ∀ v ∈ vs, 0 ≤ v ∧ v ≤ 9223372036854775807 := by
  rw [memP] at h
  obtain ⟨n, r', b', h1⟩ : ∃ a c d, numP l b 1 9 = (a, c, d) := ⟨_, _, _, rfl⟩
  rw [h1] at h
  have hb' : Byt r' := by have := numP_left (bad := b) (n := 1) (m := 9) hb; rw [h1] at this; exact this
  obtain ⟨rfl, e2, h3⟩ := ints_sound hb' n h
  obtain ⟨hbf, e1, h4⟩ := num_sound hb (by decide) h1
  have hn : vs.length = n := by have := intsP_length r' false n; rw [h] at this; exact this
  exact ⟨hbf, by rw [e1, e2, wmem, hn, List.append_assoc], by omega, h3⟩
theorem str_size (xs : List Int) : (strOfNums xs).size = xs.length := by
  simp [strOfNums, ByteArray.size]
theorem bytesOf_str (xs : List Int) (h : ∀ x ∈ xs, 0 ≤ x ∧ x ≤ 255) : bytesOf (strOfNums xs) = xs := by
  unfold bytesOf
  rw [strOfNums_data, List.map_map]
  conv => rhs; rw [← List.map_id xs]
  apply List.map_congr_left
  intro x hx
  have := h x hx
  simp [Function.comp]
  omega
theorem take_sound {l t r : List Int} {b : Bool} {n : Nat} (h : takeP l b n = (t, r, false)) : b = false ∧ l = t ++ r ∧ t.length = n := by
  unfold takeP at h
  split at h
  · cases h
  · rename_i hc
    have hbf : b = false := by cases b <;> simp_all
    subst hbf
    simp at hc
    simp only [Prod.mk.injEq] at h
    obtain ⟨rfl, rfl, _⟩ := h
    exact ⟨rfl, (List.take_append_drop _ _).symm, by rw [List.length_take]; omega⟩
theorem text_sound {l r : List Int} {s : ByteArray} {b : Bool} {most : Nat} (hb : Byt l) (h : textP l b most = (s, r, false)) : b = false ∧ l = wtext s ++ r ∧ s.size ≤ most := by
  rw [textP] at h
  obtain ⟨n, r', b', h1⟩ : ∃ a c d, numP l b 4 most = (a, c, d) := ⟨_, _, _, rfl⟩
  rw [h1] at h
  rcases h2 : takeP r' b' n with ⟨t, r2, b2⟩
  simp only [h2, Prod.mk.injEq] at h
  obtain ⟨rfl, rfl, rfl⟩ := h
  have hb' : Byt r' := by have := numP_left (bad := b) (n := 4) (m := most) hb; rw [h1] at this; exact this
  obtain ⟨rfl, e2, h3⟩ := take_sound h2
  obtain ⟨hbf, e1, h4⟩ := num_sound hb (by decide) h1
  have ht : Byt t := fun x hx => hb' x (by rw [e2]; exact List.mem_append_left _ hx)
  exact ⟨hbf, by rw [e1, e2, wtext, bytesOf_str t ht, str_size, h3, List.append_assoc], by rw [str_size, h3]; exact h4⟩
theorem any_neg {vs : List Int} (h : ∀ v ∈ vs, 0 ≤ v ∧ v ≤ 9223372036854775807) : vs.any (fun x => decide (x < 0)) = false := by
  rw [List.any_eq_false]
  intro x hx
  have := h x hx
  simp; omega
/-- An entry whose numbers can be. -/
def goodE (e : S46) : Prop := (0 ≤ e.f0 ∧ e.f0 ≤ 9223372036854775807) ∧ (0 ≤ e.f1 ∧ e.f1 ≤ 9223372036854775807) ∧ (0 ≤ e.f2 ∧ e.f2 ≤ 9223372036854775807) ∧ e.f3.size ≤ 4000 ∧ e.f4.length ≤ 9 ∧ ∀ v ∈ e.f4, 0 ≤ v ∧ v ≤ 9223372036854775807
theorem goodE.odd {e : S46} (h : goodE e) : oddE e = false := by
  obtain ⟨h0, h1, h2, h3, h4, h5⟩ := h
  rw [oddE, any_neg h5, decide_eq_false (by omega), decide_eq_false (by omega), any_neg (fun v hv => by
    simp at hv
    rcases hv with rfl | rfl | rfl
    · exact h0
    · exact h1
    · exact h2)]
  rfl
theorem entry_sound {l r : List Int} {e : S46} {b : Bool} (hb : Byt l) (h : entryP l b = (e, r, false)) : b = false ∧ l = wentry e ++ r ∧ goodE e := by
  rw [entryP] at h
  rcases h1 : intsP l b 3 with ⟨vs, r1, b1⟩
  simp only [h1] at h
  rcases h2 : textP r1 b1 4000 with ⟨s, r2, b2⟩
  simp only [h2] at h
  rcases h3 : memP r2 b2 with ⟨ms, r3, b3⟩
  simp only [h3, Prod.mk.injEq] at h
  obtain ⟨rfl, rfl, rfl⟩ := h
  have hb1 : Byt r1 := by have := intsP_left (bad := b) hb 3; rw [h1] at this; exact this
  have hb2 : Byt r2 := by have := textP_left (bad := b1) (m := 4000) hb1; rw [h2] at this; exact this
  obtain ⟨rfl, e3, g1, g2⟩ := mem_sound hb2 h3
  obtain ⟨rfl, e2, g3⟩ := text_sound hb1 h2
  obtain ⟨hbf, e1, g4⟩ := ints_sound hb 3 h1
  have hl : vs.length = 3 := by have := intsP_length l b 3; rw [h1] at this; exact this
  match vs, hl with
  | [x0, x1, x2], _ =>
    refine ⟨hbf, by rw [e1, e2, e3, wentry, List.append_assoc, List.append_assoc]; rfl, g4 x0 (by simp), g4 x1 (by simp), g4 x2 (by simp), g3, g1, g2⟩
theorem entL_sound : ∀ (k : Nat) {acc : List S46} {l r : List Int} {es : List S46} {b : Bool}, Byt l → entL k acc l b = (es, r, false) → b = false ∧ ∃ es', es = acc ++ es' ∧ es'.length = k ∧ l = es'.flatMap wentry ++ r ∧ ∀ e ∈ es', goodE e
  | 0, acc, l, r, es, b, hb, h => by
    rw [entL] at h
    cases h
    exact ⟨rfl, [], by simp, rfl, by simp, fun e he => by cases he⟩
  | k + 1, acc, l, r, es, b, hb, h => by
    rw [entL] at h
    split at h
    · rename_i hc; cases h; cases hc
    · rename_i hc
      rcases h1 : entryP l b with ⟨e, r1, b1⟩
      rw [h1] at h
      have hb1 : Byt r1 := by have q : ∀ x ∈ (entryP l b).2.1, 0 ≤ x ∧ x ≤ 255 := entryP_left (P := fun x => 0 ≤ x ∧ x ≤ 255) hb; rw [h1] at q; exact q
      obtain ⟨rfl, es', e1, e2, e3, g⟩ := entL_sound k hb1 h
      obtain ⟨hbf, e4, ge⟩ := entry_sound hb h1
      exact ⟨hbf, e :: es', by rw [e1]; simp, by rw [List.length_cons, e2], by rw [e4, e3, List.flatMap_cons, List.append_assoc], fun x hx => by
        rcases List.mem_cons.1 hx with rfl | hx
        · exact ge
        · exact g x hx⟩
theorem ents_sound {l r : List Int} {es : List S46} {b : Bool} (hb : Byt l) (h : entP l b = (es, r, false)) : b = false ∧ l = wents es ++ r ∧ es.length ≤ 8 ∧ ∀ e ∈ es, goodE e := by
  rw [entP] at h
  obtain ⟨n, r', b', h1⟩ : ∃ a c d, numP l b 1 8 = (a, c, d) := ⟨_, _, _, rfl⟩
  rw [h1] at h
  have hb' : Byt r' := by have := numP_left (bad := b) (n := 1) (m := 8) hb; rw [h1] at this; exact this
  obtain ⟨rfl, es', e1, e2, e3, g⟩ := entL_sound n hb' h
  obtain ⟨hbf, e4, h4⟩ := num_sound hb (by decide) h1
  rw [List.nil_append] at e1
  subst e1
  exact ⟨hbf, by rw [e4, e3, wents, e2, List.append_assoc], by omega, g⟩
/-- A message of which the fields that its kind names can be, and the others are zero. -/
def goodM (m : M13) : Prop := (0 ≤ m.fr ∧ m.fr ≤ 9223372036854775807) ∧ (0 ≤ m.tt ∧ m.tt ≤ 9223372036854775807) ∧ (0 ≤ m.tm ∧ m.tm ≤ 9223372036854775807) ∧
  ((m.kd = 1 ∧ ∃ x y, (0 ≤ x ∧ x ≤ 9223372036854775807) ∧ (0 ≤ y ∧ y ≤ 9223372036854775807) ∧ m = ⟨1, m.fr, m.tt, m.tm, x, y, 0, false, [], 0, 0, [], ⟨#[]⟩⟩) ∨
   (m.kd = 2 ∧ ∃ y, m = ⟨2, m.fr, m.tt, m.tm, 0, 0, 0, y, [], 0, 0, [], ⟨#[]⟩⟩) ∨
   (m.kd = 3 ∧ ∃ x y z es, (0 ≤ x ∧ x ≤ 9223372036854775807) ∧ (0 ≤ y ∧ y ≤ 9223372036854775807) ∧ (0 ≤ z ∧ z ≤ 9223372036854775807) ∧ es.length ≤ 8 ∧ (∀ e ∈ es, goodE e) ∧ m = ⟨3, m.fr, m.tt, m.tm, x, y, z, false, es, 0, 0, [], ⟨#[]⟩⟩) ∨
   (m.kd = 4 ∧ ∃ x y, (0 ≤ x ∧ x ≤ 9223372036854775807) ∧ m = ⟨4, m.fr, m.tt, m.tm, x, 0, 0, y, [], 0, 0, [], ⟨#[]⟩⟩) ∨
   (m.kd = 5 ∧ ∃ x y ms s, (0 ≤ x ∧ x ≤ 9223372036854775807) ∧ (0 ≤ y ∧ y ≤ 9223372036854775807) ∧ ms.length ≤ 9 ∧ (∀ v ∈ ms, 0 ≤ v ∧ v ≤ 9223372036854775807) ∧ s.size ≤ 65536 ∧ m = ⟨5, m.fr, m.tt, m.tm, 0, 0, 0, false, [], x, y, ms, s⟩))
theorem goodM.bad {m : M13} (h : goodM m) : badW m = false := by
  obtain ⟨h1, h2, h3, h4⟩ := h
  have hn : [m.fr, m.tt, m.tm].any (fun x => decide (x < 0)) = false := any_neg (fun v hv => by
    simp at hv
    rcases hv with rfl | rfl | rfl
    · exact h1
    · exact h2
    · exact h3)
  rcases h4 with ⟨_, x, y, hx, hy, hm⟩ | ⟨_, y, hm⟩ | ⟨_, x, y, z, es, hx, hy, hz, he, hg, hm⟩ | ⟨_, x, y, hx, hm⟩ | ⟨_, x, y, ms, s, hx, hy, h9, hg, hs, hm⟩
  · rw [hm, badW_1, hn, any_neg (fun v hv => by
      simp at hv
      rcases hv with rfl | rfl
      · exact hx
      · exact hy)]
    rfl
  · rw [hm, badW_2, hn]; rfl
  · rw [hm, badW_3, hn, any_neg (fun v hv => by
      simp at hv
      rcases hv with rfl | rfl | rfl
      · exact hx
      · exact hy
      · exact hz), decide_eq_false (by omega)]
    simp only [Bool.false_or]
    rw [List.any_eq_false]
    intro e he2
    rw [(hg e he2).odd]; simp
  · rw [hm, badW_4, hn, any_neg (fun v hv => by simp at hv; subst hv; exact hx)]; rfl
  · rw [hm, badW_5, hn, any_neg (fun v hv => by
      simp at hv
      rcases hv with rfl | rfl
      · exact hx
      · exact hy), any_neg hg, decide_eq_false (by omega), decide_eq_false (by omega)]
    rfl
theorem yes_num {v : Nat} (h : v ≤ 1) : [if ((v : Int) == 1) = true then (1 : Int) else 0] = wnum v 1 := by
  have : v = 0 ∨ v = 1 := by omega
  rcases this with rfl | rfl <;> rfl
theorem raw_sound {l r : List Int} {m : M13} (hb : Byt l) (h : rawP l = (m, r, false)) : l = rawW m ++ r ∧ goodM m := by
  rcases h0 : numP l false 1 5 with ⟨k, r0, b0⟩
  rcases h1 : intsP r0 b0 3 with ⟨vs, r1, b1⟩
  have hH : headP l = (k, vs, r1, b1) := by rw [headP, h0, h1]
  rw [rawP, hH] at h
  have hb0 : Byt r0 := by have q : ∀ x ∈ (numP l false 1 5).2.1, 0 ≤ x ∧ x ≤ 255 := numP_left (P := fun x => 0 ≤ x ∧ x ≤ 255) hb; rw [h0] at q; exact q
  have hb1 : Byt r1 := by have q : ∀ x ∈ (intsP r0 b0 3).2.1, 0 ≤ x ∧ x ≤ 255 := intsP_left (P := fun x => 0 ≤ x ∧ x ≤ 255) hb0 3; rw [h1] at q; exact q
  have hl : vs.length = 3 := by have := intsP_length r0 b0 3; rw [h1] at this; exact this
  have key : b1 = false → l = wnum k 1 ++ wints vs ++ r1 ∧ ∀ v ∈ vs, 0 ≤ v ∧ v ≤ 9223372036854775807 := fun hbf => by
    subst hbf
    obtain ⟨rfl, e1, g⟩ := ints_sound hb0 3 h1
    obtain ⟨_, e0, _⟩ := num_sound hb (by decide) h0
    exact ⟨by rw [e0, e1, List.append_assoc], g⟩
  match vs, hl with
  | [x0, x1, x2], _ =>
    have hk5 : k ≤ 5 := by have := numP_le l false 1 5; rw [h0] at this; exact this
    obtain hk | hk | hk | hk | hk | hk : k = 0 ∨ k = 1 ∨ k = 2 ∨ k = 3 ∨ k = 4 ∨ k = 5 := by omega
    · subst hk
      exact absurd (congrArg (fun p => p.2.2) h) (by show ¬ (true = false); decide)
    · subst hk
      simp only [bodyP_1] at h
      rcases h2 : intsP r1 b1 2 with ⟨ws, r2, b2⟩
      simp only [h2, Prod.mk.injEq] at h
      obtain ⟨rfl, rfl, rfl⟩ := h
      have hw : ws.length = 2 := by have := intsP_length r1 b1 2; rw [h2] at this; exact this
      obtain ⟨rfl, e2, g2⟩ := ints_sound hb1 2 h2
      obtain ⟨e, g⟩ := key rfl
      match ws, hw with
      | [y0, y1], _ => exact ⟨by rw [rawW_1, e, e2]; simp only [List.append_assoc]; rfl, g x0 (by simp), g x1 (by simp), g x2 (by simp), .inl ⟨rfl, y0, y1, g2 y0 (by simp), g2 y1 (by simp), rfl⟩⟩
    · subst hk
      simp only [bodyP_2] at h
      rcases h2 : numP r1 b1 1 1 with ⟨v, r2, b2⟩
      simp only [h2, Prod.mk.injEq] at h
      obtain ⟨rfl, rfl, rfl⟩ := h
      obtain ⟨rfl, e2, g2⟩ := num_sound hb1 (by decide) h2
      obtain ⟨e, g⟩ := key rfl
      refine ⟨?_, g x0 (by simp), g x1 (by simp), g x2 (by simp), .inr (.inl ⟨rfl, _, rfl⟩)⟩
      rw [rawW_2, e, e2, yes_num g2]; simp only [List.append_assoc]; rfl
    · subst hk
      simp only [bodyP_3] at h
      rcases h2 : intsP r1 b1 3 with ⟨ws, r2, b2⟩
      simp only [h2] at h
      rcases h3 : entP r2 b2 with ⟨es, r3, b3⟩
      simp only [h3, Prod.mk.injEq] at h
      obtain ⟨rfl, rfl, rfl⟩ := h
      have hw : ws.length = 3 := by have := intsP_length r1 b1 3; rw [h2] at this; exact this
      have hb2 : Byt r2 := by have q : ∀ x ∈ (intsP r1 b1 3).2.1, 0 ≤ x ∧ x ≤ 255 := intsP_left (P := fun x => 0 ≤ x ∧ x ≤ 255) hb1 3; rw [h2] at q; exact q
      obtain ⟨rfl, e3, g3, g4⟩ := ents_sound hb2 h3
      obtain ⟨rfl, e2, g2⟩ := ints_sound hb1 3 h2
      obtain ⟨e, g⟩ := key rfl
      match ws, hw with
      | [y0, y1, y2], _ => exact ⟨by rw [rawW_3, e, e2, e3]; simp only [List.append_assoc]; rfl, g x0 (by simp), g x1 (by simp), g x2 (by simp), .inr (.inr (.inl ⟨rfl, y0, y1, y2, es, g2 y0 (by simp), g2 y1 (by simp), g2 y2 (by simp), g3, g4, rfl⟩))⟩
    · subst hk
      simp only [bodyP_4] at h
      rcases h2 : numP r1 b1 1 1 with ⟨v, r2, b2⟩
      simp only [h2] at h
      rcases h3 : intsP r2 b2 1 with ⟨ws, r3, b3⟩
      simp only [h3, Prod.mk.injEq] at h
      obtain ⟨rfl, rfl, rfl⟩ := h
      have hw : ws.length = 1 := by have := intsP_length r2 b2 1; rw [h3] at this; exact this
      have hb2 : Byt r2 := by have q : ∀ x ∈ (numP r1 b1 1 1).2.1, 0 ≤ x ∧ x ≤ 255 := numP_left (P := fun x => 0 ≤ x ∧ x ≤ 255) hb1; rw [h2] at q; exact q
      obtain ⟨rfl, e3, g3⟩ := ints_sound hb2 1 h3
      obtain ⟨rfl, e2, g2⟩ := num_sound hb1 (by decide) h2
      obtain ⟨e, g⟩ := key rfl
      match ws, hw with
      | [y0], _ =>
        refine ⟨?_, g x0 (by simp), g x1 (by simp), g x2 (by simp), .inr (.inr (.inr (.inl ⟨rfl, y0, _, g3 y0 (by simp), rfl⟩)))⟩
        show l = rawW ⟨4, _, _, _, _, _, _, _, _, _, _, _, _⟩ ++ _
        rw [rawW_4, e, e2, e3, yes_num g2]; simp only [List.append_assoc]; rfl
    · subst hk
      simp only [bodyP_5] at h
      rcases h2 : intsP r1 b1 2 with ⟨ws, r2, b2⟩
      simp only [h2] at h
      rcases h3 : memP r2 b2 with ⟨ms, r3, b3⟩
      simp only [h3] at h
      rcases h4 : textP r3 b3 65536 with ⟨s, r4, b4⟩
      simp only [h4, Prod.mk.injEq] at h
      obtain ⟨rfl, rfl, rfl⟩ := h
      have hw : ws.length = 2 := by have := intsP_length r1 b1 2; rw [h2] at this; exact this
      have hb2 : Byt r2 := by have q : ∀ x ∈ (intsP r1 b1 2).2.1, 0 ≤ x ∧ x ≤ 255 := intsP_left (P := fun x => 0 ≤ x ∧ x ≤ 255) hb1 2; rw [h2] at q; exact q
      have hb3 : Byt r3 := by have q : ∀ x ∈ (memP r2 b2).2.1, 0 ≤ x ∧ x ≤ 255 := memP_left (P := fun x => 0 ≤ x ∧ x ≤ 255) hb2; rw [h3] at q; exact q
      obtain ⟨rfl, e4, g4⟩ := text_sound hb3 h4
      obtain ⟨rfl, e3, g3, g3'⟩ := mem_sound hb2 h3
      obtain ⟨rfl, e2, g2⟩ := ints_sound hb1 2 h2
      obtain ⟨e, g⟩ := key rfl
      match ws, hw with
      | [y0, y1], _ => exact ⟨by rw [rawW_5, e, e2, e3, e4]; simp only [List.append_assoc]; rfl, g x0 (by simp), g x1 (by simp), g x2 (by simp), .inr (.inr (.inr (.inr ⟨rfl, y0, y1, ms, s, g2 y0 (by simp), g2 y1 (by simp), g3, g3', g4, rfl⟩)))⟩
end Go.Proofs.Ytbemfgpdfacdpaa.Ms
namespace Go.Proofs.Ytbemfgpdfacdpaa.Ms
open Go.RowKit Go.Proofs.Ytbemfgpdfacdpaa.Pr Go.Proofs.YtbemfgpdfacdpaaW.PrintWords Go.Proofs.YtbemfgpdfacdpaaW.PrintLast Go.Proofs.YtbemfgpdfacdpaaW.PrintMore
set_option linter.unusedVariables false
set_option linter.unusedSimpArgs false
theorem dec_sound {l : List Int} {m : M13} (hb : Byt l) (h : decP l = some m) : l = rawW m ∧ goodM m := by
  rw [decP] at h
  split at h
  · cases h
  · rename_i hc
    simp only [not_or, Bool.not_eq_true, ne_eq, Decidable.not_not] at hc
    cases h
    rcases hr : rawP l with ⟨m, r, b⟩
    rw [hr] at hc
    obtain ⟨h1, h2, _⟩ := hc
    simp only at h1 h2
    subst h1 h2
    have := raw_sound hb hr
    rw [List.append_nil] at this
    exact this
theorem sameP_self (m : M13) : sameP m m = true := decide_eq_true ⟨rfl, rfl, rfl, rfl, rfl, rfl, rfl, rfl, rfl, rfl, rfl, rfl, rfl⟩
theorem add_nil (ad : Addr) : ad.add 0 = ad := by
  cases ad
  unfold Addr.add
  split <;> simp_all
theorem addL (ad : Addr) (k : Nat) (h : k ≠ 0) : ad.add k = ⟨ad.block, ad.off + k, none⟩ := by
  unfold Addr.add
  split <;> simp_all
def MA : M13 := ⟨2, 1, 2, 3, 0, 0, 0, true, [], 0, 0, [], ⟨#[]⟩⟩
def BA : List Int := [2, 0, 0, 0, 0, 0, 0, 0, 1, 0, 0, 0, 0, 0, 0, 0, 2, 0, 0, 0, 0, 0, 0, 0, 3, 1]
theorem encA : encP MA = some BA := by
  have h : (encP MA == some BA) = true := by decide +kernel
  exact eq_of_beq h
set_option maxHeartbeats 4000000 in
set_option maxRecDepth 100000 in
theorem awake_calls (w : World) : Calls Try.prog 9 #[] w fun e w' => e = .returned (.bool true) ∧ Below w.heap.size w w' := by
  go_enter Try.func9, Try.ntmps9
  go_wp2_with fail
  refine (encode_calls MA none 0 0 none 0 0 w (Kd.C_nil _ _) rfl (Nat.le_refl _) (Kd.C_nil _ _) rfl (Nat.le_refl _) (by decide +kernel) (by decide)).mono ?_
  rw [encA]
  rintro e u ⟨⟨A, n, c, rfl, hn, hc, hC⟩, hB⟩
  have hn' : n = 26 := hn
  subst hn'
  have hC' : (Kd.int .u8).C u A BA.length BA := hC
  obtain ⟨ad, hA, hc0⟩ := Kd.at_int hC' (0 : Int) (by decide) (by decide)
  obtain ⟨ad8, hA8, hc8⟩ := Kd.at_int hC' (8 : Int) (by decide) (by decide)
  obtain ⟨ad16, hA16, hc16⟩ := Kd.at_int hC' (16 : Int) (by decide) (by decide)
  obtain ⟨ad24, hA24, hc24⟩ := Kd.at_int hC' (24 : Int) (by decide) (by decide)
  obtain ⟨ad25, hA25, hc25⟩ := Kd.at_int hC' (25 : Int) (by decide) (by decide)
  subst hA
  cases hA8; cases hA16; cases hA24; cases hA25
  have k0 : u.cell? ad = some (.int .u8 2) := by
    have q : u.cell? (ad.add 0) = some (.int .u8 2) := hc0
    rw [add_nil] at q
    exact q
  have k8 : u.cell? ⟨ad.block, ad.off + 8, none⟩ = some (.int .u8 1) := by rw [← addL ad 8 (by decide)]; exact hc8
  have k16 : u.cell? ⟨ad.block, ad.off + 16, none⟩ = some (.int .u8 2) := by rw [← addL ad 16 (by decide)]; exact hc16
  have k24 : u.cell? ⟨ad.block, ad.off + 24, none⟩ = some (.int .u8 3) := by rw [← addL ad 24 (by decide)]; exact hc24
  have k25 : u.cell? ⟨ad.block, ad.off + 25, none⟩ = some (.int .u8 1) := by rw [← addL ad 25 (by decide)]; exact hc25
  have HB := Aside0.mk hB
  clear hc0 hc8 hc16 hc24 hc25 hC hC' hn hB
  simp only [Option.isSome_some, ↓reduceIte]
  go_wp2
  go_ret
  exact ⟨rfl, HB.out⟩
end Go.Proofs.Ytbemfgpdfacdpaa.Ms
